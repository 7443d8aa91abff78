/- Rows: the least, a piece. -/
import Derived.Test.YtaldfcjengfibaaPwT12
import Derived.Test.YtaldfcjengfibaaPwT10
import Derived.Test.YtaldfcjengfibaaProg
import Derived.KernelRfl
set_option linter.unusedSimpArgs false
set_option linter.unusedVariables false
set_option linter.unusedSimpArgs false
set_option maxRecDepth 20000
namespace Go.Proofs.Pw
set_option linter.unusedSectionVars false
variable [Globs]
def x_RowLeastI : X := (.seq (.reg [⟨some 1, none, .box (.t 0) (some 5)⟩, ⟨some 2, none, .alloc [(.c (.int .i64 0)), (.c (.int .i64 0)), (.c (.str ⟨#[]⟩)), (.z 1), (.z 5)]⟩, ⟨some 3, none, .mv (.k (.c (.bool false)))⟩] none [1, 2]) (.seq (.seq (.reg [⟨some 4, none, .load (.t 1) (some 5)⟩, ⟨some 5, none, .call 27 [(.t 4)]⟩, ⟨some 6, none, .not (.t 5)⟩] none [1, 2, 6]) (.cond (.t 6) (.seq (.reg [⟨some 7, none, .build [(.c (.int .i64 0)), (.c (.int .i64 0)), (.c (.str ⟨#[]⟩)), (.z 1), (.z 5)] []⟩, ⟨none, none, .st (.t 2) (.t 7) (some 5)⟩, ⟨some 3, none, .mv (.k (.c (.bool false)))⟩] none [2, 3]) .ret) .skip)) (.seq (.seq (.reg [⟨some 8, none, .fa (.t 1) 4⟩, ⟨some 9, none, .load (.t 8) none⟩, ⟨some 10, none, .len (.t 9) false⟩, ⟨some 11, none, .bin false .eql (.t 10) (.k (.c (.int .i64 0)))⟩] none [1, 2, 11]) (.cond (.t 11) (.seq (.reg [⟨some 12, none, .build [(.c (.int .i64 0)), (.c (.int .i64 0)), (.c (.str ⟨#[]⟩)), (.z 1), (.z 5)] []⟩, ⟨none, none, .st (.t 2) (.t 12) (some 5)⟩, ⟨some 3, none, .mv (.k (.c (.bool true)))⟩] none [2, 3]) .ret) .skip)) (.seq (.reg [⟨some 13, none, .fa (.t 1) 4⟩, ⟨some 14, none, .load (.t 13) none⟩, ⟨some 15, none, .call 43 [(.t 14)]⟩, ⟨some 16, none, .ia (.t 15) (.k (.c (.int .i64 0))) 5⟩, ⟨some 17, none, .load (.t 16) (some 5)⟩, ⟨some 18, none, .call 28 [(.t 17), (.k (.c (.bool true)))]⟩, ⟨some 19, none, .ext (.t 18) 0⟩, ⟨some 20, none, .ext (.t 18) 1⟩, ⟨none, none, .st (.t 2) (.t 19) (some 5)⟩, ⟨some 3, none, .mv (.t 20)⟩] none [2, 3]) .ret))))
theorem chk_RowLeastI : chkX Go.Proofs.Try.prog 21 (Go.Proofs.Try.f17.body.getD .skip) x_RowLeastI = true := by kernel_rfl
theorem rs_RowLeastI : okRs Go.Proofs.Try.prog Go.Proofs.Try.f17.results.toList [.cell 2 (some 5), .tmp 3] = true := by kernel_rfl
theorem call_RowLeastI : okCallee Go.Proofs.Try.prog 17 = true := by kernel_rfl
def x_row : X := (.seq (.reg [⟨some 2, none, .alloc [(.c (.int .i64 0)), (.c (.int .i64 0)), (.c (.str ⟨#[]⟩)), (.z 1), (.z 5)]⟩] none [0, 2]) (.seq (.reg [⟨some 3, none, .mv (.t 0)⟩, ⟨some 4, none, .build [(.c (.int .i64 0)), (.c (.int .i64 0)), (.c (.str ⟨#[]⟩)), (.z 1), (.z 5)] [(0, (.k (.c (.int .i64 5))), none), (4, (.t 3), none)]⟩, ⟨none, none, .st (.t 2) (.t 4) (some 5)⟩] none [2]) .ret))
theorem chk_row : chkX Go.Proofs.Try.prog 5 (Go.Proofs.Try.f32.body.getD .skip) x_row = true := by kernel_rfl
theorem rs_row : okRs Go.Proofs.Try.prog Go.Proofs.Try.f32.results.toList [.cell 2 (some 5)] = true := by kernel_rfl
theorem call_row : okCallee Go.Proofs.Try.prog 32 = true := by kernel_rfl
def x_span1 : X := (.seq (.reg [⟨some 3, none, .mv (.k (.c (.int .i64 0)))⟩] none [0, 1]) (.seq (.seq (.reg [⟨some 4, none, .mv (.t 0)⟩, ⟨some 5, none, .bin false .lss (.t 4) (.k (.c (.int .i64 0)))⟩] none [0, 1, 5]) (.cond (.t 5) (.reg [⟨some 6, none, .mv (.t 0)⟩, ⟨some 7, none, .load (.t 1) none⟩, ⟨some 8, none, .bin false .add (.t 6) (.t 7)⟩, ⟨some 0, none, .mv (.t 8)⟩] none [0, 1]) .skip)) (.seq (.reg [⟨some 9, none, .mv (.t 0)⟩, ⟨some 10, none, .mm true (.t 9) (.k (.c (.int .i64 0)))⟩, ⟨some 11, none, .load (.t 1) none⟩, ⟨some 12, none, .mm false (.t 10) (.t 11)⟩, ⟨some 3, none, .mv (.t 12)⟩] none [3]) .ret)))
theorem chk_span1 : chkX Go.Proofs.Try.prog 13 (Go.Proofs.Try.f67.body.getD .skip) x_span1 = true := by kernel_rfl
theorem rs_span1 : okRs Go.Proofs.Try.prog Go.Proofs.Try.f67.results.toList [.tmp 3] = true := by kernel_rfl
theorem call_span1 : okCallee Go.Proofs.Try.prog 67 = true := by kernel_rfl
def x_span : X := (.seq (.reg [⟨some 5, none, .box (.t 2) none⟩, ⟨some 6, none, .mv (.k (.c (.int .i64 0)))⟩, ⟨some 7, none, .mv (.k (.c (.int .i64 0)))⟩] none [0, 1, 5]) (.seq (.reg [⟨some 9, none, .mkf 67 (.t 5)⟩, ⟨some 8, none, .mv (.t 9)⟩] none [0, 1, 8]) (.seq (.reg [⟨some 10, none, .mv (.t 8)⟩, ⟨some 11, none, .mv (.t 0)⟩, ⟨some 12, none, .calli (.t 10) [(.t 11)]⟩, ⟨some 13, none, .mv (.t 8)⟩, ⟨some 14, none, .mv (.t 1)⟩, ⟨some 15, none, .calli (.t 13) [(.t 14)]⟩, ⟨some 0, none, .mv (.t 12)⟩, ⟨some 1, none, .mv (.t 15)⟩] none [0, 1]) (.seq (.reg [⟨some 16, none, .mv (.t 0)⟩, ⟨some 17, none, .mv (.t 0)⟩, ⟨some 18, none, .mv (.t 1)⟩, ⟨some 19, none, .mm true (.t 17) (.t 18)⟩, ⟨some 6, none, .mv (.t 16)⟩, ⟨some 7, none, .mv (.t 19)⟩] none [6, 7]) .ret))))
theorem chk_span : chkX Go.Proofs.Try.prog 20 (Go.Proofs.Try.f36.body.getD .skip) x_span = true := by kernel_rfl
theorem rs_span : okRs Go.Proofs.Try.prog Go.Proofs.Try.f36.results.toList [.tmp 6, .tmp 7] = true := by kernel_rfl
theorem call_span : okCallee Go.Proofs.Try.prog 36 = true := by kernel_rfl
def x_RowCutI : X := (.seq (.reg [⟨some 3, none, .box (.t 0) (some 5)⟩, ⟨some 6, none, .alloc [(.c (.int .i64 0)), (.c (.int .i64 0)), (.c (.str ⟨#[]⟩)), (.z 1), (.z 5)]⟩, ⟨some 7, none, .mv (.k (.c (.bool false)))⟩] none [1, 2, 3, 6]) (.seq (.block 0 (.seq (.reg [⟨some 13, none, .load (.t 3) (some 5)⟩, ⟨some 14, none, .call 35 [(.t 13)]⟩, ⟨some 15, none, .not (.t 14)⟩, ⟨some 12, none, .mv (.t 15)⟩] none [1, 2, 3, 6, 12]) (.cond (.t 12) (.seq (.reg [⟨some 16, none, .build [(.c (.int .i64 0)), (.c (.int .i64 0)), (.c (.str ⟨#[]⟩)), (.z 1), (.z 5)] []⟩, ⟨none, none, .st (.t 6) (.t 16) (some 5)⟩, ⟨some 7, none, .mv (.k (.c (.bool false)))⟩] none [6, 7]) .ret) (.seq (.reg [⟨some 18, none, .fa (.t 3) 0⟩, ⟨some 19, none, .load (.t 18) none⟩, ⟨some 20, none, .bin false .eql (.t 19) (.k (.c (.int .i64 4)))⟩, ⟨some 17, none, .mv (.t 20)⟩] none [1, 2, 3, 6, 17]) (.cond (.t 17) (.seq (.reg [⟨some 22, none, .mv (.t 1)⟩, ⟨some 23, none, .mv (.t 2)⟩, ⟨some 24, none, .fa (.t 3) 2⟩, ⟨some 25, none, .load (.t 24) none⟩, ⟨some 26, none, .len (.t 25) true⟩, ⟨some 27, none, .call 36 [(.t 22), (.t 23), (.t 26)]⟩, ⟨some 21, none, .mv (.t 27)⟩, ⟨some 28, none, .ext (.t 21) 0⟩, ⟨some 29, none, .ext (.t 21) 1⟩, ⟨some 8, none, .mv (.t 28)⟩, ⟨some 9, none, .mv (.t 29)⟩] none [3, 6, 8, 9]) (.seq (.reg [⟨some 30, none, .fa (.t 3) 2⟩, ⟨some 31, none, .load (.t 30) none⟩, ⟨some 32, none, .mv (.t 8)⟩, ⟨some 33, none, .mv (.t 9)⟩, ⟨some 34, none, .sub (.t 31) (some (.t 32)) (some (.t 33)) 0⟩, ⟨some 35, none, .call 37 [(.t 34)]⟩, ⟨some 36, none, .call 28 [(.t 35), (.k (.c (.bool true)))]⟩, ⟨some 37, none, .ext (.t 36) 0⟩, ⟨some 38, none, .ext (.t 36) 1⟩, ⟨none, none, .st (.t 6) (.t 37) (some 5)⟩, ⟨some 7, none, .mv (.t 38)⟩] none [6, 7]) .ret)) (.seq (.reg [⟨some 40, none, .fa (.t 3) 0⟩, ⟨some 41, none, .load (.t 40) none⟩, ⟨some 42, none, .bin false .eql (.t 41) (.k (.c (.int .i64 5)))⟩, ⟨some 39, none, .mv (.t 42)⟩] none [1, 2, 3, 6, 39]) (.cond (.t 39) (.seq (.reg [⟨some 44, none, .mv (.t 1)⟩, ⟨some 45, none, .mv (.t 2)⟩, ⟨some 46, none, .fa (.t 3) 4⟩, ⟨some 47, none, .load (.t 46) none⟩, ⟨some 48, none, .len (.t 47) false⟩, ⟨some 49, none, .call 36 [(.t 44), (.t 45), (.t 48)]⟩, ⟨some 43, none, .mv (.t 49)⟩, ⟨some 50, none, .ext (.t 43) 0⟩, ⟨some 51, none, .ext (.t 43) 1⟩, ⟨some 10, none, .mv (.t 50)⟩, ⟨some 11, none, .mv (.t 51)⟩] none [3, 6, 10, 11]) (.seq (.reg [⟨some 52, none, .fa (.t 3) 4⟩, ⟨some 53, none, .load (.t 52) none⟩, ⟨some 54, none, .mv (.t 10)⟩, ⟨some 55, none, .mv (.t 11)⟩, ⟨some 56, none, .sub (.t 53) (some (.t 54)) (some (.t 55)) 5⟩, ⟨some 57, none, .call 32 [(.t 56)]⟩, ⟨some 58, none, .call 28 [(.t 57), (.k (.c (.bool true)))]⟩, ⟨some 59, none, .ext (.t 58) 0⟩, ⟨some 60, none, .ext (.t 58) 1⟩, ⟨none, none, .st (.t 6) (.t 59) (some 5)⟩, ⟨some 7, none, .mv (.t 60)⟩] none [6, 7]) .ret)) .skip))))))) (.seq (.reg [⟨some 61, none, .build [(.c (.int .i64 0)), (.c (.int .i64 0)), (.c (.str ⟨#[]⟩)), (.z 1), (.z 5)] []⟩, ⟨none, none, .st (.t 6) (.t 61) (some 5)⟩, ⟨some 7, none, .mv (.k (.c (.bool false)))⟩] none [6, 7]) .ret)))
theorem chk_RowCutI : chkX Go.Proofs.Try.prog 62 (Go.Proofs.Try.f12.body.getD .skip) x_RowCutI = true := by kernel_rfl
theorem rs_RowCutI : okRs Go.Proofs.Try.prog Go.Proofs.Try.f12.results.toList [.cell 6 (some 5), .tmp 7] = true := by kernel_rfl
theorem call_RowCutI : okCallee Go.Proofs.Try.prog 12 = true := by kernel_rfl
open Classical in
noncomputable def leastT (v : T) : T := if rowT v then toldT true ((sortC cmpT v.list).headD T.zero) else T.zero
def leastOk (v : T) : Prop := rowT v ∧ okT ((sortC cmpT v.list).headD T.zero)
noncomputable instance (t : T) : Decidable (leastOk t) := Classical.propDecidable _
theorem okT_zero : okT T.zero := ⟨by simp [T.zero, formT, formL, okS_nil], by simp [T.zero, manyT, manyL]⟩
theorem T.fit_list {B : Int} {k n : Int} {s : ByteArray} {ks : List ByteArray} {l : List T} (h : (T.mk k n s ks l).fit B) : lenB B l.length ∧ fitL B l := h.2.2.2.2
noncomputable def spLeastI  : Spec := Spec.of (ι := T) [false] (fun i => [.d (.agg i.enc)]) (fun i => i.fit 1000000 ∧ i.list.length < 20) (fun i => [.d (.agg (leastT i).enc), .d (.one (.bool (decide (leastOk i))))]) (fun _ => [.gone])
theorem spLeastI_inj : ∀ i j : T, (fun (i : T) => ([.d (.agg i.enc)] : List AV)) i = (fun (i : T) => ([.d (.agg i.enc)] : List AV)) j → i = j := by
  intro v v' h
  simpa [strs_eq, T.enc_eq, encL_eq, F.enc_eq, encF_eq, Tk.enc_eq, encTk_eq, Gn.enc_eq, ints_eq] using h
theorem spLeastI_md  : (spLeastI).md = [false] := rfl
theorem spLeastI_pre  (v : T) : (spLeastI).pre [.d (.agg v.enc)] = (v.fit 1000000 ∧ v.list.length < 20) := Spec.of_pre' spLeastI_inj v
theorem spLeastI_alts  : (spLeastI).alts = none := rfl
theorem spLeastI_res  (v : T) : (spLeastI).res [.d (.agg v.enc)] = [.d (.agg (leastT v).enc), .d (.one (.bool (decide (leastOk v))))] := Spec.of_res spLeastI_inj v
theorem spLeastI_out  (v : T) : (spLeastI).out [.d (.agg v.enc)] = [.gone] := Spec.of_out spLeastI_inj v
theorem RowLeastI_sound : Sound Go.Proofs.Try.prog 17 spLeastI := by
  refine sound_fam (GOK.cons (l := [(43, spOrdered), (28, spTold)]) call_isRow isRow_sound (GOK.cons call_ordered ordered_sound (GOK.cons call_told told_sound GOK.nil))) Go.Proofs.Try.func17 (c := Go.Proofs.Try.f17.body.getD .skip) rfl (n := 21) rfl chk_RowLeastI rs_RowLeastI (fun _ => by simp) ?_ ?_
  · exact spLeastI_inj
  · rintro v ⟨h1, h2⟩
    have f3 := T.enc_len v
    obtain ⟨k, n, s, ks, l⟩ := v
    have g1 : (T.mk k n s ks l).fit 140737488355328 := T.fit_mono (by decide) h1
    have g2 := (T.fit_list h1).2
    have g3 := (T.fit_list g1).2
    simp only [T.list] at h2
    by_cases c : rowT (.mk k n s ks l)
    · cases l with
      | nil =>
        have e : leastT (T.mk k n s ks []) = T.zero := by simp [leastT, c, T.list, sortC, toldT, okT_zero]
        have e' : leastOk (T.mk k n s ks []) = True := eq_true ⟨c, by simpa [T.list, sortC] using okT_zero⟩
        have b1 : (((0 : Nat) : Int) = 0) = True := by simp
        simp only [x_RowLeastI, rg, go_sem, seval, T.enc, foldT, encL_len, b1, e, e', c, spIsRow_md, spIsRow_pre, spIsRow_alts, spIsRow_res, spIsRow_out, spOrdered_md, spOrdered_pre, spOrdered_alts, spOrdered_res, spOrdered_out, spTold_md, spTold_pre, spTold_alts, spTold_res, spTold_out]
        exact ⟨g1, fun _ => T.zero_enc⟩
      | cons x l =>
        obtain ⟨y, r, hy⟩ : ∃ y r, sortC cmpT (x :: l) = y :: r := by
          cases h : sortC cmpT (x :: l) with
          | nil => have := (sortC_perm cmpT_is (x :: l)).length_eq; rw [h] at this; simp at this
          | cons y r => exact ⟨y, r, rfl⟩
        have hmem : y ∈ x :: l := (sortC_perm cmpT_is (x :: l)).mem_iff.1 (by rw [hy]; simp)
        have e : leastT (T.mk k n s ks (x :: l)) = toldT true y := by simp [leastT, c, T.list, hy]
        have e' : leastOk (T.mk k n s ks (x :: l)) = okT y := propext ⟨fun h => by simpa [T.list, hy] using h.2, fun h => ⟨c, by simpa [T.list, hy] using h⟩⟩
        have f4 := T.enc_len y
        have f5 := T.fit_mono (B := 2000000) (by decide) (fitL_mem g2 y hmem)
        have a1 : (encL (y :: r)).getD 0 [] = y.enc := rfl
        have f6 := T.enc_len (toldT true y)
        have b1 : (((l.length + 1 : Nat) : Int) = 0) = False := eq_false (by omega)
        simp only [x_RowLeastI, rg, go_sem, seval, T.enc, foldT, encL_len, b1, e, e', c, hy, a1, f4, f6, spIsRow_md, spIsRow_pre, spIsRow_alts, spIsRow_res, spIsRow_out, spOrdered_md, spOrdered_pre, spOrdered_alts, spOrdered_res, spOrdered_out, spTold_md, spTold_pre, spTold_alts, spTold_res, spTold_out]
        simp only [List.length_cons] at h2
        repeat' (first | with_reducible assumption | with_reducible refine And.intro ?_ ?_ | intro _)
        all_goals first | omega | skip
    · have e : leastT (T.mk k n s ks l) = T.zero := by simp [leastT, c]
      have e' : leastOk (T.mk k n s ks l) = False := eq_false (fun h => c h.1)
      simp only [x_RowLeastI, rg, go_sem, seval, T.enc, foldT, e, e', c, spIsRow_md, spIsRow_pre, spIsRow_alts, spIsRow_res, spIsRow_out, spOrdered_md, spOrdered_pre, spOrdered_alts, spOrdered_res, spOrdered_out, spTold_md, spTold_pre, spTold_alts, spTold_res, spTold_out]
      exact ⟨g1, fun _ => T.zero_enc⟩
noncomputable def spRow  : Spec := Spec.of (ι := (List T)) [false] (fun i => [.d (.one (.row 5 (encL i)))]) (fun _ => True) (fun i => [.d (.agg (T.mk 5 0 ⟨#[]⟩ [] i).enc)]) (fun _ => [.gone])
theorem spRow_inj : ∀ i j : (List T), (fun (i : (List T)) => ([.d (.one (.row 5 (encL i)))] : List AV)) i = (fun (i : (List T)) => ([.d (.one (.row 5 (encL i)))] : List AV)) j → i = j := by
  intro l l' h
  simpa [strs_eq, T.enc_eq, encL_eq, F.enc_eq, encF_eq, Tk.enc_eq, encTk_eq, Gn.enc_eq, ints_eq] using h
theorem spRow_md  : (spRow).md = [false] := rfl
theorem spRow_pre  (l : List T) : (spRow).pre [.d (.one (.row 5 (encL l)))] = (True) := Spec.of_pre' spRow_inj l
theorem spRow_alts  : (spRow).alts = none := rfl
theorem spRow_res  (l : List T) : (spRow).res [.d (.one (.row 5 (encL l)))] = [.d (.agg (T.mk 5 0 ⟨#[]⟩ [] l).enc)] := Spec.of_res spRow_inj l
theorem spRow_out  (l : List T) : (spRow).out [.d (.one (.row 5 (encL l)))] = [.gone] := Spec.of_out spRow_inj l
theorem row_sound : Sound Go.Proofs.Try.prog 32 spRow := by
  refine sound_fam GOK.nil Go.Proofs.Try.func32 (c := Go.Proofs.Try.f32.body.getD .skip) rfl (n := 5) rfl chk_row rs_row (fun _ => by simp) ?_ ?_
  · exact spRow_inj
  · intro l _
    simp only [x_row, rg, go_sem, seval, T.enc, strs]
def edge (m n : Int) : Int := if m < n then m else n
def edge2 (m a b : Int) : Int := if edge m b > edge m a then edge m b else edge m a
noncomputable def spSpan1  : Spec := Spec.of (ι := Int × Int) [false, false] (fun i => [.d (.one (.int .i64 i.1)), .d (.one (.ptr [.int .i64 i.2]))]) (fun i => 0 ≤ i.1 ∧ i.1 ≤ 1000000 ∧ 0 ≤ i.2 ∧ i.2 ≤ 1000000) (fun i => [.d (.one (.int .i64 (edge i.2 i.1)))]) (fun _ => [.gone, .gone])
theorem spSpan1_inj : ∀ i j : Int × Int, (fun (i : Int × Int) => ([.d (.one (.int .i64 i.1)), .d (.one (.ptr [.int .i64 i.2]))] : List AV)) i = (fun (i : Int × Int) => ([.d (.one (.int .i64 i.1)), .d (.one (.ptr [.int .i64 i.2]))] : List AV)) j → i = j := by
  rintro ⟨n, m⟩ ⟨n', m'⟩ h
  simp only [Prod.mk.injEq]
  simpa [strs_eq, T.enc_eq, encL_eq, F.enc_eq, encF_eq, Tk.enc_eq, encTk_eq, Gn.enc_eq, ints_eq] using h
theorem spSpan1_md  : (spSpan1).md = [false, false] := rfl
theorem spSpan1_pre  (n : Int) (m : Int) : (spSpan1).pre [.d (.one (.int .i64 n)), .d (.one (.ptr [.int .i64 m]))] = (0 ≤ n ∧ n ≤ 1000000 ∧ 0 ≤ m ∧ m ≤ 1000000) := Spec.of_pre' spSpan1_inj (n, m)
theorem spSpan1_alts  : (spSpan1).alts = none := rfl
theorem spSpan1_res  (n : Int) (m : Int) : (spSpan1).res [.d (.one (.int .i64 n)), .d (.one (.ptr [.int .i64 m]))] = [.d (.one (.int .i64 (edge m n)))] := Spec.of_res spSpan1_inj (n, m)
theorem spSpan1_out  (n : Int) (m : Int) : (spSpan1).out [.d (.one (.int .i64 n)), .d (.one (.ptr [.int .i64 m]))] = [.gone, .gone] := Spec.of_out spSpan1_inj (n, m)
theorem span1_sound : Sound Go.Proofs.Try.prog 67 spSpan1 := by
  refine sound_fam GOK.nil Go.Proofs.Try.func67 (c := Go.Proofs.Try.f67.body.getD .skip) rfl (n := 13) rfl chk_span1 rs_span1 (fun _ => by simp) ?_ ?_
  · exact spSpan1_inj
  · rintro ⟨n, m⟩ ⟨h1, h2, h3, h4⟩
    simp only at h1 h2 h3 h4
    have b1 : (n < 0) = False := eq_false (by omega)
    simp only [x_span1, rg, go_sem, seval, b1, edge]
noncomputable def spSpan  : Spec := Spec.of (ι := Int × Int × Int) [false, false, false] (fun i => [.d (.one (.int .i64 i.1)), .d (.one (.int .i64 i.2.1)), .d (.one (.int .i64 i.2.2))]) (fun i => 0 ≤ i.1 ∧ i.1 ≤ 1000000 ∧ 0 ≤ i.2.1 ∧ i.2.1 ≤ 1000000 ∧ 0 ≤ i.2.2 ∧ i.2.2 ≤ 1000000) (fun i => [.d (.one (.int .i64 (edge i.2.2 i.1))), .d (.one (.int .i64 (edge2 i.2.2 i.1 i.2.1)))]) (fun _ => [.gone, .gone, .gone])
theorem spSpan_inj : ∀ i j : Int × Int × Int, (fun (i : Int × Int × Int) => ([.d (.one (.int .i64 i.1)), .d (.one (.int .i64 i.2.1)), .d (.one (.int .i64 i.2.2))] : List AV)) i = (fun (i : Int × Int × Int) => ([.d (.one (.int .i64 i.1)), .d (.one (.int .i64 i.2.1)), .d (.one (.int .i64 i.2.2))] : List AV)) j → i = j := by
  rintro ⟨a, b, m⟩ ⟨a', b', m'⟩ h
  simp only [Prod.mk.injEq]
  simpa [strs_eq, T.enc_eq, encL_eq, F.enc_eq, encF_eq, Tk.enc_eq, encTk_eq, Gn.enc_eq, ints_eq] using h
theorem spSpan_md  : (spSpan).md = [false, false, false] := rfl
theorem spSpan_pre  (a : Int) (b : Int) (m : Int) : (spSpan).pre [.d (.one (.int .i64 a)), .d (.one (.int .i64 b)), .d (.one (.int .i64 m))] = (0 ≤ a ∧ a ≤ 1000000 ∧ 0 ≤ b ∧ b ≤ 1000000 ∧ 0 ≤ m ∧ m ≤ 1000000) := Spec.of_pre' spSpan_inj (a, b, m)
theorem spSpan_alts  : (spSpan).alts = none := rfl
theorem spSpan_res  (a : Int) (b : Int) (m : Int) : (spSpan).res [.d (.one (.int .i64 a)), .d (.one (.int .i64 b)), .d (.one (.int .i64 m))] = [.d (.one (.int .i64 (edge m a))), .d (.one (.int .i64 (edge2 m a b)))] := Spec.of_res spSpan_inj (a, b, m)
theorem spSpan_out  (a : Int) (b : Int) (m : Int) : (spSpan).out [.d (.one (.int .i64 a)), .d (.one (.int .i64 b)), .d (.one (.int .i64 m))] = [.gone, .gone, .gone] := Spec.of_out spSpan_inj (a, b, m)
theorem span_sound : Sound Go.Proofs.Try.prog 36 spSpan := by
  refine sound_fam (GOK.cons call_span1 span1_sound GOK.nil) Go.Proofs.Try.func36 (c := Go.Proofs.Try.f36.body.getD .skip) rfl (n := 20) rfl chk_span rs_span (fun _ => by simp) ?_ ?_
  · exact spSpan_inj
  · rintro ⟨a, b, m⟩ ⟨h1, h2, h3, h4, h5, h6⟩
    simp only at h1 h2 h3 h4 h5 h6
    simp only [x_span, rg, go_sem, seval, spSpan1_md, spSpan1_pre, spSpan1_alts, spSpan1_res, spSpan1_out, edge2]
    exact ⟨⟨h1, h2, h5, h6⟩, fun _ => ⟨h3, h4, h5, h6⟩⟩
def cutL (a b : Int) (l : List T) : List T := (l.take (edge2 l.length a b).toNat).drop (edge l.length a).toNat
theorem edge_le {m a b : Int} (h : 0 ≤ a) (_ : 0 ≤ b) (hm : 0 ≤ m) : 0 ≤ edge m a ∧ edge m a ≤ edge2 m a b ∧ edge2 m a b ≤ m := by
  simp only [edge, edge2]
  repeat' split
  all_goals omega
noncomputable def spCutI  : Spec := Spec.of (ι := (List T) × Int × Int) [false, false, false] (fun i => [.d (.agg (T.mk 5 0 ⟨#[]⟩ [] i.1).enc), .d (.one (.int .i64 i.2.1)), .d (.one (.int .i64 i.2.2))]) (fun i => (T.mk 5 0 ⟨#[]⟩ [] i.1).fit 1000000 ∧ okT (T.mk 5 0 ⟨#[]⟩ [] i.1) ∧ 0 ≤ i.2.1 ∧ i.2.1 ≤ 1000000 ∧ 0 ≤ i.2.2 ∧ i.2.2 ≤ 1000000) (fun i => [.d (.agg (toldT true (T.mk 5 0 ⟨#[]⟩ [] (cutL i.2.1 i.2.2 i.1))).enc), .d (.one (.bool (decide (okT (T.mk 5 0 ⟨#[]⟩ [] (cutL i.2.1 i.2.2 i.1))))))]) (fun _ => [.gone, .gone, .gone])
theorem spCutI_inj : ∀ i j : (List T) × Int × Int, (fun (i : (List T) × Int × Int) => ([.d (.agg (T.mk 5 0 ⟨#[]⟩ [] i.1).enc), .d (.one (.int .i64 i.2.1)), .d (.one (.int .i64 i.2.2))] : List AV)) i = (fun (i : (List T) × Int × Int) => ([.d (.agg (T.mk 5 0 ⟨#[]⟩ [] i.1).enc), .d (.one (.int .i64 i.2.1)), .d (.one (.int .i64 i.2.2))] : List AV)) j → i = j := by
  rintro ⟨l, a, b⟩ ⟨l', a', b'⟩ h
  simp only [Prod.mk.injEq]
  simpa [strs_eq, T.enc_eq, encL_eq, F.enc_eq, encF_eq, Tk.enc_eq, encTk_eq, Gn.enc_eq, ints_eq] using h
theorem spCutI_md  : (spCutI).md = [false, false, false] := rfl
theorem spCutI_pre  (l : List T) (a : Int) (b : Int) : (spCutI).pre [.d (.agg (T.mk 5 0 ⟨#[]⟩ [] l).enc), .d (.one (.int .i64 a)), .d (.one (.int .i64 b))] = ((T.mk 5 0 ⟨#[]⟩ [] l).fit 1000000 ∧ okT (T.mk 5 0 ⟨#[]⟩ [] l) ∧ 0 ≤ a ∧ a ≤ 1000000 ∧ 0 ≤ b ∧ b ≤ 1000000) := Spec.of_pre' spCutI_inj (l, a, b)
theorem spCutI_alts  : (spCutI).alts = none := rfl
theorem spCutI_res  (l : List T) (a : Int) (b : Int) : (spCutI).res [.d (.agg (T.mk 5 0 ⟨#[]⟩ [] l).enc), .d (.one (.int .i64 a)), .d (.one (.int .i64 b))] = [.d (.agg (toldT true (T.mk 5 0 ⟨#[]⟩ [] (cutL a b l))).enc), .d (.one (.bool (decide (okT (T.mk 5 0 ⟨#[]⟩ [] (cutL a b l))))))] := Spec.of_res spCutI_inj (l, a, b)
theorem spCutI_out  (l : List T) (a : Int) (b : Int) : (spCutI).out [.d (.agg (T.mk 5 0 ⟨#[]⟩ [] l).enc), .d (.one (.int .i64 a)), .d (.one (.int .i64 b))] = [.gone, .gone, .gone] := Spec.of_out spCutI_inj (l, a, b)
theorem RowCutI_sound : Sound Go.Proofs.Try.prog 12 spCutI := by
  refine sound_fam (GOK.cons (l := [(36, spSpan), (32, spRow), (28, spTold)]) call_ValOkI valOkI_sound (GOK.cons call_span span_sound (GOK.cons call_row row_sound (GOK.cons call_told told_sound GOK.nil)))) Go.Proofs.Try.func12 (c := Go.Proofs.Try.f12.body.getD .skip) rfl (n := 62) rfl chk_RowCutI rs_RowCutI (fun _ => by simp) ?_ ?_
  · exact spCutI_inj
  · rintro ⟨l, a, b⟩ ⟨h1, h2, h3, h4, h5, h6⟩
    simp only at h1 h2 h3 h4 h5 h6
    have g1 : (T.mk 5 0 ⟨#[]⟩ [] l).fit 140737488355328 := T.fit_mono (by decide) h1
    have g2 : lenB 1000000 l.length := (T.fit_list h1).1
    have g3 := (T.fit_list h1).2
    simp only [lenB] at g2
    have e := (okI_iff _).2 h2
    have hb := edge_le (m := l.length) h3 h5 (by omega)
    have f1 : (T.mk 5 0 ⟨#[]⟩ [] (cutL a b l)).fit 2000000 := by
      refine ⟨by unfold i64; omega, by unfold i64; omega, by unfold lenB; decide, ⟨by unfold lenB; simp, by simp⟩, ?_, fitL_of fun t ht => T.fit_mono (B := 2000000) (by decide) (fitL_mem g3 t (List.mem_of_mem_take (List.mem_of_mem_drop ht)))⟩
      unfold lenB; simp [cutL]; omega
    have f2 := T.enc_len (T.mk 5 0 ⟨#[]⟩ [] (cutL a b l))
    have f3 := T.enc_len (toldT true (T.mk 5 0 ⟨#[]⟩ [] (cutL a b l)))
    have e2 : C.row 1 [] = C.row 1 (strs []) := rfl
    have e3 : (l.take (edge2 l.length a b).toNat).drop (edge l.length a).toNat = cutL a b l := rfl
    simp only [x_RowCutI, rg, go_sem, seval, T.enc, foldT, encL_len, encL_takeL, encL_dropL, e, e3, f2, f3, spValOkI_md, spValOkI_pre, spValOkI_alts, spValOkI_res, spValOkI_out, spSpan_md, spSpan_pre, spSpan_alts, spSpan_res, spSpan_out, spRow_md, spRow_pre, spRow_alts, spRow_res, spRow_out, spTold_md, spTold_pre, spTold_alts, spTold_res, spTold_out]
    repeat' (first | with_reducible assumption | with_reducible refine And.intro ?_ ?_ | intro _)
    all_goals first | omega | assumption | skip
end Go.Proofs.Pw
/- Trees that are ok: their parts, and rows of some of them. -/
set_option linter.unusedSectionVars false
namespace Go.Proofs.Pw
variable [Globs]
mutual
theorem formT_mono {d e : Int} (h : d ≤ e) : ∀ {t : T}, formT t d → formT t e
  | .mk k n s ks l, hf => by
    simp only [formT] at hf ⊢
    obtain ⟨h1, h2, h3, h4, h5, h6, h7, h8, h9, h10, h11, h12⟩ := hf
    exact ⟨by omega, h2, h3, h4, h5, h6, h7, h8, h9, h10, h11, formL_mono (by omega) h12⟩
theorem formL_mono {d e : Int} (h : d ≤ e) : ∀ {l : List T}, formL l d → formL l e
  | [], _ => trivial
  | _ :: _, hf => ⟨formT_mono h hf.1, formL_mono h hf.2⟩
end
mutual
theorem manyT_deep {d e : Int} (h : d ≤ e) : ∀ {t : T}, formT t d → manyT t e = manyT t d
  | .mk k n s ks l, hf => by
    simp only [formT] at hf
    simp only [manyT]
    rw [manyL_deep (d := d) (e := e) h hf.1 hf.2.2.2.2.2.2.2.2.2.2.2]
theorem manyL_deep {d e : Int} (h : d ≤ e) (h1 : 1 ≤ d) : ∀ {l : List T}, formL l (d - 1) → manyL l e = manyL l d
  | [], _ => by simp [manyL]
  | t :: l, hf => by
    simp only [manyL]
    rw [if_pos (by omega), if_pos (by omega), manyT_deep (d := d - 1) (e := e - 1) (by omega) hf.1, manyL_deep h h1 hf.2]
end
theorem formT_list {k n : Int} {s : ByteArray} {ks : List ByteArray} {l : List T} {d : Int} (h : formT (.mk k n s ks l) d) : formL l (d - 1) := by
  simp only [formT] at h
  exact h.2.2.2.2.2.2.2.2.2.2.2
theorem manyL_at {l : List T} {t : T} {d : Int} (hd : 0 < d) (h : t ∈ l) : manyT t (d - 1) ≤ manyL l d := by
  induction l with
  | nil => simp at h
  | cons x l ih =>
    have h1 := manyL_le l d
    have h2 := manyT_le x (d - 1)
    simp only [manyL]
    rw [if_pos hd]
    rcases List.mem_cons.1 h with rfl | h
    · omega
    · have := ih h; omega
theorem okT_elem {k n : Int} {s : ByteArray} {ks : List ByteArray} {l : List T} (h : okT (.mk k n s ks l)) {t : T} (ht : t ∈ l) : okT t := by
  have h1 := formL_mem.1 (formT_list h.1) t ht
  have h2 := manyL_at (d := 6) (by omega) ht
  have h3 := manyT_deep (d := 6 - 1) (e := 6) (by omega) h1
  have h4 := h.2
  simp only [manyT] at h4
  exact ⟨formT_mono (by omega) h1, by omega⟩
theorem manyL_neg {l : List T} {d : Int} (h : ¬ 0 < d) : manyL l d = 0 := by
  cases l with
  | nil => rfl
  | cons x l => simp only [manyL]; rw [if_neg h]
theorem manyL_sub {a b : List T} (h : a.Sublist b) (d : Int) : manyL a d ≤ manyL b d := by
  induction h with
  | slnil => exact Int.le_refl _
  | cons x _ ih =>
    have := manyT_le x (d - 1)
    simp only [manyL]
    split
    · omega
    · rename_i h; rw [manyL_neg h]; exact Int.le_refl _
  | cons_cons x _ ih =>
    simp only [manyL]
    split <;> omega
theorem manyL_perm {a b : List T} (h : a.Perm b) (d : Int) : manyL a d = manyL b d := by
  induction h with
  | nil => rfl
  | cons x _ ih => simp only [manyL, ih]
  | swap x y l => simp only [manyL]; split <;> omega
  | trans _ _ ih1 ih2 => rw [ih1, ih2]
theorem rowT_is {v : T} (h : rowT v) : v = .mk 5 0 ⟨#[]⟩ [] v.list := by
  obtain ⟨k, n, s, ks, l⟩ := v
  obtain ⟨h1, h2⟩ := h
  have h3 := h1.1
  simp only [formT] at h3
  simp only [T.kind] at h2
  subst h2
  obtain ⟨_, h4, h5, h6, _⟩ := h3
  simp only [T.list, T.mk.injEq, true_and, and_true]
  exact ⟨by omega, by simpa using h5, by simpa using h6⟩
theorem okT_row {l : List T} : okT (.mk 5 0 ⟨#[]⟩ [] l) ↔ (∀ t ∈ l, formT t 5) ∧ manyL l 6 ≤ 59 := by
  constructor
  · intro h
    have h1 := formL_mem.1 (formT_list h.1)
    have h2 := h.2
    simp only [manyT] at h2
    exact ⟨fun t ht => by simpa using h1 t ht, by omega⟩
  · rintro ⟨h1, h2⟩
    refine ⟨?_, by simp only [manyT]; omega⟩
    simp only [formT]
    exact ⟨by omega, .inr trivial, .inr trivial, .inr trivial, .inl (by omega), by omega, by omega, by omega, by omega, okS_nil, by omega, formL_mem.2 (fun t ht => by simpa using h1 t ht)⟩
theorem okT_row_sub {a b : List T} (h : okT (.mk 5 0 ⟨#[]⟩ [] b)) (hs : a.Sublist b) : okT (.mk 5 0 ⟨#[]⟩ [] a) := by
  rw [okT_row] at h ⊢
  exact ⟨fun t ht => h.1 t (hs.subset ht), Int.le_trans (manyL_sub hs 6) h.2⟩
theorem okT_row_perm {a b : List T} (h : okT (.mk 5 0 ⟨#[]⟩ [] b)) (hs : a.Perm b) : okT (.mk 5 0 ⟨#[]⟩ [] a) := by
  rw [okT_row] at h ⊢
  exact ⟨fun t ht => h.1 t (hs.mem_iff.1 ht), by rw [manyL_perm hs]; exact h.2⟩
theorem rowT_row {l : List T} : rowT (.mk 5 0 ⟨#[]⟩ [] l) ↔ okT (.mk 5 0 ⟨#[]⟩ [] l) := ⟨fun h => h.1, fun h => ⟨h, rfl⟩⟩
theorem T.enc_dropQ (t : T) : (t.enc.map Q.c).drop 5 = [] := List.drop_of_length_le (by rw [List.length_map, T.enc_len]; exact Nat.le_refl _)
/-- The least of a row that is ok. -/
theorem least_ok {l : List T} (h : okT (.mk 5 0 ⟨#[]⟩ [] l)) : okT ((sortC cmpT l).headD T.zero) := by
  cases hs : sortC cmpT l with
  | nil => exact okT_zero
  | cons y r => exact okT_elem h ((sortC_perm cmpT_is l).mem_iff.1 (by rw [hs]; simp))
theorem leastT_row {l : List T} (h : okT (.mk 5 0 ⟨#[]⟩ [] l)) : leastT (.mk 5 0 ⟨#[]⟩ [] l) = (sortC cmpT l).headD T.zero := by
  unfold leastT
  rw [if_pos (rowT_row.2 h)]
  unfold toldT
  rw [if_pos ⟨rfl, least_ok h⟩]; rfl
theorem leastOk_row {l : List T} : leastOk (.mk 5 0 ⟨#[]⟩ [] l) ↔ okT (.mk 5 0 ⟨#[]⟩ [] l) := ⟨fun h => h.1.1, fun h => ⟨rowT_row.2 h, least_ok h⟩⟩
theorem toldT_ok {t : T} (h : okT t) : toldT true t = t := by unfold toldT; rw [if_pos ⟨rfl, h⟩]
theorem head_mem {l : List T} (h : l ≠ []) : (sortC cmpT l).headD T.zero ∈ l := by
  cases hs : sortC cmpT l with
  | nil => have := (sortC_perm cmpT_is l).length_eq; rw [hs] at this; exact absurd (List.eq_nil_of_length_eq_zero this.symm) h
  | cons y r => exact (sortC_perm cmpT_is l).mem_iff.1 (by rw [hs]; simp)
theorem head_fit {l : List T} (h : fitL 140737488355328 l) : ((sortC cmpT l).headD T.zero).fit 140737488355328 := by
  cases l with
  | nil => exact T.zero_fit
  | cons x l => exact fitL_mem h _ (head_mem (by simp))
end Go.Proofs.Pw
/- Rows, each tree once. -/
namespace Go.Proofs.Pw
theorem take_snoc {α : Type} {l : List α} {i : Nat} {x : α} (hx : l[i]? = some x) : l.take (i + 1) = l.take i ++ [x] := by rw [List.take_add_one, hx]; rfl
end Go.Proofs.Pw
/- Whether two trees are the same: the specification's function and the program's. -/
set_option linter.unusedSimpArgs false
set_option maxRecDepth 20000
namespace Go.Proofs.Pw
set_option linter.unusedSectionVars false
variable [Globs]
def x_EqualS : X := (.seq (.reg [⟨some 4, none, .mv (.k (.c (.bool false)))⟩] none [0, 1]) (.seq (.seq (.reg [⟨some 6, none, .mv (.t 0)⟩, ⟨some 7, none, .len (.t 6) false⟩, ⟨some 8, none, .mv (.t 1)⟩, ⟨some 9, none, .len (.t 8) false⟩, ⟨some 10, none, .bin false .neq (.t 7) (.t 9)⟩] none [0, 1, 10]) (.cond (.t 10) (.seq (.reg [⟨some 4, none, .mv (.k (.c (.bool false)))⟩] none [4]) .ret) .skip)) (.seq (.seq (.reg [⟨some 11, none, .mv (.t 0)⟩, ⟨some 12, none, .len (.t 11) false⟩, ⟨some 13, none, .mv (.k (.c (.int .i64 0)))⟩] none [0, 1, 12, 13]) (.block 0 (.loop (.seq (.reg [⟨some 14, none, .bin false .lss (.t 13) (.t 12)⟩] none [0, 1, 12, 13, 14]) (.seq (.cond (.t 14) .skip (.exit 0)) (.seq (.block 1 (.seq (.reg [⟨some 15, none, .mv (.t 13)⟩, ⟨some 5, none, .mv (.t 15)⟩] none [0, 1, 5, 12, 13]) (.seq (.reg [⟨some 16, none, .mv (.t 0)⟩, ⟨some 17, none, .mv (.t 5)⟩, ⟨some 18, none, .ia (.t 16) (.t 17) 1⟩, ⟨some 19, none, .load (.t 18) none⟩, ⟨some 20, none, .mv (.t 1)⟩, ⟨some 21, none, .mv (.t 5)⟩, ⟨some 22, none, .ia (.t 20) (.t 21) 1⟩, ⟨some 23, none, .load (.t 22) none⟩, ⟨some 24, none, .bin false .neq (.t 19) (.t 23)⟩] (some 8) [0, 1, 12, 13, 24]) (.cond (.t 24) (.seq (.reg [⟨some 4, none, .mv (.k (.c (.bool false)))⟩] none [4]) .ret) .skip)))) (.reg [⟨some 25, none, .bin false .add (.t 13) (.k (.c (.int .i64 1)))⟩, ⟨some 13, none, .mv (.t 25)⟩] none [0, 1, 12, 13]))))))) (.seq (.reg [⟨some 4, none, .mv (.k (.c (.bool true)))⟩] none [4]) .ret))))
theorem chk_EqualS : chkX Go.Proofs.Try.prog 26 (Go.Proofs.Try.f33.body.getD .skip) x_EqualS = true := by kernel_rfl
theorem rs_EqualS : okRs Go.Proofs.Try.prog Go.Proofs.Try.f33.results.toList [.tmp 4] = true := by kernel_rfl
theorem call_EqualS : okCallee Go.Proofs.Try.prog 33 = true := by kernel_rfl
def x_EqualF : X := (.seq (.reg [⟨some 6, none, .mv (.k (.c (.bool false)))⟩] none [0, 1, 2]) (.seq (.seq (.reg [⟨some 10, none, .mv (.t 0)⟩, ⟨some 11, none, .len (.t 10) false⟩, ⟨some 12, none, .mv (.t 1)⟩, ⟨some 13, none, .len (.t 12) false⟩, ⟨some 14, none, .bin false .neq (.t 11) (.t 13)⟩] none [0, 1, 2, 14]) (.cond (.t 14) (.seq (.reg [⟨some 6, none, .mv (.k (.c (.bool false)))⟩] none [6]) .ret) .skip)) (.seq (.seq (.reg [⟨some 15, none, .mv (.t 0)⟩, ⟨some 16, none, .len (.t 15) false⟩, ⟨some 17, none, .mv (.k (.c (.int .i64 0)))⟩] none [1, 2, 15, 16, 17]) (.block 0 (.loop (.seq (.reg [⟨some 18, none, .bin false .lss (.t 17) (.t 16)⟩] none [1, 2, 15, 16, 17, 18]) (.seq (.cond (.t 18) .skip (.exit 0)) (.seq (.block 1 (.seq (.reg [⟨some 19, none, .mv (.t 17)⟩, ⟨some 20, none, .ia (.t 15) (.t 17) 5⟩, ⟨some 21, none, .load (.t 20) (some 5)⟩, ⟨some 8, none, .alloc [(.c (.int .i64 0)), (.c (.int .i64 0)), (.c (.str ⟨#[]⟩)), (.z 1), (.z 5)]⟩, ⟨some 7, none, .mv (.t 19)⟩, ⟨none, none, .st (.t 8) (.t 21) (some 5)⟩] none [1, 2, 7, 8, 15, 16, 17]) (.seq (.reg [⟨some 22, none, .mv (.t 1)⟩, ⟨some 23, none, .mv (.t 7)⟩, ⟨some 24, none, .ia (.t 22) (.t 23) 5⟩, ⟨some 25, none, .load (.t 24) (some 5)⟩, ⟨some 9, none, .alloc [(.c (.int .i64 0)), (.c (.int .i64 0)), (.c (.str ⟨#[]⟩)), (.z 1), (.z 5)]⟩, ⟨none, none, .st (.t 9) (.t 25) (some 5)⟩] none [1, 2, 8, 9, 15, 16, 17]) (.seq (.reg [⟨some 26, none, .mv (.t 2)⟩, ⟨some 27, none, .load (.t 8) (some 5)⟩, ⟨some 28, none, .load (.t 9) (some 5)⟩, ⟨some 29, none, .calli (.t 26) [(.t 27), (.t 28)]⟩, ⟨some 30, none, .not (.t 29)⟩] none [1, 2, 15, 16, 17, 30]) (.cond (.t 30) (.seq (.reg [⟨some 6, none, .mv (.k (.c (.bool false)))⟩] none [6]) .ret) .skip))))) (.reg [⟨some 31, none, .bin false .add (.t 17) (.k (.c (.int .i64 1)))⟩, ⟨some 17, none, .mv (.t 31)⟩] none [1, 2, 15, 16, 17]))))))) (.seq (.reg [⟨some 6, none, .mv (.k (.c (.bool true)))⟩] none [6]) .ret))))
theorem chk_EqualF : chkX Go.Proofs.Try.prog 32 (Go.Proofs.Try.f34.body.getD .skip) x_EqualF = true := by kernel_rfl
theorem rs_EqualF : okRs Go.Proofs.Try.prog Go.Proofs.Try.f34.results.toList [.tmp 6] = true := by kernel_rfl
theorem call_EqualF : okCallee Go.Proofs.Try.prog 34 = true := by kernel_rfl
def x_ValSameI : X := (.seq (.reg [⟨some 2, none, .box (.t 0) (some 5)⟩, ⟨some 3, none, .box (.t 1) (some 5)⟩, ⟨some 4, none, .mv (.k (.c (.bool false)))⟩] none [2, 3]) (.seq (.reg [⟨some 5, none, .fa (.t 2) 0⟩, ⟨some 6, none, .load (.t 5) none⟩, ⟨some 7, none, .fa (.t 3) 0⟩, ⟨some 8, none, .load (.t 7) none⟩, ⟨some 9, none, .bin false .eql (.t 6) (.t 8)⟩, ⟨some 10, none, .mv (.t 9)⟩, ⟨some 11, some (10, true), .fa (.t 2) 1⟩, ⟨some 12, some (10, true), .load (.t 11) none⟩, ⟨some 13, some (10, true), .fa (.t 3) 1⟩, ⟨some 14, some (10, true), .load (.t 13) none⟩, ⟨some 15, some (10, true), .bin false .eql (.t 12) (.t 14)⟩, ⟨some 16, none, .pick (.t 10) (.t 15) (.k (.c (.bool false)))⟩, ⟨some 17, none, .mv (.t 16)⟩, ⟨some 18, some (17, true), .fa (.t 2) 2⟩, ⟨some 19, some (17, true), .load (.t 18) none⟩, ⟨some 20, some (17, true), .fa (.t 3) 2⟩, ⟨some 21, some (17, true), .load (.t 20) none⟩, ⟨some 22, some (17, true), .bin false .eql (.t 19) (.t 21)⟩, ⟨some 23, none, .pick (.t 17) (.t 22) (.k (.c (.bool false)))⟩, ⟨some 24, none, .mv (.t 23)⟩, ⟨some 25, some (24, true), .fa (.t 2) 3⟩, ⟨some 26, some (24, true), .load (.t 25) none⟩, ⟨some 27, some (24, true), .fa (.t 3) 3⟩, ⟨some 28, some (24, true), .load (.t 27) none⟩, ⟨some 29, some (24, true), .call 33 [(.t 26), (.t 28)]⟩, ⟨some 30, none, .pick (.t 24) (.t 29) (.k (.c (.bool false)))⟩, ⟨some 31, none, .mv (.t 30)⟩, ⟨some 32, some (31, true), .fa (.t 2) 4⟩, ⟨some 33, some (31, true), .load (.t 32) none⟩, ⟨some 34, some (31, true), .fa (.t 3) 4⟩, ⟨some 35, some (31, true), .load (.t 34) none⟩, ⟨some 36, some (31, true), .call 34 [(.t 33), (.t 35), (.k (.c (.fn 11)))]⟩, ⟨some 37, none, .pick (.t 31) (.t 36) (.k (.c (.bool false)))⟩, ⟨some 4, none, .mv (.t 37)⟩] none [4]) .ret))
theorem chk_ValSameI : chkX Go.Proofs.Try.prog 38 (Go.Proofs.Try.f11.body.getD .skip) x_ValSameI = true := by kernel_rfl
theorem rs_ValSameI : okRs Go.Proofs.Try.prog Go.Proofs.Try.f11.results.toList [.tmp 4] = true := by kernel_rfl
theorem call_ValSameI : okCallee Go.Proofs.Try.prog 11 = true := by kernel_rfl
noncomputable def spEqualS  : Spec := Spec.of (ι := (List ByteArray) × (List ByteArray)) [false, false] (fun i => [.d (.one (.row 1 (strs i.1))), .d (.one (.row 1 (strs i.2)))]) (fun i => lenB 140737488355328 i.1.length ∧ lenB 140737488355328 i.2.length) (fun i => [.d (.one (.bool (decide (i.1 = i.2))))]) (fun _ => [.gone, .gone])
theorem spEqualS_inj : ∀ i j : (List ByteArray) × (List ByteArray), (fun (i : (List ByteArray) × (List ByteArray)) => ([.d (.one (.row 1 (strs i.1))), .d (.one (.row 1 (strs i.2)))] : List AV)) i = (fun (i : (List ByteArray) × (List ByteArray)) => ([.d (.one (.row 1 (strs i.1))), .d (.one (.row 1 (strs i.2)))] : List AV)) j → i = j := by
  rintro ⟨a, b⟩ ⟨a', b'⟩ h
  simp only [Prod.mk.injEq]
  simpa [strs_eq, T.enc_eq, encL_eq, F.enc_eq, encF_eq, Tk.enc_eq, encTk_eq, Gn.enc_eq, ints_eq] using h
theorem spEqualS_md  : (spEqualS).md = [false, false] := rfl
theorem spEqualS_pre  (a : List ByteArray) (b : List ByteArray) : (spEqualS).pre [.d (.one (.row 1 (strs a))), .d (.one (.row 1 (strs b)))] = (lenB 140737488355328 a.length ∧ lenB 140737488355328 b.length) := Spec.of_pre' spEqualS_inj (a, b)
theorem spEqualS_alts  : (spEqualS).alts = none := rfl
theorem spEqualS_res  (a : List ByteArray) (b : List ByteArray) : (spEqualS).res [.d (.one (.row 1 (strs a))), .d (.one (.row 1 (strs b)))] = [.d (.one (.bool (decide (a = b))))] := Spec.of_res spEqualS_inj (a, b)
theorem spEqualS_out  (a : List ByteArray) (b : List ByteArray) : (spEqualS).out [.d (.one (.row 1 (strs a))), .d (.one (.row 1 (strs b)))] = [.gone, .gone] := Spec.of_out spEqualS_inj (a, b)
theorem equalS_sound : Sound Go.Proofs.Try.prog 33 spEqualS := by
  refine sound_fam GOK.nil Go.Proofs.Try.func33 (c := Go.Proofs.Try.f33.body.getD .skip) rfl (n := 26) rfl chk_EqualS rs_EqualS (fun _ => by simp) ?_ ?_
  · exact spEqualS_inj
  · rintro ⟨a, b⟩ h1
    simp only [lenB] at h1
    by_cases hl : a.length = b.length
    · have b1 : ((a.length : Int) = (b.length : Int)) = True := by simp [hl]
      simp only [x_EqualS, rg, go_sem, seval, b1]
      refine pw_loop (ι := Nat) (fun i => a.length - i) (fun i => i ≤ a.length ∧ a.take i = b.take i)
        (fun i => ⟨[(0, .q (.c (.row 1 (strs a)))), (1, .q (.c (.row 1 (strs b)))), (12, .q (.c (.int .i64 a.length))), (13, .q (.c (.int .i64 i)))], [], []⟩) 0 ⟨Nat.zero_le _, rfl⟩ (Le.refl _) ?_
      rintro i ⟨hi, heq⟩
      rcases Nat.lt_or_ge i a.length with hlt | hge
      · obtain ⟨s, hs, _, hmem⟩ := drop_at hlt
        obtain ⟨s', hs', _, hmem'⟩ := drop_at (l := b) (i := i) (by omega)
        have a1 := strs_at hs
        have a1' := strs_at hs'
        have a2 : ((i : Int) < (a.length : Int)) = True := by simp; omega
        have a3 : ((i : Int) < (b.length : Int)) = True := by simp; omega
        by_cases hc : s = s'
        · have c1 : (s = s') = True := by simp [hc]
          simp only [go_sem, seval, rg, a1, a1', a2, a3, c1]
          repeat' (first | with_reducible assumption | with_reducible refine And.intro ?_ ?_ | intro _)
          all_goals first | omega | skip
          exact ⟨i + 1, ⟨by omega, take_at hs (hc ▸ hs') heq⟩, by omega, Le.refl _⟩
        · have c1 : (s = s') = False := by simp [hc]
          simp only [go_sem, seval, rg, a1, a1', a2, a3, c1]
          repeat' (first | with_reducible assumption | with_reducible refine And.intro ?_ ?_ | intro _)
          all_goals first | omega | skip
          rename_i h; exact ne_at hs hs' hc h
      · have a2 : ((i : Int) < (a.length : Int)) = False := by simp; omega
        have hie : i = a.length := by omega
        subst hie
        simp only [go_sem, seval, a2]
        exact take_all hl heq
    · have b1 : ((a.length : Int) = (b.length : Int)) = False := by simp; omega
      simp only [x_EqualS, rg, go_sem, seval, b1]
      exact fun e => hl (by rw [e])
noncomputable def spSameI (k:Nat) : Spec := Spec.of (ι := T × T) [false, false] (fun i => [.d (.agg i.1.enc), .d (.agg i.2.enc)]) (fun i => (i.1.fit 140737488355328 ∧ i.2.fit 140737488355328) ∧ SizeOf.sizeOf i.1 < k) (fun i => [.d (.one (.bool (decide (i.1 = i.2))))]) (fun _ => [.gone, .gone])
theorem spSameI_inj : ∀ i j : T × T, (fun (i : T × T) => ([.d (.agg i.1.enc), .d (.agg i.2.enc)] : List AV)) i = (fun (i : T × T) => ([.d (.agg i.1.enc), .d (.agg i.2.enc)] : List AV)) j → i = j := by
  rintro ⟨a, b⟩ ⟨a', b'⟩ h
  simp only [Prod.mk.injEq]
  simpa [strs_eq, T.enc_eq, encL_eq, F.enc_eq, encF_eq, Tk.enc_eq, encTk_eq, Gn.enc_eq, ints_eq] using h
theorem spSameI_md (k:Nat) : (spSameI k).md = [false, false] := rfl
theorem spSameI_pre (k:Nat) (a : T) (b : T) : (spSameI k).pre [.d (.agg a.enc), .d (.agg b.enc)] = ((a.fit 140737488355328 ∧ b.fit 140737488355328) ∧ SizeOf.sizeOf a < k) := Spec.of_pre' spSameI_inj (a, b)
theorem spSameI_alts (k:Nat) : (spSameI k).alts = none := rfl
theorem spSameI_res (k:Nat) (a : T) (b : T) : (spSameI k).res [.d (.agg a.enc), .d (.agg b.enc)] = [.d (.one (.bool (decide (a = b))))] := Spec.of_res spSameI_inj (a, b)
theorem spSameI_out (k:Nat) (a : T) (b : T) : (spSameI k).out [.d (.agg a.enc), .d (.agg b.enc)] = [.gone, .gone] := Spec.of_out spSameI_inj (a, b)
noncomputable def spEqualF (k:Nat) : Spec := Spec.of (ι := (List T) × (List T)) [false, false, false] (fun i => [.d (.one (.row 5 (encL i.1))), .d (.one (.row 5 (encL i.2))), .d (.one (.fn 11))]) (fun i => (lenB 140737488355328 i.1.length ∧ fitL 140737488355328 i.1 ∧ lenB 140737488355328 i.2.length ∧ fitL 140737488355328 i.2) ∧ SizeOf.sizeOf i.1 < k) (fun i => [.d (.one (.bool (decide (i.1 = i.2))))]) (fun _ => [.gone, .gone, .gone])
theorem spEqualF_inj : ∀ i j : (List T) × (List T), (fun (i : (List T) × (List T)) => ([.d (.one (.row 5 (encL i.1))), .d (.one (.row 5 (encL i.2))), .d (.one (.fn 11))] : List AV)) i = (fun (i : (List T) × (List T)) => ([.d (.one (.row 5 (encL i.1))), .d (.one (.row 5 (encL i.2))), .d (.one (.fn 11))] : List AV)) j → i = j := by
  rintro ⟨a, b⟩ ⟨a', b'⟩ h
  simp only [Prod.mk.injEq]
  simpa [strs_eq, T.enc_eq, encL_eq, F.enc_eq, encF_eq, Tk.enc_eq, encTk_eq, Gn.enc_eq, ints_eq] using h
theorem spEqualF_md (k:Nat) : (spEqualF k).md = [false, false, false] := rfl
theorem spEqualF_pre (k:Nat) (a : List T) (b : List T) : (spEqualF k).pre [.d (.one (.row 5 (encL a))), .d (.one (.row 5 (encL b))), .d (.one (.fn 11))] = ((lenB 140737488355328 a.length ∧ fitL 140737488355328 a ∧ lenB 140737488355328 b.length ∧ fitL 140737488355328 b) ∧ SizeOf.sizeOf a < k) := Spec.of_pre' spEqualF_inj (a, b)
theorem spEqualF_alts (k:Nat) : (spEqualF k).alts = none := rfl
theorem spEqualF_res (k:Nat) (a : List T) (b : List T) : (spEqualF k).res [.d (.one (.row 5 (encL a))), .d (.one (.row 5 (encL b))), .d (.one (.fn 11))] = [.d (.one (.bool (decide (a = b))))] := Spec.of_res spEqualF_inj (a, b)
theorem spEqualF_out (k:Nat) (a : List T) (b : List T) : (spEqualF k).out [.d (.one (.row 5 (encL a))), .d (.one (.row 5 (encL b))), .d (.one (.fn 11))] = [.gone, .gone, .gone] := Spec.of_out spEqualF_inj (a, b)
theorem sameI_sound (k : Nat) (hS : Sound Go.Proofs.Try.prog 34 (spEqualF k)) : Sound Go.Proofs.Try.prog 11 (spSameI (k + 1)) := by
  refine sound_fam (GOK.cons (l := [(34, spEqualF k)]) call_EqualS equalS_sound (GOK.cons call_EqualF hS GOK.nil)) Go.Proofs.Try.func11 (c := Go.Proofs.Try.f11.body.getD .skip) rfl (n := 38) rfl chk_ValSameI rs_ValSameI (fun _ => by simp) ?_ ?_
  · exact spSameI_inj
  · rintro ⟨a, b⟩ ⟨⟨h1, h2⟩, h4⟩
    obtain ⟨kk, n, s, ks, l⟩ := a
    obtain ⟨kk', n', s', ks', l'⟩ := b
    simp only [T.fit, strsFit] at h1 h2
    obtain ⟨_, _, f1, ⟨f2, f2'⟩, f3, f4⟩ := h1
    obtain ⟨_, _, g1, ⟨g2, g2'⟩, g3, g4⟩ := h2
    have e3 : SizeOf.sizeOf l < k := by have e : SizeOf.sizeOf (T.mk kk n s ks l) < k + 1 := h4
                                        rw [T.mk.sizeOf_spec] at e; omega
    clear h4
    simp only [x_ValSameI, T.enc, go_sem, seval, rg, T.mk.injEq, spEqualS_md, spEqualS_pre, spEqualS_alts, spEqualS_res, spEqualS_out, spEqualF_md, spEqualF_pre, spEqualF_alts, spEqualF_res, spEqualF_out]
    repeat' (first | with_reducible assumption | with_reducible refine And.intro ?_ ?_ | intro _)
    all_goals first | omega | (grind; done) | skip
theorem equalF_sound (k : Nat) (hS : Sound Go.Proofs.Try.prog 11 (spSameI k)) : Sound Go.Proofs.Try.prog 34 (spEqualF (k + 1)) := by
  refine sound_fam (GOK.cons call_ValSameI hS GOK.nil) Go.Proofs.Try.func34 (c := Go.Proofs.Try.f34.body.getD .skip) rfl (n := 32) rfl chk_EqualF rs_EqualF (fun _ => by simp) ?_ ?_
  · exact spEqualF_inj
  · rintro ⟨a, b⟩ ⟨h1, h3⟩
    simp only at h3
    simp only [lenB] at h1
    have fa := fitL_mem h1.2.1
    have fb := fitL_mem h1.2.2.2
    by_cases hl : a.length = b.length
    · have b1 : ((a.length : Int) = (b.length : Int)) = True := by simp [hl]
      simp only [x_EqualF, rg, go_sem, seval, b1]
      refine pw_loop (ι := Nat) (fun i => a.length - i) (fun i => i ≤ a.length ∧ a.take i = b.take i)
        (fun i => ⟨[(1, .q (.c (.row 5 (encL b)))), (2, .q (.c (.fn 11))), (15, .q (.c (.row 5 (encL a)))), (16, .q (.c (.int .i64 a.length))), (17, .q (.c (.int .i64 i)))], [], []⟩) 0 ⟨Nat.zero_le _, rfl⟩ (Le.refl _) ?_
      rintro i ⟨hi, heq⟩
      rcases Nat.lt_or_ge i a.length with hlt | hge
      · obtain ⟨s, hs, _, hmem⟩ := drop_at hlt
        obtain ⟨s', hs', _, hmem'⟩ := drop_at (l := b) (i := i) (by omega)
        have a1 := encL_at hs
        have a1' := encL_at hs'
        have a2 : ((i : Int) < (a.length : Int)) = True := by simp; omega
        have a3 : ((i : Int) < (b.length : Int)) = True := by simp; omega
        have a4 := fa s hmem
        have a5 := fb s' hmem'
        have a6 := T.enc_len s
        have a6' := T.enc_len s'
        have a8 := size_mem hmem
        by_cases hc : s = s'
        · have c1 : (s = s') = True := by simp [hc]
          simp only [go_sem, seval, rg, a1, a1', a2, a3, a6, a6', c1, spSameI_md, spSameI_pre, spSameI_alts, spSameI_res, spSameI_out]
          repeat' (first | with_reducible assumption | with_reducible refine And.intro ?_ ?_ | intro _)
          all_goals first | omega | skip
          exact ⟨i + 1, ⟨by omega, take_at hs (hc ▸ hs') heq⟩, by omega, Le.sub (fun _ h => h) (fun _ h => by cases h) (fun _ h => h)⟩
        · have c1 : (s = s') = False := by simp [hc]
          simp only [go_sem, seval, rg, a1, a1', a2, a3, a6, a6', c1, spSameI_md, spSameI_pre, spSameI_alts, spSameI_res, spSameI_out]
          repeat' (first | with_reducible assumption | with_reducible refine And.intro ?_ ?_ | intro _)
          all_goals first | omega | skip
          rename_i h; exact ne_at hs hs' hc h
      · have a2 : ((i : Int) < (a.length : Int)) = False := by simp; omega
        have hie : i = a.length := by omega
        subst hie
        simp only [go_sem, seval, a2]
        exact take_all hl heq
    · have b1 : ((a.length : Int) = (b.length : Int)) = False := by simp; omega
      simp only [x_EqualF, rg, go_sem, seval, b1]
      exact fun e => hl (by rw [e])
theorem sameI_all (k : Nat) : Sound Go.Proofs.Try.prog 11 (spSameI k) ∧ Sound Go.Proofs.Try.prog 34 (spEqualF k) := by
  induction k with
  | zero => exact ⟨Sound.none, Sound.none⟩
  | succ k ih => exact ⟨sameI_sound k ih.2, equalF_sound k ih.1⟩
noncomputable def spSameIV  : Spec := Spec.of (ι := T × T) [false, false] (fun i => [.d (.agg i.1.enc), .d (.agg i.2.enc)]) (fun i => i.1.fit 140737488355328 ∧ i.2.fit 140737488355328) (fun i => [.d (.one (.bool (decide (i.1 = i.2))))]) (fun _ => [.gone, .gone])
theorem spSameIV_inj : ∀ i j : T × T, (fun (i : T × T) => ([.d (.agg i.1.enc), .d (.agg i.2.enc)] : List AV)) i = (fun (i : T × T) => ([.d (.agg i.1.enc), .d (.agg i.2.enc)] : List AV)) j → i = j := by
  rintro ⟨a, b⟩ ⟨a', b'⟩ h
  simp only [Prod.mk.injEq]
  simpa [strs_eq, T.enc_eq, encL_eq, F.enc_eq, encF_eq, Tk.enc_eq, encTk_eq, Gn.enc_eq, ints_eq] using h
theorem spSameIV_md  : (spSameIV).md = [false, false] := rfl
theorem spSameIV_pre  (a : T) (b : T) : (spSameIV).pre [.d (.agg a.enc), .d (.agg b.enc)] = (a.fit 140737488355328 ∧ b.fit 140737488355328) := Spec.of_pre' spSameIV_inj (a, b)
theorem spSameIV_alts  : (spSameIV).alts = none := rfl
theorem spSameIV_res  (a : T) (b : T) : (spSameIV).res [.d (.agg a.enc), .d (.agg b.enc)] = [.d (.one (.bool (decide (a = b))))] := Spec.of_res spSameIV_inj (a, b)
theorem spSameIV_out  (a : T) (b : T) : (spSameIV).out [.d (.agg a.enc), .d (.agg b.enc)] = [.gone, .gone] := Spec.of_out spSameIV_inj (a, b)
theorem sameIV_sound : Sound Go.Proofs.Try.prog 11 spSameIV := Sound.all (μ := fun i => SizeOf.sizeOf i.1) (fun k => (sameI_all k).1)
end Go.Proofs.Pw
