/- Trees in new memory: what is told. -/
import Derived.Test.YtalbhhciphpbeaaPwCl
import Derived.Test.YtalbhhciphpbeaaPwD
set_option linter.unusedSimpArgs false
set_option linter.unusedVariables false
set_option linter.unusedSimpArgs false
set_option maxRecDepth 20000
namespace Go.Proofs.Pw
set_option linter.unusedSectionVars false
variable [Globs]
def x_told : X := (.seq (.reg [⟨some 2, none, .box (.t 0) (some 5)⟩, ⟨some 4, none, .alloc [(.c (.int .i64 0)), (.c (.int .i64 0)), (.c (.str ⟨#[]⟩)), (.z 1), (.z 5)]⟩, ⟨some 5, none, .mv (.k (.c (.bool false)))⟩] none [1, 2, 4]) (.seq (.seq (.reg [⟨some 6, none, .mv (.t 1)⟩, ⟨some 7, none, .not (.t 6)⟩, ⟨some 8, none, .mv (.t 7)⟩, ⟨some 9, some (8, false), .load (.t 2) (some 5)⟩, ⟨some 10, some (8, false), .call 49 [(.t 9)]⟩, ⟨some 11, some (8, false), .not (.t 10)⟩, ⟨some 12, none, .pick (.t 8) (.k (.c (.bool true))) (.t 11)⟩] none [2, 4, 12]) (.cond (.t 12) (.seq (.reg [⟨some 13, none, .build [(.c (.int .i64 0)), (.c (.int .i64 0)), (.c (.str ⟨#[]⟩)), (.z 1), (.z 5)] []⟩, ⟨none, none, .st (.t 4) (.t 13) (some 5)⟩, ⟨some 5, none, .mv (.k (.c (.bool false)))⟩] none [4, 5]) .ret) .skip)) (.seq (.reg [⟨some 14, none, .load (.t 2) (some 5)⟩, ⟨some 15, none, .call 50 [(.t 14)]⟩, ⟨none, none, .st (.t 4) (.t 15) (some 5)⟩, ⟨some 5, none, .mv (.k (.c (.bool true)))⟩] none [4, 5]) .ret)))
theorem chk_told : chkX Go.Proofs.Try.prog 16 (Go.Proofs.Try.f29.body.getD .skip) x_told = true := by kernel_rfl
theorem rs_told : okRs Go.Proofs.Try.prog Go.Proofs.Try.f29.results.toList [.cell 4 (some 5), .tmp 5] = true := by kernel_rfl
theorem call_told : okCallee Go.Proofs.Try.prog 29 = true := by kernel_rfl
def x_isRow : X := (.seq (.reg [⟨some 1, none, .box (.t 0) (some 5)⟩, ⟨some 2, none, .mv (.k (.c (.bool false)))⟩] none [1]) (.seq (.reg [⟨some 3, none, .load (.t 1) (some 5)⟩, ⟨some 4, none, .call 49 [(.t 3)]⟩, ⟨some 5, none, .mv (.t 4)⟩, ⟨some 6, some (5, true), .fa (.t 1) 0⟩, ⟨some 7, some (5, true), .load (.t 6) none⟩, ⟨some 8, some (5, true), .bin false .eql (.t 7) (.k (.c (.int .i64 5)))⟩, ⟨some 9, none, .pick (.t 5) (.t 8) (.k (.c (.bool false)))⟩, ⟨some 2, none, .mv (.t 9)⟩] none [2]) .ret))
theorem chk_isRow : chkX Go.Proofs.Try.prog 10 (Go.Proofs.Try.f28.body.getD .skip) x_isRow = true := by kernel_rfl
theorem rs_isRow : okRs Go.Proofs.Try.prog Go.Proofs.Try.f28.results.toList [.tmp 2] = true := by kernel_rfl
theorem call_isRow : okCallee Go.Proofs.Try.prog 28 = true := by kernel_rfl
def x_l1Copy : X := (.seq (.reg [⟨some 1, none, .box (.t 0) (some 5)⟩, ⟨some 2, none, .alloc [(.c (.int .i64 0)), (.c (.int .i64 0)), (.c (.str ⟨#[]⟩)), (.z 1), (.z 5)]⟩] none [1, 2]) (.seq (.mix [⟨some 5, none, .fa (.t 1) 0⟩, ⟨some 6, none, .load (.t 5) none⟩, ⟨some 7, none, .fa (.t 1) 1⟩, ⟨some 8, none, .load (.t 7) none⟩, ⟨some 9, none, .fa (.t 1) 2⟩, ⟨some 10, none, .load (.t 9) none⟩, ⟨some 11, none, .bsl 1 []⟩, ⟨some 12, none, .fa (.t 1) 3⟩, ⟨some 13, none, .load (.t 12) none⟩, ⟨some 14, none, .app (.t 11) (.t 13) 1 16 []⟩, ⟨some 15, none, .build [(.c (.int .i64 0)), (.c (.int .i64 0)), (.c (.str ⟨#[]⟩)), (.z 1), (.z 5)] [(0, (.t 6), none), (1, (.t 8), none), (2, (.t 10), none), (3, (.t 14), none)]⟩, ⟨some 3, none, .alloc [(.c (.int .i64 0)), (.c (.int .i64 0)), (.c (.str ⟨#[]⟩)), (.z 1), (.z 5)]⟩] [⟨none, none, .st (.t 3) (.t 15) (some 5)⟩] [[], [], [], [], [], [], [], [], [], [0, 1, 2, 3, 4, 5], [], [0, 1, 2, 3, 4, 5, 7, 8, 9, 10]] [1, 2, 3]) (.seq (.seq (.reg [⟨some 4, none, .mv (.k (.c (.int .i64 0)))⟩] none [1, 2, 3, 4]) (.block 0 (.loop (.seq (.seq (.reg [⟨some 16, none, .mv (.t 4)⟩, ⟨some 17, none, .fa (.t 1) 4⟩, ⟨some 18, none, .load (.t 17) none⟩, ⟨some 19, none, .len (.t 18) false⟩, ⟨some 20, none, .bin false .lss (.t 16) (.t 19)⟩] none [1, 2, 3, 4, 20]) (.cond (.t 20) .skip (.exit 0))) (.seq (.block 1 (.reg [⟨some 23, none, .fa (.t 3) 4⟩, ⟨some 24, none, .load (.t 23) none⟩, ⟨some 25, none, .fa (.t 1) 4⟩, ⟨some 26, none, .load (.t 25) none⟩, ⟨some 27, none, .mv (.t 4)⟩, ⟨some 28, none, .ia (.t 26) (.t 27) 5⟩, ⟨some 29, none, .load (.t 28) (some 5)⟩, ⟨some 30, none, .call 47 [(.t 29)]⟩, ⟨some 31, none, .bsl 5 [((.t 30), (some 5))]⟩, ⟨some 32, none, .app (.t 24) (.t 31) 5 80 []⟩, ⟨some 33, none, .fa (.t 3) 4⟩, ⟨none, none, .st (.t 33) (.t 32) none⟩] (some 9) [1, 2, 3, 4])) (.reg [⟨some 21, none, .mv (.t 4)⟩, ⟨some 22, none, .bin false .add (.t 21) (.k (.c (.int .i64 1)))⟩, ⟨some 4, none, .mv (.t 22)⟩] none [1, 2, 3, 4])))))) (.seq (.reg [⟨some 34, none, .load (.t 3) (some 5)⟩, ⟨none, none, .st (.t 2) (.t 34) (some 5)⟩] none [2]) .ret))))
theorem chk_l1Copy : chkX Go.Proofs.Try.prog 35 (Go.Proofs.Try.f47.body.getD .skip) x_l1Copy = true := by kernel_rfl
theorem rs_l1Copy : okRs Go.Proofs.Try.prog Go.Proofs.Try.f47.results.toList [.cell 2 (some 5)] = true := by kernel_rfl
theorem call_l1Copy : okCallee Go.Proofs.Try.prog 47 = true := by kernel_rfl
def x_l2Told : X := (.seq (.reg [⟨some 1, none, .box (.t 0) (some 5)⟩, ⟨some 2, none, .alloc [(.c (.int .i64 0)), (.c (.int .i64 0)), (.c (.str ⟨#[]⟩)), (.z 1), (.z 5)]⟩, ⟨some 3, none, .mv (.k (.c (.bool false)))⟩] none [1, 2]) (.seq (.seq (.reg [⟨some 4, none, .load (.t 1) (some 5)⟩, ⟨some 5, none, .call 46 [(.t 4)]⟩, ⟨some 6, none, .not (.t 5)⟩] none [1, 2, 6]) (.cond (.t 6) (.seq (.reg [⟨some 7, none, .build [(.c (.int .i64 0)), (.c (.int .i64 0)), (.c (.str ⟨#[]⟩)), (.z 1), (.z 5)] []⟩, ⟨none, none, .st (.t 2) (.t 7) (some 5)⟩, ⟨some 3, none, .mv (.k (.c (.bool false)))⟩] none [2, 3]) .ret) .skip)) (.seq (.reg [⟨some 8, none, .load (.t 1) (some 5)⟩, ⟨some 9, none, .call 47 [(.t 8)]⟩, ⟨none, none, .st (.t 2) (.t 9) (some 5)⟩, ⟨some 3, none, .mv (.k (.c (.bool true)))⟩] none [2, 3]) .ret)))
theorem chk_l2Told : chkX Go.Proofs.Try.prog 10 (Go.Proofs.Try.f23.body.getD .skip) x_l2Told = true := by kernel_rfl
theorem rs_l2Told : okRs Go.Proofs.Try.prog Go.Proofs.Try.f23.results.toList [.cell 2 (some 5), .tmp 3] = true := by kernel_rfl
theorem call_l2Told : okCallee Go.Proofs.Try.prog 23 = true := by kernel_rfl
def x_l4Row : X := (.seq (.reg [⟨some 1, none, .box (.t 0) (some 5)⟩, ⟨some 2, none, .mv (.k (.c (.bool false)))⟩] none [1]) (.seq (.reg [⟨some 3, none, .load (.t 1) (some 5)⟩, ⟨some 4, none, .call 46 [(.t 3)]⟩, ⟨some 5, none, .mv (.t 4)⟩, ⟨some 6, some (5, true), .fa (.t 1) 0⟩, ⟨some 7, some (5, true), .load (.t 6) none⟩, ⟨some 8, some (5, true), .bin false .eql (.t 7) (.k (.c (.int .i64 5)))⟩, ⟨some 9, none, .pick (.t 5) (.t 8) (.k (.c (.bool false)))⟩, ⟨some 2, none, .mv (.t 9)⟩] none [2]) .ret))
theorem chk_l4Row : chkX Go.Proofs.Try.prog 10 (Go.Proofs.Try.f22.body.getD .skip) x_l4Row = true := by kernel_rfl
theorem rs_l4Row : okRs Go.Proofs.Try.prog Go.Proofs.Try.f22.results.toList [.tmp 2] = true := by kernel_rfl
theorem call_l4Row : okCallee Go.Proofs.Try.prog 22 = true := by kernel_rfl
def T.kind : T → Int | .mk k _ _ _ _ => k
def T.n : T → Int | .mk _ n _ _ _ => n
def T.s : T → ByteArray | .mk _ _ s _ _ => s
def T.keys : T → List ByteArray | .mk _ _ _ ks _ => ks
def T.list : T → List T | .mk _ _ _ _ l => l
open Classical in
noncomputable def toldT (b : Bool) (t : T) : T := if b = true ∧ okT t then t else T.zero
def rowT (t : T) : Prop := okT t ∧ t.kind = 5
noncomputable instance (t : T) : Decidable (rowT t) := Classical.propDecidable _
theorem foldT (k n : Int) (s : ByteArray) (ks : List ByteArray) (l : List T) : DV.agg [C.int .i64 k, C.int .i64 n, C.str s, C.row 1 (strs ks), C.row 5 (encL l)] = DV.agg (T.mk k n s ks l).enc := rfl
noncomputable def spIsRow  : Spec := Spec.of (ι := T) [false] (fun i => [.d (.agg i.enc)]) (fun i => i.fit 140737488355328) (fun i => [.d (.one (.bool (decide (rowT i))))]) (fun _ => [.gone])
theorem spIsRow_inj : ∀ i j : T, (fun (i : T) => ([.d (.agg i.enc)] : List AV)) i = (fun (i : T) => ([.d (.agg i.enc)] : List AV)) j → i = j := by
  intro t t' h
  simpa [strs_eq, T.enc_eq, encL_eq, F.enc_eq, encF_eq, Tk.enc_eq, encTk_eq, Gn.enc_eq, ints_eq] using h
theorem spIsRow_md  : (spIsRow).md = [false] := rfl
theorem spIsRow_pre  (t : T) : (spIsRow).pre [.d (.agg t.enc)] = (t.fit 140737488355328) := Spec.of_pre' spIsRow_inj t
theorem spIsRow_alts  : (spIsRow).alts = none := rfl
theorem spIsRow_res  (t : T) : (spIsRow).res [.d (.agg t.enc)] = [.d (.one (.bool (decide (rowT t))))] := Spec.of_res spIsRow_inj t
theorem spIsRow_out  (t : T) : (spIsRow).out [.d (.agg t.enc)] = [.gone] := Spec.of_out spIsRow_inj t
theorem isRow_sound : Sound Go.Proofs.Try.prog 28 spIsRow := by
  refine sound_fam (GOK.cons call_ValOkI valOkI_sound GOK.nil) Go.Proofs.Try.func28 (c := Go.Proofs.Try.f28.body.getD .skip) rfl (n := 10) rfl chk_isRow rs_isRow (fun _ => by simp) ?_ ?_
  · exact spIsRow_inj
  · rintro t h1
    have f3 := T.enc_len t
    have f4 := okI_iff t
    obtain ⟨k, n, s, ks, l⟩ := t
    by_cases c : okT (.mk k n s ks l)
    · simp only [x_isRow, rg, go_sem, seval, rowT, T.kind, T.enc, foldT, f3, f4, c, spValOkI_md, spValOkI_pre, spValOkI_alts, spValOkI_res, spValOkI_out]
      exact h1
    · simp only [x_isRow, rg, go_sem, seval, rowT, T.kind, T.enc, foldT, f3, f4, c, spValOkI_md, spValOkI_pre, spValOkI_alts, spValOkI_res, spValOkI_out]
      exact ⟨h1, fun _ => by simp⟩
noncomputable def spL4Row  : Spec := Spec.of (ι := T) [false] (fun i => [.d (.agg i.enc)]) (fun i => i.fit 140737488355328 ∧ sizeT i ≤ 1048577) (fun i => [.d (.one (.bool (decide (rowT i))))]) (fun _ => [.gone])
theorem spL4Row_inj : ∀ i j : T, (fun (i : T) => ([.d (.agg i.enc)] : List AV)) i = (fun (i : T) => ([.d (.agg i.enc)] : List AV)) j → i = j := by
  intro t t' h
  simpa [strs_eq, T.enc_eq, encL_eq, F.enc_eq, encF_eq, Tk.enc_eq, encTk_eq, Gn.enc_eq, ints_eq] using h
theorem spL4Row_md  : (spL4Row).md = [false] := rfl
theorem spL4Row_pre  (t : T) : (spL4Row).pre [.d (.agg t.enc)] = (t.fit 140737488355328 ∧ sizeT t ≤ 1048577) := Spec.of_pre' spL4Row_inj t
theorem spL4Row_alts  : (spL4Row).alts = none := rfl
theorem spL4Row_res  (t : T) : (spL4Row).res [.d (.agg t.enc)] = [.d (.one (.bool (decide (rowT t))))] := Spec.of_res spL4Row_inj t
theorem spL4Row_out  (t : T) : (spL4Row).out [.d (.agg t.enc)] = [.gone] := Spec.of_out spL4Row_inj t
theorem l4Row_sound : Sound Go.Proofs.Try.prog 22 spL4Row := by
  refine sound_fam (GOK.cons call_ValOk sOkT_sound GOK.nil) Go.Proofs.Try.func22 (c := Go.Proofs.Try.f22.body.getD .skip) rfl (n := 10) rfl chk_l4Row rs_l4Row (fun _ => by simp) ?_ ?_
  · exact spL4Row_inj
  · rintro t h1
    have f3 := T.enc_len t
    obtain ⟨k, n, s, ks, l⟩ := t
    by_cases c : okT (.mk k n s ks l)
    · simp only [x_l4Row, rg, go_sem, seval, rowT, T.kind, T.enc, foldT, f3, c, spOkT_md, spOkT_pre, spOkT_alts, spOkT_res, spOkT_out]
      exact h1
    · simp only [x_l4Row, rg, go_sem, seval, rowT, T.kind, T.enc, foldT, f3, c, spOkT_md, spOkT_pre, spOkT_alts, spOkT_res, spOkT_out]
      exact ⟨h1, fun _ => by simp⟩
noncomputable def spCopy (k:Nat) : Spec := Spec.of (ι := T) [false] (fun i => [.d (.agg i.enc)]) (fun i => (i.fit 2000000) ∧ SizeOf.sizeOf i < k) (fun i => [.d (.agg i.enc)]) (fun _ => [.gone])
theorem spCopy_inj : ∀ i j : T, (fun (i : T) => ([.d (.agg i.enc)] : List AV)) i = (fun (i : T) => ([.d (.agg i.enc)] : List AV)) j → i = j := by
  intro t t' h
  simpa [strs_eq, T.enc_eq, encL_eq, F.enc_eq, encF_eq, Tk.enc_eq, encTk_eq, Gn.enc_eq, ints_eq] using h
theorem spCopy_md (k:Nat) : (spCopy k).md = [false] := rfl
theorem spCopy_pre (k:Nat) (t : T) : (spCopy k).pre [.d (.agg t.enc)] = ((t.fit 2000000) ∧ SizeOf.sizeOf t < k) := Spec.of_pre' spCopy_inj t
theorem spCopy_alts (k:Nat) : (spCopy k).alts = none := rfl
theorem spCopy_res (k:Nat) (t : T) : (spCopy k).res [.d (.agg t.enc)] = [.d (.agg t.enc)] := Spec.of_res spCopy_inj t
theorem spCopy_out (k:Nat) (t : T) : (spCopy k).out [.d (.agg t.enc)] = [.gone] := Spec.of_out spCopy_inj t
theorem spCopy_all (k:Nat) (t : T) (F : List AV → List AV → Prop) : (spCopy k).all [.d (.agg t.enc)] F = F [.d (.agg t.enc)] [.gone] := by rw [Spec.all_fn rfl, spCopy_res, spCopy_out]
theorem spCopy_ne (k:Nat) (t : T) : (spCopy k).ne [.d (.agg t.enc)] = True := Spec.ne_fn rfl _
set_option maxHeartbeats 1000000 in
theorem copy_sound (k : Nat) (hS : Sound Go.Proofs.Try.prog 47 (spCopy k)) : Sound Go.Proofs.Try.prog 47 (spCopy (k + 1)) := by
  refine sound_fam (GOK.cons call_l1Copy hS GOK.nil) Go.Proofs.Try.func47 (c := Go.Proofs.Try.f47.body.getD .skip) rfl (n := 35) rfl chk_l1Copy rs_l1Copy (fun _ => by simp) ?_ ?_
  · exact spCopy_inj
  · rintro t ⟨h1, h4⟩
    obtain ⟨kk, n, s, ks, l⟩ := t
    simp only [T.fit, lenB, strsFit] at h1
    obtain ⟨_, _, f1, ⟨f2, _⟩, f3, f4⟩ := h1
    have e3 : SizeOf.sizeOf l < k := by have e : SizeOf.sizeOf (T.mk kk n s ks l) < k + 1 := h4
                                        rw [T.mk.sizeOf_spec] at e; omega
    simp only [x_l1Copy, T.enc, go_sem, seval, Prod.fst, rg, strs_len, encL_len]
    repeat' (first | with_reducible assumption | with_reducible refine And.intro ?_ ?_ | intro _)
    all_goals first | omega | skip
    refine pw_loop (ι := Nat) (fun i => l.length - i) (fun i => i ≤ l.length)
      (fun i => ⟨[(1, .q (.box 1 0)), (2, .q (.box 2 0)), (3, .q (.box 3 0)), (4, .q (.c (.int .i64 i)))],
        [(1, [.c (.int .i64 kk), .c (.int .i64 n), .c (.str s), .c (.row 1 (strs ks)), .c (.row 5 (encL l))]), (2, [.c (.int .i64 0), .c (.int .i64 0), .c (.str ⟨#[]⟩), .z 1, .z 5]), (3, [.c (.int .i64 kk), .c (.int .i64 n), .c (.str s), .own 14, .own 32])], [(14, 1, strs ks), (32, 5, encL (l.take i))]⟩) 0 (Nat.zero_le _) ?_ ?_
    · refine (Le.ownB (b := 3) (j := 4) (d := 32) (sz := 5) (qs := [.c (.int .i64 kk), .c (.int .i64 n), .c (.str s), .own 14, .z 5]) (by decide) (by simp) rfl (by simp [Q.killO]) (by simp [PV.map, Q.killO])).trans (Le.of_eq ?_)
      simp [upd, del, encL]
    · intro i hi
      rcases Nat.lt_or_ge i l.length with hlt | hge
      · obtain ⟨t, ht, _, hmem⟩ := drop_at hlt
        have a1 := encL_at ht
        have a2 : ((i : Int) < (l.length : Int)) = True := by simp; omega
        have a3 := fitL_mem f4 t hmem
        have a4 := size_mem hmem
        have a6 := T.enc_len t
        have a7 : (l.take i).length = i := by simp; omega
        simp only [go_sem, seval, Prod.fst, rg, a1, a2, a6, a7, encL_len, spCopy_md, spCopy_pre, spCopy_alts, spCopy_res, spCopy_out, spCopy_md, spCopy_pre, spCopy_ne, ↓spCopy_all, spCopy_all]
        repeat' (first | with_reducible assumption | with_reducible refine And.intro ?_ ?_ | intro _)
        all_goals first | omega | skip
        refine ⟨i + 1, by omega, by omega, ?_⟩
        rw [encL_take ht]
        exact Le.sub (by simp) (by simp) (by simp)
      · have a2 : ((i : Int) < (l.length : Int)) = False := by simp; omega
        simp only [go_sem, seval, Prod.fst, rg, a2, List.take_of_length_le hge]
theorem copy_all (k : Nat) : Sound Go.Proofs.Try.prog 47 (spCopy k) := by
  induction k with
  | zero => exact Sound.none
  | succ k ih => exact copy_sound k ih
noncomputable def spCopyT  : Spec := Spec.of (ι := T) [false] (fun i => [.d (.agg i.enc)]) (fun i => i.fit 2000000) (fun i => [.d (.agg i.enc)]) (fun _ => [.gone])
theorem spCopyT_inj : ∀ i j : T, (fun (i : T) => ([.d (.agg i.enc)] : List AV)) i = (fun (i : T) => ([.d (.agg i.enc)] : List AV)) j → i = j := by
  intro t t' h
  simpa [strs_eq, T.enc_eq, encL_eq, F.enc_eq, encF_eq, Tk.enc_eq, encTk_eq, Gn.enc_eq, ints_eq] using h
theorem spCopyT_md  : (spCopyT).md = [false] := rfl
theorem spCopyT_pre  (t : T) : (spCopyT).pre [.d (.agg t.enc)] = (t.fit 2000000) := Spec.of_pre' spCopyT_inj t
theorem spCopyT_alts  : (spCopyT).alts = none := rfl
theorem spCopyT_res  (t : T) : (spCopyT).res [.d (.agg t.enc)] = [.d (.agg t.enc)] := Spec.of_res spCopyT_inj t
theorem spCopyT_out  (t : T) : (spCopyT).out [.d (.agg t.enc)] = [.gone] := Spec.of_out spCopyT_inj t
theorem copyT_sound : Sound Go.Proofs.Try.prog 47 spCopyT := Sound.all (μ := fun i => SizeOf.sizeOf i) copy_all
noncomputable def spL2Told  : Spec := Spec.of (ι := T) [false] (fun i => [.d (.agg i.enc)]) (fun i => i.fit 2000000 ∧ sizeT i ≤ 1048577) (fun i => [.d (.agg (toldT true i).enc), .d (.one (.bool (decide (okT i))))]) (fun _ => [.gone])
theorem spL2Told_inj : ∀ i j : T, (fun (i : T) => ([.d (.agg i.enc)] : List AV)) i = (fun (i : T) => ([.d (.agg i.enc)] : List AV)) j → i = j := by
  intro t t' h
  simpa [strs_eq, T.enc_eq, encL_eq, F.enc_eq, encF_eq, Tk.enc_eq, encTk_eq, Gn.enc_eq, ints_eq] using h
theorem spL2Told_md  : (spL2Told).md = [false] := rfl
theorem spL2Told_pre  (t : T) : (spL2Told).pre [.d (.agg t.enc)] = (t.fit 2000000 ∧ sizeT t ≤ 1048577) := Spec.of_pre' spL2Told_inj t
theorem spL2Told_alts  : (spL2Told).alts = none := rfl
theorem spL2Told_res  (t : T) : (spL2Told).res [.d (.agg t.enc)] = [.d (.agg (toldT true t).enc), .d (.one (.bool (decide (okT t))))] := Spec.of_res spL2Told_inj t
theorem spL2Told_out  (t : T) : (spL2Told).out [.d (.agg t.enc)] = [.gone] := Spec.of_out spL2Told_inj t
theorem l2Told_sound : Sound Go.Proofs.Try.prog 23 spL2Told := by
  refine sound_fam (GOK.cons (l := [(47, spCopyT)]) call_ValOk sOkT_sound (GOK.cons call_l1Copy copyT_sound GOK.nil)) Go.Proofs.Try.func23 (c := Go.Proofs.Try.f23.body.getD .skip) rfl (n := 10) rfl chk_l2Told rs_l2Told (fun _ => by simp) ?_ ?_
  · exact spL2Told_inj
  · rintro t ⟨h1, h2⟩
    have f1 : t.fit 140737488355328 := T.fit_mono (by decide) h1
    have f3 := T.enc_len t
    by_cases c : okT t
    · simp only [x_l2Told, rg, go_sem, seval, toldT, f3, c, spOkT_md, spOkT_pre, spOkT_alts, spOkT_res, spOkT_out, spCopyT_md, spCopyT_pre, spCopyT_alts, spCopyT_res, spCopyT_out]
      exact ⟨⟨f1, h2⟩, fun _ => h1⟩
    · simp only [x_l2Told, rg, go_sem, seval, toldT, f3, c, spOkT_md, spOkT_pre, spOkT_alts, spOkT_res, spOkT_out, spCopyT_md, spCopyT_pre, spCopyT_alts, spCopyT_res, spCopyT_out]
      exact ⟨⟨f1, h2⟩, fun _ => T.zero_enc⟩
end Go.Proofs.Pw
