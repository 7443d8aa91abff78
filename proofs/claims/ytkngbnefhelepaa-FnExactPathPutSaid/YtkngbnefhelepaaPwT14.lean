/- Counting down the size of a tree: the functions of the laws' text. -/
import Derived.Test.YtkngbnefhelepaaPwT10
import Derived.Test.YtkngbnefhelepaaProg
import Derived.KernelRfl
import Derived.Test.YtkngbnefhelepaaPwT12
set_option linter.unusedSimpArgs false
set_option linter.unusedVariables false
set_option linter.unusedSimpArgs false
set_option maxRecDepth 20000
namespace Go.Proofs.Pw
set_option linter.unusedSectionVars false
variable [Globs]
def x_szStringS : X := (.seq (.reg [⟨some 4, none, .mv (.k (.c (.int .i64 0)))⟩] none [0, 1]) (.seq (.reg [⟨some 6, none, .mv (.t 1)⟩, ⟨some 7, none, .mv (.t 0)⟩, ⟨some 8, none, .len (.t 7) false⟩, ⟨some 9, none, .bin false .sub (.t 6) (.t 8)⟩, ⟨some 1, none, .mv (.t 9)⟩] none [0, 1]) (.seq (.seq (.reg [⟨some 10, none, .mv (.t 1)⟩, ⟨some 11, none, .bin false .lss (.t 10) (.k (.c (.int .i64 0)))⟩] none [0, 1, 11]) (.cond (.t 11) (.seq (.reg [⟨some 4, none, .mv (.k (.c (.int .i64 (-1))))⟩] none [4]) .ret) .skip)) (.seq (.seq (.reg [⟨some 5, none, .mv (.k (.c (.int .i64 0)))⟩] none [0, 1, 5]) (.block 0 (.loop (.seq (.seq (.reg [⟨some 12, none, .mv (.t 5)⟩, ⟨some 13, none, .mv (.t 0)⟩, ⟨some 14, none, .len (.t 13) false⟩, ⟨some 15, none, .bin false .lss (.t 12) (.t 14)⟩] none [0, 1, 5, 15]) (.cond (.t 15) .skip (.exit 0))) (.seq (.block 1 (.seq (.reg [⟨some 18, none, .mv (.t 1)⟩, ⟨some 19, none, .mv (.t 0)⟩, ⟨some 20, none, .mv (.t 5)⟩, ⟨some 21, none, .ia (.t 19) (.t 20) 1⟩, ⟨some 22, none, .load (.t 21) none⟩, ⟨some 23, none, .len (.t 22) true⟩, ⟨some 24, none, .bin false .sub (.t 18) (.t 23)⟩, ⟨some 1, none, .mv (.t 24)⟩] none [0, 1, 5]) (.seq (.reg [⟨some 25, none, .mv (.t 1)⟩, ⟨some 26, none, .bin false .lss (.t 25) (.k (.c (.int .i64 0)))⟩] none [0, 1, 5, 26]) (.cond (.t 26) (.seq (.reg [⟨some 4, none, .mv (.k (.c (.int .i64 (-1))))⟩] none [4]) .ret) .skip)))) (.reg [⟨some 16, none, .mv (.t 5)⟩, ⟨some 17, none, .bin false .add (.t 16) (.k (.c (.int .i64 1)))⟩, ⟨some 5, none, .mv (.t 17)⟩] none [0, 1, 5])))))) (.seq (.reg [⟨some 27, none, .mv (.t 1)⟩, ⟨some 4, none, .mv (.t 27)⟩] none [4]) .ret)))))
theorem chk_szStringS : chkX Go.Proofs.Try.prog 28 (Go.Proofs.Try.f15.body.getD .skip) x_szStringS = true := by kernel_rfl
theorem rs_szStringS : okRs Go.Proofs.Try.prog Go.Proofs.Try.f15.results.toList [.tmp 4] = true := by kernel_rfl
theorem call_szStringS : okCallee Go.Proofs.Try.prog 15 = true := by kernel_rfl
def x_szValS : X := (.seq (.reg [⟨some 4, none, .mv (.k (.c (.int .i64 0)))⟩] none [0, 1]) (.seq (.reg [⟨some 6, none, .mv (.t 1)⟩, ⟨some 7, none, .mv (.t 0)⟩, ⟨some 8, none, .len (.t 7) false⟩, ⟨some 9, none, .bin false .sub (.t 6) (.t 8)⟩, ⟨some 1, none, .mv (.t 9)⟩] none [0, 1]) (.seq (.seq (.reg [⟨some 10, none, .mv (.t 1)⟩, ⟨some 11, none, .bin false .lss (.t 10) (.k (.c (.int .i64 0)))⟩] none [0, 1, 11]) (.cond (.t 11) (.seq (.reg [⟨some 4, none, .mv (.k (.c (.int .i64 (-1))))⟩] none [4]) .ret) .skip)) (.seq (.seq (.reg [⟨some 5, none, .mv (.k (.c (.int .i64 0)))⟩] none [0, 1, 5]) (.block 0 (.loop (.seq (.seq (.reg [⟨some 12, none, .mv (.t 5)⟩, ⟨some 13, none, .mv (.t 0)⟩, ⟨some 14, none, .len (.t 13) false⟩, ⟨some 15, none, .bin false .lss (.t 12) (.t 14)⟩] none [0, 1, 5, 15]) (.cond (.t 15) .skip (.exit 0))) (.seq (.block 1 (.seq (.reg [⟨some 18, none, .mv (.t 0)⟩, ⟨some 19, none, .mv (.t 5)⟩, ⟨some 20, none, .ia (.t 18) (.t 19) 5⟩, ⟨some 21, none, .load (.t 20) (some 5)⟩, ⟨some 22, none, .mv (.t 1)⟩, ⟨some 23, none, .call 4 [(.t 21), (.t 22)]⟩, ⟨some 1, none, .mv (.t 23)⟩] none [0, 1, 5]) (.seq (.reg [⟨some 24, none, .mv (.t 1)⟩, ⟨some 25, none, .bin false .lss (.t 24) (.k (.c (.int .i64 0)))⟩] none [0, 1, 5, 25]) (.cond (.t 25) (.seq (.reg [⟨some 4, none, .mv (.k (.c (.int .i64 (-1))))⟩] none [4]) .ret) .skip)))) (.reg [⟨some 16, none, .mv (.t 5)⟩, ⟨some 17, none, .bin false .add (.t 16) (.k (.c (.int .i64 1)))⟩, ⟨some 5, none, .mv (.t 17)⟩] none [0, 1, 5])))))) (.seq (.reg [⟨some 26, none, .mv (.t 1)⟩, ⟨some 4, none, .mv (.t 26)⟩] none [4]) .ret)))))
theorem chk_szValS : chkX Go.Proofs.Try.prog 27 (Go.Proofs.Try.f16.body.getD .skip) x_szValS = true := by kernel_rfl
theorem rs_szValS : okRs Go.Proofs.Try.prog Go.Proofs.Try.f16.results.toList [.tmp 4] = true := by kernel_rfl
theorem call_szValS : okCallee Go.Proofs.Try.prog 16 = true := by kernel_rfl
def x_szVal : X := (.seq (.reg [⟨some 2, none, .box (.t 0) (some 5)⟩, ⟨some 4, none, .mv (.k (.c (.int .i64 0)))⟩] none [1, 2]) (.seq (.reg [⟨some 5, none, .mv (.t 1)⟩, ⟨some 6, none, .fa (.t 2) 2⟩, ⟨some 7, none, .load (.t 6) none⟩, ⟨some 8, none, .len (.t 7) true⟩, ⟨some 9, none, .bin false .sub (.t 5) (.t 8)⟩, ⟨some 1, none, .mv (.t 9)⟩] none [1, 2]) (.seq (.seq (.reg [⟨some 10, none, .mv (.t 1)⟩, ⟨some 11, none, .bin false .lss (.t 10) (.k (.c (.int .i64 0)))⟩] none [1, 2, 11]) (.cond (.t 11) (.seq (.reg [⟨some 4, none, .mv (.k (.c (.int .i64 (-1))))⟩] none [4]) .ret) .skip)) (.seq (.reg [⟨some 12, none, .fa (.t 2) 3⟩, ⟨some 13, none, .load (.t 12) none⟩, ⟨some 14, none, .mv (.t 1)⟩, ⟨some 15, none, .call 15 [(.t 13), (.t 14)]⟩, ⟨some 1, none, .mv (.t 15)⟩] none [1, 2]) (.seq (.seq (.reg [⟨some 16, none, .mv (.t 1)⟩, ⟨some 17, none, .bin false .lss (.t 16) (.k (.c (.int .i64 0)))⟩] none [1, 2, 17]) (.cond (.t 17) (.seq (.reg [⟨some 4, none, .mv (.k (.c (.int .i64 (-1))))⟩] none [4]) .ret) .skip)) (.seq (.reg [⟨some 18, none, .fa (.t 2) 4⟩, ⟨some 19, none, .load (.t 18) none⟩, ⟨some 20, none, .mv (.t 1)⟩, ⟨some 21, none, .call 16 [(.t 19), (.t 20)]⟩, ⟨some 1, none, .mv (.t 21)⟩] none [1]) (.seq (.seq (.reg [⟨some 22, none, .mv (.t 1)⟩, ⟨some 23, none, .bin false .lss (.t 22) (.k (.c (.int .i64 0)))⟩] none [1, 23]) (.cond (.t 23) (.seq (.reg [⟨some 4, none, .mv (.k (.c (.int .i64 (-1))))⟩] none [4]) .ret) .skip)) (.seq (.reg [⟨some 24, none, .mv (.t 1)⟩, ⟨some 4, none, .mv (.t 24)⟩] none [4]) .ret))))))))
theorem chk_szVal : chkX Go.Proofs.Try.prog 25 (Go.Proofs.Try.f4.body.getD .skip) x_szVal = true := by kernel_rfl
theorem rs_szVal : okRs Go.Proofs.Try.prog Go.Proofs.Try.f4.results.toList [.tmp 4] = true := by kernel_rfl
theorem call_szVal : okCallee Go.Proofs.Try.prog 4 = true := by kernel_rfl
noncomputable def spSzStrS  : Spec := Spec.of (ι := (List ByteArray) × Int) [false, false] (fun i => [.d (.one (.row 1 (strs i.1))), .d (.one (.int .i64 i.2))]) (fun i => strsFit 140737488355328 i.1 ∧ 0 ≤ i.2 ∧ i.2 ≤ 1048576) (fun i => [.d (.one (.int .i64 (szStrS i.1 i.2)))]) (fun _ => [.gone, .gone])
theorem spSzStrS_inj : ∀ i j : (List ByteArray) × Int, (fun (i : (List ByteArray) × Int) => ([.d (.one (.row 1 (strs i.1))), .d (.one (.int .i64 i.2))] : List AV)) i = (fun (i : (List ByteArray) × Int) => ([.d (.one (.row 1 (strs i.1))), .d (.one (.int .i64 i.2))] : List AV)) j → i = j := by
  rintro ⟨ks, l⟩ ⟨ks', l'⟩ h
  simp only [Prod.mk.injEq]
  simpa [strs_eq, T.enc_eq, encL_eq, F.enc_eq, encF_eq, Tk.enc_eq, encTk_eq, Gn.enc_eq, ints_eq] using h
theorem spSzStrS_md  : (spSzStrS).md = [false, false] := rfl
theorem spSzStrS_pre  (ks : List ByteArray) (l : Int) : (spSzStrS).pre [.d (.one (.row 1 (strs ks))), .d (.one (.int .i64 l))] = (strsFit 140737488355328 ks ∧ 0 ≤ l ∧ l ≤ 1048576) := Spec.of_pre' spSzStrS_inj (ks, l)
theorem spSzStrS_alts  : (spSzStrS).alts = none := rfl
theorem spSzStrS_res  (ks : List ByteArray) (l : Int) : (spSzStrS).res [.d (.one (.row 1 (strs ks))), .d (.one (.int .i64 l))] = [.d (.one (.int .i64 (szStrS ks l)))] := Spec.of_res spSzStrS_inj (ks, l)
theorem spSzStrS_out  (ks : List ByteArray) (l : Int) : (spSzStrS).out [.d (.one (.row 1 (strs ks))), .d (.one (.int .i64 l))] = [.gone, .gone] := Spec.of_out spSzStrS_inj (ks, l)
noncomputable def spSzTS (k:Nat) : Spec := Spec.of (ι := (List T) × Int) [false, false] (fun i => [.d (.one (.row 5 (encL i.1))), .d (.one (.int .i64 i.2))]) (fun i => (lenB 140737488355328 i.1.length ∧ fitL 140737488355328 i.1 ∧ 0 ≤ i.2 ∧ i.2 ≤ 1048576) ∧ SizeOf.sizeOf i.1 < k) (fun i => [.d (.one (.int .i64 (szTS i.1 i.2)))]) (fun _ => [.gone, .gone])
theorem spSzTS_inj : ∀ i j : (List T) × Int, (fun (i : (List T) × Int) => ([.d (.one (.row 5 (encL i.1))), .d (.one (.int .i64 i.2))] : List AV)) i = (fun (i : (List T) × Int) => ([.d (.one (.row 5 (encL i.1))), .d (.one (.int .i64 i.2))] : List AV)) j → i = j := by
  rintro ⟨ks, l⟩ ⟨ks', l'⟩ h
  simp only [Prod.mk.injEq]
  simpa [strs_eq, T.enc_eq, encL_eq, F.enc_eq, encF_eq, Tk.enc_eq, encTk_eq, Gn.enc_eq, ints_eq] using h
theorem spSzTS_md (k:Nat) : (spSzTS k).md = [false, false] := rfl
theorem spSzTS_pre (k:Nat) (ks : List T) (l : Int) : (spSzTS k).pre [.d (.one (.row 5 (encL ks))), .d (.one (.int .i64 l))] = ((lenB 140737488355328 ks.length ∧ fitL 140737488355328 ks ∧ 0 ≤ l ∧ l ≤ 1048576) ∧ SizeOf.sizeOf ks < k) := Spec.of_pre' spSzTS_inj (ks, l)
theorem spSzTS_alts (k:Nat) : (spSzTS k).alts = none := rfl
theorem spSzTS_res (k:Nat) (ks : List T) (l : Int) : (spSzTS k).res [.d (.one (.row 5 (encL ks))), .d (.one (.int .i64 l))] = [.d (.one (.int .i64 (szTS ks l)))] := Spec.of_res spSzTS_inj (ks, l)
theorem spSzTS_out (k:Nat) (ks : List T) (l : Int) : (spSzTS k).out [.d (.one (.row 5 (encL ks))), .d (.one (.int .i64 l))] = [.gone, .gone] := Spec.of_out spSzTS_inj (ks, l)
noncomputable def spSzT (k:Nat) : Spec := Spec.of (ι := T × Int) [false, false] (fun i => [.d (.agg i.1.enc), .d (.one (.int .i64 i.2))]) (fun i => (i.1.fit 140737488355328 ∧ 0 ≤ i.2 ∧ i.2 ≤ 1048576) ∧ SizeOf.sizeOf i.1 < k) (fun i => [.d (.one (.int .i64 (szT i.1 i.2)))]) (fun _ => [.gone, .gone])
theorem spSzT_inj : ∀ i j : T × Int, (fun (i : T × Int) => ([.d (.agg i.1.enc), .d (.one (.int .i64 i.2))] : List AV)) i = (fun (i : T × Int) => ([.d (.agg i.1.enc), .d (.one (.int .i64 i.2))] : List AV)) j → i = j := by
  rintro ⟨t, l⟩ ⟨t', l'⟩ h
  simp only [Prod.mk.injEq]
  simpa [strs_eq, T.enc_eq, encL_eq, F.enc_eq, encF_eq, Tk.enc_eq, encTk_eq, Gn.enc_eq, ints_eq] using h
theorem spSzT_md (k:Nat) : (spSzT k).md = [false, false] := rfl
theorem spSzT_pre (k:Nat) (t : T) (l : Int) : (spSzT k).pre [.d (.agg t.enc), .d (.one (.int .i64 l))] = ((t.fit 140737488355328 ∧ 0 ≤ l ∧ l ≤ 1048576) ∧ SizeOf.sizeOf t < k) := Spec.of_pre' spSzT_inj (t, l)
theorem spSzT_alts (k:Nat) : (spSzT k).alts = none := rfl
theorem spSzT_res (k:Nat) (t : T) (l : Int) : (spSzT k).res [.d (.agg t.enc), .d (.one (.int .i64 l))] = [.d (.one (.int .i64 (szT t l)))] := Spec.of_res spSzT_inj (t, l)
theorem spSzT_out (k:Nat) (t : T) (l : Int) : (spSzT k).out [.d (.agg t.enc), .d (.one (.int .i64 l))] = [.gone, .gone] := Spec.of_out spSzT_inj (t, l)
theorem szStrS_sound : Sound Go.Proofs.Try.prog 15 spSzStrS := by
  refine sound_fam GOK.nil Go.Proofs.Try.func15 (c := Go.Proofs.Try.f15.body.getD .skip) rfl (n := 28) rfl chk_szStringS rs_szStringS (fun _ => by simp) ?_ ?_
  · exact spSzStrS_inj
  · rintro ⟨ks, left⟩ ⟨⟨h1, h2⟩, h3, h4⟩
    simp only [lenB] at *
    simp only [x_szStringS, rg, go_sem, seval]
    refine ⟨by omega, fun _ => ⟨fun h => by simp only [szStrS]; rw [if_pos h], fun h => ?_⟩⟩
    refine pw_loop (ι := Nat × Int) (fun i => ks.length - i.1) (fun i => i.1 ≤ ks.length ∧ 0 ≤ i.2 ∧ i.2 ≤ left ∧ szStr (ks.drop i.1) i.2 = szStrS ks left)
      (fun i => ⟨[(0, .q (.c (.row 1 (strs ks)))), (1, .q (.c (.int .i64 i.2))), (5, .q (.c (.int .i64 i.1)))], [], []⟩) (0, left - ks.length) ⟨by omega, by omega, by omega, by simp only [szStrS, List.drop_zero]; rw [if_neg h]⟩ (Le.refl _) ?_
    rintro ⟨i, l⟩ ⟨hi, hl0, hl, heq⟩
    simp only at hi hl0 hl heq
    rcases Nat.lt_or_ge i ks.length with hlt | hge
    · obtain ⟨s, hs, hdr, hmem⟩ := drop_at hlt
      have h5 := strs_at hs
      have h6 := h2 s hmem
      have h7 : ((i : Int) < (ks.length : Int)) = True := by simp; omega
      rw [hdr] at heq
      simp only [szStr] at heq
      simp only [go_sem, seval, h5, h7]
      repeat' (first | with_reducible assumption | with_reducible refine And.intro ?_ ?_ | intro _)
      all_goals first | omega | skip
      · rw [if_neg (by omega)] at heq
        exact ⟨(i + 1, l - s.size), ⟨by simp only; omega, by simp only; omega, by simp only; omega, heq⟩, by simp only; omega, Le.refl _⟩
    · have h7 : ((i : Int) < (ks.length : Int)) = False := by simp; omega
      rw [List.drop_eq_nil_of_le hge] at heq
      simp only [szStr] at heq
      simp only [go_sem, seval, h7]
      exact heq.symm
theorem szT_sound (k : Nat) (hS : Sound Go.Proofs.Try.prog 16 (spSzTS k)) : Sound Go.Proofs.Try.prog 4 (spSzT (k + 1)) := by
  refine sound_fam (GOK.cons (l := [(16, spSzTS k)]) call_szStringS szStrS_sound (GOK.cons call_szValS hS GOK.nil)) Go.Proofs.Try.func4 (c := Go.Proofs.Try.f4.body.getD .skip) rfl (n := 25) rfl chk_szVal rs_szVal (fun _ => by simp) ?_ ?_
  · exact spSzT_inj
  · rintro ⟨t, left⟩ ⟨⟨h1, h2, h3⟩, h4⟩
    obtain ⟨kk, n, s, ks, l⟩ := t
    simp only [T.fit, lenB] at h1
    obtain ⟨_, _, f1, f2, f3, f4⟩ := h1
    have e1 := szStrS_le (ks := ks) (left := left - s.size)
    have e2 := szTS_le (l := l) (left := szStrS ks (left - s.size))
    have e3 : SizeOf.sizeOf l < k := by have e : SizeOf.sizeOf (T.mk kk n s ks l) < k + 1 := h4
                                        rw [T.mk.sizeOf_spec] at e; omega
    have e4 : szT (T.mk kk n s ks l) left = if left - s.size < 0 then -1 else if szStrS ks (left - s.size) < 0 then -1 else if szTS l (szStrS ks (left - s.size)) < 0 then -1 else szTS l (szStrS ks (left - s.size)) := by
      have e5 := szTL_le (l := l) (left := szStrS ks (left - s.size) - l.length)
      simp only [szT, szTS]
      repeat' split
      all_goals first | rfl | omega
    simp only [x_szVal, T.enc, go_sem, seval, rg, spSzStrS_md, spSzStrS_pre, spSzStrS_alts, spSzStrS_res, spSzStrS_out, spSzTS_md, spSzTS_pre, spSzTS_alts, spSzTS_res, spSzTS_out]
    rw [e4]
    repeat' (first | with_reducible assumption | with_reducible refine And.intro ?_ ?_ | intro _)
    all_goals first | omega | assumption | skip
theorem szTS_sound (k : Nat) (hS : Sound Go.Proofs.Try.prog 4 (spSzT k)) : Sound Go.Proofs.Try.prog 16 (spSzTS (k + 1)) := by
  refine sound_fam (GOK.cons call_szVal hS GOK.nil) Go.Proofs.Try.func16 (c := Go.Proofs.Try.f16.body.getD .skip) rfl (n := 27) rfl chk_szValS rs_szValS (fun _ => by simp) ?_ ?_
  · exact spSzTS_inj
  · rintro ⟨ks, left⟩ ⟨⟨h1, h2, h3, h4⟩, h5⟩
    simp only at h1 h2 h3 h4 h5
    simp only [lenB] at h1
    simp only [x_szValS, rg, go_sem, seval]
    refine ⟨by omega, fun _ => ⟨fun h => by simp only [szTS]; rw [if_pos h], fun h => ?_⟩⟩
    refine pw_loop (ι := Nat × Int) (fun i => ks.length - i.1) (fun i => i.1 ≤ ks.length ∧ 0 ≤ i.2 ∧ i.2 ≤ left ∧ szTL (ks.drop i.1) i.2 = szTS ks left)
      (fun i => ⟨[(0, .q (.c (.row 5 (encL ks)))), (1, .q (.c (.int .i64 i.2))), (5, .q (.c (.int .i64 i.1)))], [], []⟩) (0, left - ks.length) ⟨by omega, by omega, by omega, by simp only [szTS, List.drop_zero]; rw [if_neg h]⟩ (Le.refl _) ?_
    rintro ⟨i, l⟩ ⟨hi, hl0, hl, heq⟩
    simp only at hi hl0 hl heq
    rcases Nat.lt_or_ge i ks.length with hlt | hge
    · obtain ⟨t, hs, hdr, hmem⟩ := drop_at hlt
      have a1 := encL_at hs
      have a2 := fitL_mem h2 t hmem
      have a3 := size_mem hmem
      have a4 : ((i : Int) < (ks.length : Int)) = True := by simp; omega
      have a5 := szT_le (t := t) hl0
      have a6 := T.enc_len t
      have a7 : (szT t l < 0 → szTS ks left = -1) ∧ (¬ szT t l < 0 → szTL (ks.drop (i + 1)) (szT t l) = szTS ks left) := by
        rw [hdr] at heq
        simp only [szTL] at heq
        refine ⟨fun h => ?_, fun h => ?_⟩
        · rw [if_pos h] at heq; exact heq.symm
        · rw [if_neg h] at heq; exact heq
      simp only [go_sem, seval, rg, a1, a4, a6, toD_map, spSzT_md, spSzT_pre, spSzT_alts, spSzT_res, spSzT_out]
      repeat' (first | with_reducible assumption | with_reducible refine And.intro ?_ ?_ | intro _)
      all_goals first | omega | (exact a7.1 (by assumption)) | skip
      exact ⟨(i + 1, szT t l), ⟨by simp only; omega, by simp only; omega, by simp only; omega, a7.2 (by omega)⟩, by simp only; omega, Le.refl _⟩
    · have h7 : ((i : Int) < (ks.length : Int)) = False := by simp; omega
      rw [List.drop_eq_nil_of_le hge] at heq
      simp only [szTL] at heq
      simp only [go_sem, seval, h7]
      exact heq.symm
theorem sz_all (k : Nat) : Sound Go.Proofs.Try.prog 4 (spSzT k) ∧ Sound Go.Proofs.Try.prog 16 (spSzTS k) := by
  induction k with
  | zero => exact ⟨Sound.none, Sound.none⟩
  | succ k ih => exact ⟨szT_sound k ih.2, szTS_sound k ih.1⟩
noncomputable def spSzV  : Spec := Spec.of (ι := T × Int) [false, false] (fun i => [.d (.agg i.1.enc), .d (.one (.int .i64 i.2))]) (fun i => i.1.fit 140737488355328 ∧ 0 ≤ i.2 ∧ i.2 ≤ 1048576) (fun i => [.d (.one (.int .i64 (szT i.1 i.2)))]) (fun _ => [.gone, .gone])
theorem spSzV_inj : ∀ i j : T × Int, (fun (i : T × Int) => ([.d (.agg i.1.enc), .d (.one (.int .i64 i.2))] : List AV)) i = (fun (i : T × Int) => ([.d (.agg i.1.enc), .d (.one (.int .i64 i.2))] : List AV)) j → i = j := by
  rintro ⟨t, l⟩ ⟨t', l'⟩ h
  simp only [Prod.mk.injEq]
  simpa [strs_eq, T.enc_eq, encL_eq, F.enc_eq, encF_eq, Tk.enc_eq, encTk_eq, Gn.enc_eq, ints_eq] using h
theorem spSzV_md  : (spSzV).md = [false, false] := rfl
theorem spSzV_pre  (t : T) (l : Int) : (spSzV).pre [.d (.agg t.enc), .d (.one (.int .i64 l))] = (t.fit 140737488355328 ∧ 0 ≤ l ∧ l ≤ 1048576) := Spec.of_pre' spSzV_inj (t, l)
theorem spSzV_alts  : (spSzV).alts = none := rfl
theorem spSzV_res  (t : T) (l : Int) : (spSzV).res [.d (.agg t.enc), .d (.one (.int .i64 l))] = [.d (.one (.int .i64 (szT t l)))] := Spec.of_res spSzV_inj (t, l)
theorem spSzV_out  (t : T) (l : Int) : (spSzV).out [.d (.agg t.enc), .d (.one (.int .i64 l))] = [.gone, .gone] := Spec.of_out spSzV_inj (t, l)
theorem szV_sound : Sound Go.Proofs.Try.prog 4 spSzV := Sound.all (μ := fun i => SizeOf.sizeOf i.1) (fun k => (sz_all k).1)
end Go.Proofs.Pw
/- Comparing trees: the functions of the laws' text. -/
set_option linter.unusedSimpArgs false
set_option maxRecDepth 20000
namespace Go.Proofs.Pw
set_option linter.unusedSectionVars false
variable [Globs]
def x_eqStringS : X := (.seq (.reg [⟨some 4, none, .mv (.k (.c (.bool false)))⟩] none [0, 1]) (.seq (.seq (.reg [⟨some 6, none, .mv (.t 0)⟩, ⟨some 7, none, .len (.t 6) false⟩, ⟨some 8, none, .mv (.t 1)⟩, ⟨some 9, none, .len (.t 8) false⟩, ⟨some 10, none, .bin false .neq (.t 7) (.t 9)⟩] none [0, 1, 10]) (.cond (.t 10) (.seq (.reg [⟨some 4, none, .mv (.k (.c (.bool false)))⟩] none [4]) .ret) .skip)) (.seq (.seq (.reg [⟨some 5, none, .mv (.k (.c (.int .i64 0)))⟩] none [0, 1, 5]) (.block 0 (.loop (.seq (.seq (.reg [⟨some 11, none, .mv (.t 5)⟩, ⟨some 12, none, .mv (.t 0)⟩, ⟨some 13, none, .len (.t 12) false⟩, ⟨some 14, none, .bin false .lss (.t 11) (.t 13)⟩] none [0, 1, 5, 14]) (.cond (.t 14) .skip (.exit 0))) (.seq (.block 1 (.seq (.reg [⟨some 17, none, .mv (.t 0)⟩, ⟨some 18, none, .mv (.t 5)⟩, ⟨some 19, none, .ia (.t 17) (.t 18) 1⟩, ⟨some 20, none, .load (.t 19) none⟩, ⟨some 21, none, .mv (.t 1)⟩, ⟨some 22, none, .mv (.t 5)⟩, ⟨some 23, none, .ia (.t 21) (.t 22) 1⟩, ⟨some 24, none, .load (.t 23) none⟩, ⟨some 25, none, .bin false .neq (.t 20) (.t 24)⟩] (some 8) [0, 1, 5, 25]) (.cond (.t 25) (.seq (.reg [⟨some 4, none, .mv (.k (.c (.bool false)))⟩] none [4]) .ret) .skip))) (.reg [⟨some 15, none, .mv (.t 5)⟩, ⟨some 16, none, .bin false .add (.t 15) (.k (.c (.int .i64 1)))⟩, ⟨some 5, none, .mv (.t 16)⟩] none [0, 1, 5])))))) (.seq (.reg [⟨some 4, none, .mv (.k (.c (.bool true)))⟩] none [4]) .ret))))
theorem chk_eqStringS : chkX Go.Proofs.Try.prog 26 (Go.Proofs.Try.f29.body.getD .skip) x_eqStringS = true := by kernel_rfl
theorem rs_eqStringS : okRs Go.Proofs.Try.prog Go.Proofs.Try.f29.results.toList [.tmp 4] = true := by kernel_rfl
theorem call_eqStringS : okCallee Go.Proofs.Try.prog 29 = true := by kernel_rfl
def x_eqValS : X := (.seq (.reg [⟨some 4, none, .mv (.k (.c (.bool false)))⟩] none [0, 1]) (.seq (.seq (.reg [⟨some 6, none, .mv (.t 0)⟩, ⟨some 7, none, .len (.t 6) false⟩, ⟨some 8, none, .mv (.t 1)⟩, ⟨some 9, none, .len (.t 8) false⟩, ⟨some 10, none, .bin false .neq (.t 7) (.t 9)⟩] none [0, 1, 10]) (.cond (.t 10) (.seq (.reg [⟨some 4, none, .mv (.k (.c (.bool false)))⟩] none [4]) .ret) .skip)) (.seq (.seq (.reg [⟨some 5, none, .mv (.k (.c (.int .i64 0)))⟩] none [0, 1, 5]) (.block 0 (.loop (.seq (.seq (.reg [⟨some 11, none, .mv (.t 5)⟩, ⟨some 12, none, .mv (.t 0)⟩, ⟨some 13, none, .len (.t 12) false⟩, ⟨some 14, none, .bin false .lss (.t 11) (.t 13)⟩] none [0, 1, 5, 14]) (.cond (.t 14) .skip (.exit 0))) (.seq (.block 1 (.seq (.reg [⟨some 17, none, .mv (.t 0)⟩, ⟨some 18, none, .mv (.t 5)⟩, ⟨some 19, none, .ia (.t 17) (.t 18) 5⟩, ⟨some 20, none, .load (.t 19) (some 5)⟩, ⟨some 21, none, .mv (.t 1)⟩, ⟨some 22, none, .mv (.t 5)⟩, ⟨some 23, none, .ia (.t 21) (.t 22) 5⟩, ⟨some 24, none, .load (.t 23) (some 5)⟩, ⟨some 25, none, .call 10 [(.t 20), (.t 24)]⟩, ⟨some 26, none, .not (.t 25)⟩] (some 8) [0, 1, 5, 26]) (.cond (.t 26) (.seq (.reg [⟨some 4, none, .mv (.k (.c (.bool false)))⟩] none [4]) .ret) .skip))) (.reg [⟨some 15, none, .mv (.t 5)⟩, ⟨some 16, none, .bin false .add (.t 15) (.k (.c (.int .i64 1)))⟩, ⟨some 5, none, .mv (.t 16)⟩] none [0, 1, 5])))))) (.seq (.reg [⟨some 4, none, .mv (.k (.c (.bool true)))⟩] none [4]) .ret))))
theorem chk_eqValS : chkX Go.Proofs.Try.prog 27 (Go.Proofs.Try.f30.body.getD .skip) x_eqValS = true := by kernel_rfl
theorem rs_eqValS : okRs Go.Proofs.Try.prog Go.Proofs.Try.f30.results.toList [.tmp 4] = true := by kernel_rfl
theorem call_eqValS : okCallee Go.Proofs.Try.prog 30 = true := by kernel_rfl
def x_eqVal : X := (.seq (.reg [⟨some 2, none, .box (.t 0) (some 5)⟩, ⟨some 3, none, .box (.t 1) (some 5)⟩, ⟨some 4, none, .mv (.k (.c (.bool false)))⟩] none [2, 3]) (.seq (.seq (.reg [⟨some 5, none, .fa (.t 2) 0⟩, ⟨some 6, none, .load (.t 5) none⟩, ⟨some 7, none, .fa (.t 3) 0⟩, ⟨some 8, none, .load (.t 7) none⟩, ⟨some 9, none, .bin false .neq (.t 6) (.t 8)⟩] none [2, 3, 9]) (.cond (.t 9) (.seq (.reg [⟨some 4, none, .mv (.k (.c (.bool false)))⟩] none [4]) .ret) .skip)) (.seq (.seq (.reg [⟨some 10, none, .fa (.t 2) 1⟩, ⟨some 11, none, .load (.t 10) none⟩, ⟨some 12, none, .fa (.t 3) 1⟩, ⟨some 13, none, .load (.t 12) none⟩, ⟨some 14, none, .bin false .neq (.t 11) (.t 13)⟩] none [2, 3, 14]) (.cond (.t 14) (.seq (.reg [⟨some 4, none, .mv (.k (.c (.bool false)))⟩] none [4]) .ret) .skip)) (.seq (.seq (.reg [⟨some 15, none, .fa (.t 2) 2⟩, ⟨some 16, none, .load (.t 15) none⟩, ⟨some 17, none, .fa (.t 3) 2⟩, ⟨some 18, none, .load (.t 17) none⟩, ⟨some 19, none, .bin false .neq (.t 16) (.t 18)⟩] none [2, 3, 19]) (.cond (.t 19) (.seq (.reg [⟨some 4, none, .mv (.k (.c (.bool false)))⟩] none [4]) .ret) .skip)) (.seq (.seq (.reg [⟨some 20, none, .fa (.t 2) 3⟩, ⟨some 21, none, .load (.t 20) none⟩, ⟨some 22, none, .fa (.t 3) 3⟩, ⟨some 23, none, .load (.t 22) none⟩, ⟨some 24, none, .call 29 [(.t 21), (.t 23)]⟩, ⟨some 25, none, .not (.t 24)⟩] none [2, 3, 25]) (.cond (.t 25) (.seq (.reg [⟨some 4, none, .mv (.k (.c (.bool false)))⟩] none [4]) .ret) .skip)) (.seq (.seq (.reg [⟨some 26, none, .fa (.t 2) 4⟩, ⟨some 27, none, .load (.t 26) none⟩, ⟨some 28, none, .fa (.t 3) 4⟩, ⟨some 29, none, .load (.t 28) none⟩, ⟨some 30, none, .call 30 [(.t 27), (.t 29)]⟩, ⟨some 31, none, .not (.t 30)⟩] none [31]) (.cond (.t 31) (.seq (.reg [⟨some 4, none, .mv (.k (.c (.bool false)))⟩] none [4]) .ret) .skip)) (.seq (.reg [⟨some 4, none, .mv (.k (.c (.bool true)))⟩] none [4]) .ret)))))))
theorem chk_eqVal : chkX Go.Proofs.Try.prog 32 (Go.Proofs.Try.f10.body.getD .skip) x_eqVal = true := by kernel_rfl
theorem rs_eqVal : okRs Go.Proofs.Try.prog Go.Proofs.Try.f10.results.toList [.tmp 4] = true := by kernel_rfl
theorem call_eqVal : okCallee Go.Proofs.Try.prog 10 = true := by kernel_rfl
noncomputable def spEqStrS  : Spec := Spec.of (ι := (List ByteArray) × (List ByteArray)) [false, false] (fun i => [.d (.one (.row 1 (strs i.1))), .d (.one (.row 1 (strs i.2)))]) (fun i => lenB 1048576 i.1.length ∧ lenB 1048576 i.2.length) (fun i => [.d (.one (.bool (decide (i.1 = i.2))))]) (fun _ => [.gone, .gone])
theorem spEqStrS_inj : ∀ i j : (List ByteArray) × (List ByteArray), (fun (i : (List ByteArray) × (List ByteArray)) => ([.d (.one (.row 1 (strs i.1))), .d (.one (.row 1 (strs i.2)))] : List AV)) i = (fun (i : (List ByteArray) × (List ByteArray)) => ([.d (.one (.row 1 (strs i.1))), .d (.one (.row 1 (strs i.2)))] : List AV)) j → i = j := by
  rintro ⟨a, b⟩ ⟨a', b'⟩ h
  simp only [Prod.mk.injEq]
  simpa [strs_eq, T.enc_eq, encL_eq, F.enc_eq, encF_eq, Tk.enc_eq, encTk_eq, Gn.enc_eq, ints_eq] using h
theorem spEqStrS_md  : (spEqStrS).md = [false, false] := rfl
theorem spEqStrS_pre  (a : List ByteArray) (b : List ByteArray) : (spEqStrS).pre [.d (.one (.row 1 (strs a))), .d (.one (.row 1 (strs b)))] = (lenB 1048576 a.length ∧ lenB 1048576 b.length) := Spec.of_pre' spEqStrS_inj (a, b)
theorem spEqStrS_alts  : (spEqStrS).alts = none := rfl
theorem spEqStrS_res  (a : List ByteArray) (b : List ByteArray) : (spEqStrS).res [.d (.one (.row 1 (strs a))), .d (.one (.row 1 (strs b)))] = [.d (.one (.bool (decide (a = b))))] := Spec.of_res spEqStrS_inj (a, b)
theorem spEqStrS_out  (a : List ByteArray) (b : List ByteArray) : (spEqStrS).out [.d (.one (.row 1 (strs a))), .d (.one (.row 1 (strs b)))] = [.gone, .gone] := Spec.of_out spEqStrS_inj (a, b)
theorem eqStrS_sound : Sound Go.Proofs.Try.prog 29 spEqStrS := by
  refine sound_fam GOK.nil Go.Proofs.Try.func29 (c := Go.Proofs.Try.f29.body.getD .skip) rfl (n := 26) rfl chk_eqStringS rs_eqStringS (fun _ => by simp) ?_ ?_
  · exact spEqStrS_inj
  · rintro ⟨a, b⟩ h1
    obtain h1 := h1
    simp only [lenB] at h1
    skip
    skip
    by_cases hl : a.length = b.length
    · have b1 : ((a.length : Int) = (b.length : Int)) = True := by simp [hl]
      simp only [x_eqStringS, rg, go_sem, seval, b1, not_true_eq_false]
      refine pw_loop (ι := Nat) (fun i => a.length - i) (fun i => i ≤ a.length ∧ a.take i = b.take i)
        (fun i => ⟨[(0, .q (.c (.row 1 (strs a)))), (1, .q (.c (.row 1 (strs b)))), (5, .q (.c (.int .i64 i)))], [], []⟩) 0 ⟨Nat.zero_le _, rfl⟩ (Le.refl _) ?_
      rintro i ⟨hi, heq⟩
      rcases Nat.lt_or_ge i a.length with hlt | hge
      · obtain ⟨s, hs, _, hmem⟩ := drop_at hlt
        obtain ⟨s', hs', _, hmem'⟩ := drop_at (l := b) (i := i) (by omega)
        have a1 := strs_at hs
        have a1' := strs_at hs'
        have a2 : ((i : Int) < (a.length : Int)) = True := by simp; omega
        have a3 : ((i : Int) < (b.length : Int)) = True := by simp; omega
        skip
        skip
        skip
        skip
        skip
        by_cases hc : s = s'
        · have c1 : (s = s') = True := by simp [hc]
          simp only [go_sem, seval, rg, a1, a1', a2, a3, c1, not_true_eq_false]
          repeat' (first | with_reducible assumption | with_reducible refine And.intro ?_ ?_ | intro _)
          all_goals first | omega | skip
          exact ⟨i + 1, ⟨by omega, take_at hs (hc ▸ hs') heq⟩, by omega, Le.refl _⟩
        · have c1 : (s = s') = False := by simp [hc]
          simp only [go_sem, seval, rg, a1, a1', a2, a3, c1, not_false_eq_true]
          repeat' (first | with_reducible assumption | with_reducible refine And.intro ?_ ?_ | intro _)
          all_goals first | omega | skip
          rename_i h; exact ne_at hs hs' hc h
      · have a2 : ((i : Int) < (a.length : Int)) = False := by simp; omega
        have hie : i = a.length := by omega
        subst hie
        simp only [go_sem, seval, a2]
        exact take_all hl heq
    · have b1 : ((a.length : Int) = (b.length : Int)) = False := by simp; omega
      simp only [x_eqStringS, rg, go_sem, seval, b1, not_false_eq_true]
      exact fun e => hl (by rw [e])
noncomputable def spEqTS (k:Nat) : Spec := Spec.of (ι := (List T) × (List T)) [false, false] (fun i => [.d (.one (.row 5 (encL i.1))), .d (.one (.row 5 (encL i.2)))]) (fun i => (lenB 1048576 i.1.length ∧ fitL 1048576 i.1 ∧ lenB 1048576 i.2.length ∧ fitL 1048576 i.2) ∧ SizeOf.sizeOf i.1 < k) (fun i => [.d (.one (.bool (decide (i.1 = i.2))))]) (fun _ => [.gone, .gone])
theorem spEqTS_inj : ∀ i j : (List T) × (List T), (fun (i : (List T) × (List T)) => ([.d (.one (.row 5 (encL i.1))), .d (.one (.row 5 (encL i.2)))] : List AV)) i = (fun (i : (List T) × (List T)) => ([.d (.one (.row 5 (encL i.1))), .d (.one (.row 5 (encL i.2)))] : List AV)) j → i = j := by
  rintro ⟨a, b⟩ ⟨a', b'⟩ h
  simp only [Prod.mk.injEq]
  simpa [strs_eq, T.enc_eq, encL_eq, F.enc_eq, encF_eq, Tk.enc_eq, encTk_eq, Gn.enc_eq, ints_eq] using h
theorem spEqTS_md (k:Nat) : (spEqTS k).md = [false, false] := rfl
theorem spEqTS_pre (k:Nat) (a : List T) (b : List T) : (spEqTS k).pre [.d (.one (.row 5 (encL a))), .d (.one (.row 5 (encL b)))] = ((lenB 1048576 a.length ∧ fitL 1048576 a ∧ lenB 1048576 b.length ∧ fitL 1048576 b) ∧ SizeOf.sizeOf a < k) := Spec.of_pre' spEqTS_inj (a, b)
theorem spEqTS_alts (k:Nat) : (spEqTS k).alts = none := rfl
theorem spEqTS_res (k:Nat) (a : List T) (b : List T) : (spEqTS k).res [.d (.one (.row 5 (encL a))), .d (.one (.row 5 (encL b)))] = [.d (.one (.bool (decide (a = b))))] := Spec.of_res spEqTS_inj (a, b)
theorem spEqTS_out (k:Nat) (a : List T) (b : List T) : (spEqTS k).out [.d (.one (.row 5 (encL a))), .d (.one (.row 5 (encL b)))] = [.gone, .gone] := Spec.of_out spEqTS_inj (a, b)
noncomputable def spEqT (k:Nat) : Spec := Spec.of (ι := T × T) [false, false] (fun i => [.d (.agg i.1.enc), .d (.agg i.2.enc)]) (fun i => (i.1.fit 1048576 ∧ i.2.fit 1048576) ∧ SizeOf.sizeOf i.1 < k) (fun i => [.d (.one (.bool (decide (i.1 = i.2))))]) (fun _ => [.gone, .gone])
theorem spEqT_inj : ∀ i j : T × T, (fun (i : T × T) => ([.d (.agg i.1.enc), .d (.agg i.2.enc)] : List AV)) i = (fun (i : T × T) => ([.d (.agg i.1.enc), .d (.agg i.2.enc)] : List AV)) j → i = j := by
  rintro ⟨a, b⟩ ⟨a', b'⟩ h
  simp only [Prod.mk.injEq]
  simpa [strs_eq, T.enc_eq, encL_eq, F.enc_eq, encF_eq, Tk.enc_eq, encTk_eq, Gn.enc_eq, ints_eq] using h
theorem spEqT_md (k:Nat) : (spEqT k).md = [false, false] := rfl
theorem spEqT_pre (k:Nat) (a : T) (b : T) : (spEqT k).pre [.d (.agg a.enc), .d (.agg b.enc)] = ((a.fit 1048576 ∧ b.fit 1048576) ∧ SizeOf.sizeOf a < k) := Spec.of_pre' spEqT_inj (a, b)
theorem spEqT_alts (k:Nat) : (spEqT k).alts = none := rfl
theorem spEqT_res (k:Nat) (a : T) (b : T) : (spEqT k).res [.d (.agg a.enc), .d (.agg b.enc)] = [.d (.one (.bool (decide (a = b))))] := Spec.of_res spEqT_inj (a, b)
theorem spEqT_out (k:Nat) (a : T) (b : T) : (spEqT k).out [.d (.agg a.enc), .d (.agg b.enc)] = [.gone, .gone] := Spec.of_out spEqT_inj (a, b)
theorem eqT_sound (k : Nat) (hS : Sound Go.Proofs.Try.prog 30 (spEqTS k)) : Sound Go.Proofs.Try.prog 10 (spEqT (k + 1)) := by
  refine sound_fam (GOK.cons (l := [(30, spEqTS k)]) call_eqStringS eqStrS_sound (GOK.cons call_eqValS hS GOK.nil)) Go.Proofs.Try.func10 (c := Go.Proofs.Try.f10.body.getD .skip) rfl (n := 32) rfl chk_eqVal rs_eqVal (fun _ => by simp) ?_ ?_
  · exact spEqT_inj
  · rintro ⟨a, b⟩ ⟨⟨h1, h2⟩, h4⟩
    obtain ⟨kk, n, s, ks, l⟩ := a
    obtain ⟨kk', n', s', ks', l'⟩ := b
    simp only [T.fit, strsFit] at h1 h2
    obtain ⟨_, _, f1, ⟨f2, f2'⟩, f3, f4⟩ := h1
    obtain ⟨_, _, g1, ⟨g2, g2'⟩, g3, g4⟩ := h2
    have e3 : SizeOf.sizeOf l < k := by have e : SizeOf.sizeOf (T.mk kk n s ks l) < k + 1 := h4
                                        rw [T.mk.sizeOf_spec] at e; omega
    simp only [x_eqVal, T.enc, go_sem, seval, rg, spEqStrS_md, spEqStrS_pre, spEqStrS_alts, spEqStrS_res, spEqStrS_out, spEqTS_md, spEqTS_pre, spEqTS_alts, spEqTS_res, spEqTS_out, T.mk.injEq]
    repeat' (first | with_reducible assumption | with_reducible refine And.intro ?_ ?_ | intro _)
    all_goals first | omega | (simp_all; done) | skip
theorem eqTS_sound (k : Nat) (hS : Sound Go.Proofs.Try.prog 10 (spEqT k)) : Sound Go.Proofs.Try.prog 30 (spEqTS (k + 1)) := by
  refine sound_fam (GOK.cons call_eqVal hS GOK.nil) Go.Proofs.Try.func30 (c := Go.Proofs.Try.f30.body.getD .skip) rfl (n := 27) rfl chk_eqValS rs_eqValS (fun _ => by simp) ?_ ?_
  · exact spEqTS_inj
  · rintro ⟨a, b⟩ h1
    obtain ⟨h1, h3⟩ := h1
    simp only at h3
    simp only [lenB] at h1
    have fa := fitL_mem h1.2.1
    have fb := fitL_mem h1.2.2.2
    by_cases hl : a.length = b.length
    · have b1 : ((a.length : Int) = (b.length : Int)) = True := by simp [hl]
      simp only [x_eqValS, rg, go_sem, seval, b1, not_true_eq_false]
      refine pw_loop (ι := Nat) (fun i => a.length - i) (fun i => i ≤ a.length ∧ a.take i = b.take i)
        (fun i => ⟨[(0, .q (.c (.row 5 (encL a)))), (1, .q (.c (.row 5 (encL b)))), (5, .q (.c (.int .i64 i)))], [], []⟩) 0 ⟨Nat.zero_le _, rfl⟩ (Le.refl _) ?_
      rintro i ⟨hi, heq⟩
      rcases Nat.lt_or_ge i a.length with hlt | hge
      · obtain ⟨s, hs, _, hmem⟩ := drop_at hlt
        obtain ⟨s', hs', _, hmem'⟩ := drop_at (l := b) (i := i) (by omega)
        have a1 := encL_at hs
        have a1' := encL_at hs'
        have a2 : ((i : Int) < (a.length : Int)) = True := by simp; omega
        have a3 : ((i : Int) < (b.length : Int)) = True := by simp; omega
        have a6 := T.enc_len s
        have a6' := T.enc_len s'
        have a7 := fa s hmem
        have a7' := fb s' hmem'
        have a8 := size_mem hmem
        by_cases hc : s = s'
        · have c1 : (s = s') = True := by simp [hc]
          simp only [go_sem, seval, rg, a1, a1', a2, a3, c1, not_true_eq_false, a6, a6', spEqT_md, spEqT_pre, spEqT_alts, spEqT_res, spEqT_out]
          repeat' (first | with_reducible assumption | with_reducible refine And.intro ?_ ?_ | intro _)
          all_goals first | omega | skip
          exact ⟨i + 1, ⟨by omega, take_at hs (hc ▸ hs') heq⟩, by omega, Le.refl _⟩
        · have c1 : (s = s') = False := by simp [hc]
          simp only [go_sem, seval, rg, a1, a1', a2, a3, c1, not_false_eq_true, a6, a6', spEqT_md, spEqT_pre, spEqT_alts, spEqT_res, spEqT_out]
          repeat' (first | with_reducible assumption | with_reducible refine And.intro ?_ ?_ | intro _)
          all_goals first | omega | skip
          rename_i h; exact ne_at hs hs' hc h
      · have a2 : ((i : Int) < (a.length : Int)) = False := by simp; omega
        have hie : i = a.length := by omega
        subst hie
        simp only [go_sem, seval, a2]
        exact take_all hl heq
    · have b1 : ((a.length : Int) = (b.length : Int)) = False := by simp; omega
      simp only [x_eqValS, rg, go_sem, seval, b1, not_false_eq_true]
      exact fun e => hl (by rw [e])
theorem eqT_all (k : Nat) : Sound Go.Proofs.Try.prog 10 (spEqT k) ∧ Sound Go.Proofs.Try.prog 30 (spEqTS k) := by
  induction k with
  | zero => exact ⟨Sound.none, Sound.none⟩
  | succ k ih => exact ⟨eqT_sound k ih.2, eqTS_sound k ih.1⟩
noncomputable def spEqV  : Spec := Spec.of (ι := T × T) [false, false] (fun i => [.d (.agg i.1.enc), .d (.agg i.2.enc)]) (fun i => i.1.fit 1048576 ∧ i.2.fit 1048576) (fun i => [.d (.one (.bool (decide (i.1 = i.2))))]) (fun _ => [.gone, .gone])
theorem spEqV_inj : ∀ i j : T × T, (fun (i : T × T) => ([.d (.agg i.1.enc), .d (.agg i.2.enc)] : List AV)) i = (fun (i : T × T) => ([.d (.agg i.1.enc), .d (.agg i.2.enc)] : List AV)) j → i = j := by
  rintro ⟨a, b⟩ ⟨a', b'⟩ h
  simp only [Prod.mk.injEq]
  simpa [strs_eq, T.enc_eq, encL_eq, F.enc_eq, encF_eq, Tk.enc_eq, encTk_eq, Gn.enc_eq, ints_eq] using h
theorem spEqV_md  : (spEqV).md = [false, false] := rfl
theorem spEqV_pre  (a : T) (b : T) : (spEqV).pre [.d (.agg a.enc), .d (.agg b.enc)] = (a.fit 1048576 ∧ b.fit 1048576) := Spec.of_pre' spEqV_inj (a, b)
theorem spEqV_alts  : (spEqV).alts = none := rfl
theorem spEqV_res  (a : T) (b : T) : (spEqV).res [.d (.agg a.enc), .d (.agg b.enc)] = [.d (.one (.bool (decide (a = b))))] := Spec.of_res spEqV_inj (a, b)
theorem spEqV_out  (a : T) (b : T) : (spEqV).out [.d (.agg a.enc), .d (.agg b.enc)] = [.gone, .gone] := Spec.of_out spEqV_inj (a, b)
theorem eqV_sound : Sound Go.Proofs.Try.prog 10 spEqV := Sound.all (μ := fun i => SizeOf.sizeOf i.1) (fun k => (eqT_all k).1)
end Go.Proofs.Pw
/- What is marked fits. -/
namespace Go.Proofs.Pw
theorem digF_size : ∀ {f : Nat} {k : Int} {out : ByteArray}, (digF f k out).size ≤ out.size + f := by
  intro f
  induction f with
  | zero => intro k out; exact Nat.le_refl _
  | succ f ih =>
    intro k out
    simp only [digF]
    split
    · have := ih (k := k.tdiv 10) (out := bytesS [48 + k.tmod 10] ++ out)
      rw [ByteArray.size_append, show (bytesS [48 + k.tmod 10]).size = 1 from rfl] at this
      omega
    · omega
theorem mkS_size {k : Int} (h : 0 ≤ k) : ((mkS k).size : Int) ≤ k + 2 := by
  unfold mkS
  split
  · show ((2 : Nat) : Int) ≤ _; omega
  · have := digF_size (f := k.toNat) (k := k) (out := ⟨#[]⟩)
    rw [ByteArray.size_append]
    have e1 : (ByteArray.mk #[109]).size = 1 := rfl
    have e2 : (ByteArray.mk #[]).size = 0 := rfl
    rw [e1]; rw [e2] at this; omega
theorem mkKs_fit {B : Int} : ∀ {ks : List ByteArray} {k : Int}, 0 ≤ k → k + ks.length + 2 ≤ B → ∀ s ∈ mkKs ks k, lenB B s.size
  | [], _, _, _ => by simp [mkKs]
  | _ :: r, k, h, hb => by
    intro s hs
    simp only [List.length_cons] at hb
    simp only [mkKs, List.mem_cons] at hs
    rcases hs with rfl | hs
    · have := mkS_size h; unfold lenB; omega
    · exact mkKs_fit (by omega) (by omega) s hs
mutual
theorem mkT_fit {B : Int} (hB : B ≤ 4611686018427387904) : ∀ {t : T} {k : Int}, t.fit B → 0 ≤ k → k + nmT t + 2 ≤ B → (mkT t k).fit B
  | .mk _ _ _ ks l, k, h, h0, hb => by
    simp only [T.fit] at h
    obtain ⟨_, _, f1, f2, f3, f4⟩ := h
    have c1 := nmL_nn l
    simp only [nmT] at hb
    have := mkS_size (k := k + 2) (by omega)
    refine ⟨by unfold i64; omega, by unfold i64; omega, by unfold lenB; omega, ⟨by rw [mkKs_len]; exact f2.1, mkKs_fit (by omega) (by omega)⟩, by rw [mkL_len]; exact f3, mkL_fit hB f4 (by omega) (by omega)⟩
theorem mkL_fit {B : Int} (hB : B ≤ 4611686018427387904) : ∀ {l : List T} {k : Int}, fitL B l → 0 ≤ k → k + nmL l + 2 ≤ B → fitL B (mkL l k)
  | [], _, _, _, _ => trivial
  | t :: r, k, h, h0, hb => by
    simp only [fitL] at h
    have c1 := nmL_nn r
    have c2 := nmT_nn t
    simp only [nmL] at hb
    exact ⟨mkT_fit hB h.1 h0 (by omega), mkL_fit hB h.2 (by omega) (by omega)⟩
end
theorem mkV_fit {B : Int} (hB : B ≤ 4611686018427387904) {t : T} {k : Int} (h : t.fit B) (h0 : 0 ≤ k) (hb : k + nmV t + 2 ≤ B) : (mkV t k).fit B := by
  obtain ⟨kk, n, s, ks, l⟩ := t
  simp only [T.fit] at h
  obtain ⟨f5, f6, f1, f2, f3, f4⟩ := h
  have c1 := nmL_nn l
  simp only [nmV] at hb
  exact ⟨f5, f6, f1, ⟨by rw [mkKs_len]; exact f2.1, mkKs_fit (by omega) (by omega)⟩, by rw [mkL_len]; exact f3, mkL_fit hB f4 (by omega) (by omega)⟩
mutual
theorem nmT_size : ∀ {t : T}, t.fit 60 → nmT t ≤ 63 * sizeT t
  | .mk _ _ _ ks l, h => by
    simp only [T.fit, strsFit, lenB] at h
    obtain ⟨_, _, _, ⟨f1, _⟩, _, f4⟩ := h
    have := nmL_size f4
    simp only [nmT, sizeT]; omega
theorem nmL_size : ∀ {l : List T}, fitL 60 l → nmL l ≤ 63 * sizeL l
  | [], _ => by simp [nmL, sizeL]
  | t :: r, h => by
    simp only [fitL] at h
    have := nmT_size h.1
    have := nmL_size h.2
    simp only [nmL, sizeL]; omega
end
theorem nmV_nn (t : T) : 0 ≤ nmV t := by cases t with | mk _ _ _ ks l => have := nmL_nn l; simp only [nmV]; omega
theorem nmV_le (t : T) : nmV t ≤ nmT t := by cases t with | mk _ _ _ ks l => simp only [nmV, nmT]; omega
theorem nmV_ok {t : T} (h : okT t) : nmV t ≤ 4000 := by
  have h1 := nmT_size (okT_fit h)
  have h2 := okT_size h
  have h3 := nmV_le t
  omega
/-- A marked answer of either program. -/
theorem mkV_ok {t : T} (h : okT t) : (mkV t 1).fit 140737488355328 :=
  mkV_fit (by omega) (T.fit_mono (by decide) (okT_fit h)) (by omega) (by have := nmV_ok h; omega)
end Go.Proofs.Pw
/- Copies of trees that nobody else holds: the functions of the laws' text. -/
set_option linter.unusedSimpArgs false
set_option maxRecDepth 20000
namespace Go.Proofs.Pw
set_option linter.unusedSectionVars false
variable [Globs]
def x_toStringS : X := (.seq (.reg [⟨some 2, none, .mv (.k (.z 1))⟩] none [0]) (.seq (.reg [⟨some 5, none, .mv (.t 0)⟩, ⟨some 6, none, .len (.t 5) false⟩, ⟨some 7, none, .mk (.t 6) [(.str ⟨#[]⟩)] 16⟩, ⟨some 3, none, .mv (.t 7)⟩] none [0, 3]) (.seq (.seq (.reg [⟨some 4, none, .mv (.k (.c (.int .i64 0)))⟩] none [0, 3, 4]) (.block 0 (.loop (.seq (.seq (.reg [⟨some 8, none, .mv (.t 4)⟩, ⟨some 9, none, .mv (.t 0)⟩, ⟨some 10, none, .len (.t 9) false⟩, ⟨some 11, none, .bin false .lss (.t 8) (.t 10)⟩] none [0, 3, 4, 11]) (.cond (.t 11) .skip (.exit 0))) (.seq (.block 1 (.reg [⟨some 14, none, .mv (.t 3)⟩, ⟨some 15, none, .mv (.t 4)⟩, ⟨some 16, none, .mv (.t 0)⟩, ⟨some 17, none, .mv (.t 4)⟩, ⟨some 18, none, .ia (.t 16) (.t 17) 1⟩, ⟨some 19, none, .load (.t 18) none⟩, ⟨some 20, none, .ia (.t 14) (.t 15) 1⟩, ⟨none, none, .st (.t 20) (.t 19) none⟩] none [0, 3, 4])) (.reg [⟨some 12, none, .mv (.t 4)⟩, ⟨some 13, none, .bin false .add (.t 12) (.k (.c (.int .i64 1)))⟩, ⟨some 4, none, .mv (.t 13)⟩] none [0, 3, 4])))))) (.seq (.reg [⟨some 21, none, .mv (.t 3)⟩, ⟨some 2, none, .mv (.t 21)⟩] none [2]) .ret))))
theorem chk_toStringS : chkX Go.Proofs.Try.prog 22 (Go.Proofs.Try.f22.body.getD .skip) x_toStringS = true := by kernel_rfl
theorem rs_toStringS : okRs Go.Proofs.Try.prog Go.Proofs.Try.f22.results.toList [.tmp 2] = true := by kernel_rfl
theorem call_toStringS : okCallee Go.Proofs.Try.prog 22 = true := by kernel_rfl
def x_toValS : X := (.seq (.reg [⟨some 2, none, .mv (.k (.z 5))⟩] none [0]) (.seq (.reg [⟨some 5, none, .mv (.t 0)⟩, ⟨some 6, none, .len (.t 5) false⟩, ⟨some 7, none, .mk (.t 6) [(.int .i64 0), (.int .i64 0), (.str ⟨#[]⟩), (.row 1 []), (.row 5 [])] 80⟩, ⟨some 3, none, .mv (.t 7)⟩] none [0, 3]) (.seq (.seq (.reg [⟨some 4, none, .mv (.k (.c (.int .i64 0)))⟩] none [0, 3, 4]) (.block 0 (.loop (.seq (.seq (.reg [⟨some 8, none, .mv (.t 4)⟩, ⟨some 9, none, .mv (.t 0)⟩, ⟨some 10, none, .len (.t 9) false⟩, ⟨some 11, none, .bin false .lss (.t 8) (.t 10)⟩] none [0, 3, 4, 11]) (.cond (.t 11) .skip (.exit 0))) (.seq (.block 1 (.reg [⟨some 14, none, .mv (.t 3)⟩, ⟨some 15, none, .mv (.t 4)⟩, ⟨some 16, none, .mv (.t 0)⟩, ⟨some 17, none, .mv (.t 4)⟩, ⟨some 18, none, .ia (.t 16) (.t 17) 5⟩, ⟨some 19, none, .load (.t 18) (some 5)⟩, ⟨some 20, none, .call 7 [(.t 19)]⟩, ⟨some 21, none, .ia (.t 14) (.t 15) 5⟩, ⟨none, none, .stx (.t 21) (.t 20) (some 5)⟩] none [0, 3, 4])) (.reg [⟨some 12, none, .mv (.t 4)⟩, ⟨some 13, none, .bin false .add (.t 12) (.k (.c (.int .i64 1)))⟩, ⟨some 4, none, .mv (.t 13)⟩] none [0, 3, 4])))))) (.seq (.reg [⟨some 22, none, .mv (.t 3)⟩, ⟨some 2, none, .mv (.t 22)⟩] none [2]) .ret))))
theorem chk_toValS : chkX Go.Proofs.Try.prog 23 (Go.Proofs.Try.f23.body.getD .skip) x_toValS = true := by kernel_rfl
theorem rs_toValS : okRs Go.Proofs.Try.prog Go.Proofs.Try.f23.results.toList [.tmp 2] = true := by kernel_rfl
theorem call_toValS : okCallee Go.Proofs.Try.prog 23 = true := by kernel_rfl
def x_toVal : X := (.seq (.reg [⟨some 1, none, .box (.t 0) (some 5)⟩, ⟨some 2, none, .alloc [(.c (.int .i64 0)), (.c (.int .i64 0)), (.c (.str ⟨#[]⟩)), (.z 1), (.z 5)]⟩] none [1, 2]) (.seq (.reg [⟨some 3, none, .alloc [(.c (.int .i64 0)), (.c (.int .i64 0)), (.c (.str ⟨#[]⟩)), (.z 1), (.z 5)]⟩] none [1, 2, 3]) (.seq (.reg [⟨some 4, none, .fa (.t 1) 0⟩, ⟨some 5, none, .load (.t 4) none⟩, ⟨some 6, none, .fa (.t 3) 0⟩, ⟨none, none, .st (.t 6) (.t 5) none⟩] none [1, 2, 3]) (.seq (.reg [⟨some 7, none, .fa (.t 1) 1⟩, ⟨some 8, none, .load (.t 7) none⟩, ⟨some 9, none, .fa (.t 3) 1⟩, ⟨none, none, .st (.t 9) (.t 8) none⟩] none [1, 2, 3]) (.seq (.reg [⟨some 10, none, .fa (.t 1) 2⟩, ⟨some 11, none, .load (.t 10) none⟩, ⟨some 12, none, .fa (.t 3) 2⟩, ⟨none, none, .st (.t 12) (.t 11) none⟩] none [1, 2, 3]) (.seq (.reg [⟨some 13, none, .fa (.t 1) 3⟩, ⟨some 14, none, .load (.t 13) none⟩, ⟨some 15, none, .call 22 [(.t 14)]⟩, ⟨some 16, none, .fa (.t 3) 3⟩, ⟨none, none, .st (.t 16) (.t 15) none⟩] none [1, 2, 3]) (.seq (.reg [⟨some 17, none, .fa (.t 1) 4⟩, ⟨some 18, none, .load (.t 17) none⟩, ⟨some 19, none, .call 23 [(.t 18)]⟩, ⟨some 20, none, .fa (.t 3) 4⟩, ⟨none, none, .st (.t 20) (.t 19) none⟩] none [2, 3]) (.seq (.reg [⟨some 21, none, .load (.t 3) (some 5)⟩, ⟨none, none, .st (.t 2) (.t 21) (some 5)⟩] none [2]) .ret))))))))
theorem chk_toVal : chkX Go.Proofs.Try.prog 22 (Go.Proofs.Try.f7.body.getD .skip) x_toVal = true := by kernel_rfl
theorem rs_toVal : okRs Go.Proofs.Try.prog Go.Proofs.Try.f7.results.toList [.cell 2 (some 5)] = true := by kernel_rfl
theorem call_toVal : okCallee Go.Proofs.Try.prog 7 = true := by kernel_rfl
noncomputable def spToStrO  : Spec := Spec.of (ι := (List ByteArray)) [false] (fun i => [.d (.one (.row 1 (strs i)))]) (fun i => lenB 1048576 i.length) (fun i => [.own 1 (strs i)]) (fun _ => [.gone])
theorem spToStrO_inj : ∀ i j : (List ByteArray), (fun (i : (List ByteArray)) => ([.d (.one (.row 1 (strs i)))] : List AV)) i = (fun (i : (List ByteArray)) => ([.d (.one (.row 1 (strs i)))] : List AV)) j → i = j := by
  intro ks ks' h
  simpa [strs_eq, T.enc_eq, encL_eq, F.enc_eq, encF_eq, Tk.enc_eq, encTk_eq, Gn.enc_eq, ints_eq] using h
theorem spToStrO_md  : (spToStrO).md = [false] := rfl
theorem spToStrO_pre  (ks : List ByteArray) : (spToStrO).pre [.d (.one (.row 1 (strs ks)))] = (lenB 1048576 ks.length) := Spec.of_pre' spToStrO_inj ks
theorem spToStrO_alts  : (spToStrO).alts = none := rfl
theorem spToStrO_res  (ks : List ByteArray) : (spToStrO).res [.d (.one (.row 1 (strs ks)))] = [.own 1 (strs ks)] := Spec.of_res spToStrO_inj ks
theorem spToStrO_out  (ks : List ByteArray) : (spToStrO).out [.d (.one (.row 1 (strs ks)))] = [.gone] := Spec.of_out spToStrO_inj ks
theorem toStrO_sound : Sound Go.Proofs.Try.prog 22 spToStrO := by
  refine sound_fam GOK.nil Go.Proofs.Try.func22 (c := Go.Proofs.Try.f22.body.getD .skip) rfl (n := 22) rfl chk_toStringS rs_toStringS (fun _ => by simp) ?_ ?_
  · exact spToStrO_inj
  · intro ks h1
    simp only [lenB] at h1
    simp only [x_toStringS, rg, go_sem, seval]
    repeat' (first | with_reducible assumption | with_reducible refine And.intro ?_ ?_ | intro _)
    all_goals first | omega | skip
    have hl : (strs ks).length = (List.replicate ks.length [C.str ⟨#[]⟩]).length := by simp [strs_len]
    refine pw_loop (ι := Nat) (fun i => ks.length - i) (fun i => i ≤ ks.length)
      (fun i => ⟨[(0, .q (.c (.row 1 (strs ks)))), (3, .q (.own 7)), (4, .q (.c (.int .i64 i)))], [], [(7, 1, (strs ks).take i ++ (List.replicate ks.length [C.str ⟨#[]⟩]).drop i)]⟩) 0 (Nat.zero_le _) (Le.refl _) ?_
    intro i hi
    rcases Nat.lt_or_ge i ks.length with hlt | hge
    · obtain ⟨s, hs, hdr, hmem⟩ := drop_at hlt
      have a1 := strs_at hs
      have a2 : ((i : Int) < (ks.length : Int)) = True := by simp; omega
      have a3 : ((strs ks).take i ++ (List.replicate ks.length [C.str ⟨#[]⟩]).drop i).length = ks.length := by rw [fill_len hl]; simp
      have a4 : ((strs ks).take i ++ (List.replicate ks.length [C.str ⟨#[]⟩]).drop i).getD i [] = [C.str ⟨#[]⟩] := by rw [fill_get hl (by rw [strs_len]; exact hlt), getD_rep hlt]
      have a5 : ((strs ks).take i ++ (List.replicate ks.length [C.str ⟨#[]⟩]).drop i).set i [C.str s] = (strs ks).take (i + 1) ++ (List.replicate ks.length [C.str ⟨#[]⟩]).drop (i + 1) := fill_set hl (by simp [strs, hs])
      simp only [go_sem, seval, rg, a1, a2, a3, a4, a5]
      repeat' (first | with_reducible assumption | with_reducible refine And.intro ?_ ?_ | intro _)
      all_goals first | omega | skip
      exact ⟨i + 1, by omega, by omega, Le.refl _⟩
    · have a2 : ((i : Int) < (ks.length : Int)) = False := by simp; omega
      have hie : i = (strs ks).length := by rw [strs_len]; omega
      have a3 : (strs ks).take i ++ (List.replicate ks.length [C.str ⟨#[]⟩]).drop i = strs ks := by rw [hie]; exact fill_all hl
      simp only [go_sem, seval, a2, a3]
noncomputable def spToXS (k:Nat) : Spec := Spec.of (ι := (List T)) [false] (fun i => [.d (.one (.row 5 (encL i)))]) (fun i => (lenB 1048576 i.length ∧ fitL 1048576 i) ∧ SizeOf.sizeOf i < k) (fun i => [.own 5 (encLX i)]) (fun _ => [.gone])
theorem spToXS_inj : ∀ i j : (List T), (fun (i : (List T)) => ([.d (.one (.row 5 (encL i)))] : List AV)) i = (fun (i : (List T)) => ([.d (.one (.row 5 (encL i)))] : List AV)) j → i = j := by
  intro ks ks' h
  simpa [strs_eq, T.enc_eq, encL_eq, F.enc_eq, encF_eq, Tk.enc_eq, encTk_eq, Gn.enc_eq, ints_eq] using h
theorem spToXS_md (k:Nat) : (spToXS k).md = [false] := rfl
theorem spToXS_pre (k:Nat) (ks : List T) : (spToXS k).pre [.d (.one (.row 5 (encL ks)))] = ((lenB 1048576 ks.length ∧ fitL 1048576 ks) ∧ SizeOf.sizeOf ks < k) := Spec.of_pre' spToXS_inj ks
theorem spToXS_alts (k:Nat) : (spToXS k).alts = none := rfl
theorem spToXS_res (k:Nat) (ks : List T) : (spToXS k).res [.d (.one (.row 5 (encL ks)))] = [.own 5 (encLX ks)] := Spec.of_res spToXS_inj ks
theorem spToXS_out (k:Nat) (ks : List T) : (spToXS k).out [.d (.one (.row 5 (encL ks)))] = [.gone] := Spec.of_out spToXS_inj ks
noncomputable def spToX (k:Nat) : Spec := Spec.of (ι := T) [false] (fun i => [.d (.agg i.enc)]) (fun i => (i.fit 1048576) ∧ SizeOf.sizeOf i < k) (fun i => [.ag (agX i)]) (fun _ => [.gone])
theorem spToX_inj : ∀ i j : T, (fun (i : T) => ([.d (.agg i.enc)] : List AV)) i = (fun (i : T) => ([.d (.agg i.enc)] : List AV)) j → i = j := by
  intro t t' h
  simpa [strs_eq, T.enc_eq, encL_eq, F.enc_eq, encF_eq, Tk.enc_eq, encTk_eq, Gn.enc_eq, ints_eq] using h
theorem spToX_md (k:Nat) : (spToX k).md = [false] := rfl
theorem spToX_pre (k:Nat) (t : T) : (spToX k).pre [.d (.agg t.enc)] = ((t.fit 1048576) ∧ SizeOf.sizeOf t < k) := Spec.of_pre' spToX_inj t
theorem spToX_alts (k:Nat) : (spToX k).alts = none := rfl
theorem spToX_res (k:Nat) (t : T) : (spToX k).res [.d (.agg t.enc)] = [.ag (agX t)] := Spec.of_res spToX_inj t
theorem spToX_out (k:Nat) (t : T) : (spToX k).out [.d (.agg t.enc)] = [.gone] := Spec.of_out spToX_inj t
theorem toX_sound (k : Nat) (hS : Sound Go.Proofs.Try.prog 23 (spToXS k)) : Sound Go.Proofs.Try.prog 7 (spToX (k + 1)) := by
  refine sound_fam (GOK.cons (l := [(23, spToXS k)]) call_toStringS toStrO_sound (GOK.cons call_toValS hS GOK.nil)) Go.Proofs.Try.func7 (c := Go.Proofs.Try.f7.body.getD .skip) rfl (n := 22) rfl chk_toVal rs_toVal (fun _ => by simp) ?_ ?_
  · exact spToX_inj
  · rintro t ⟨h1, h4⟩
    obtain ⟨kk, n, s, ks, l⟩ := t
    simp only [T.fit, strsFit] at h1
    obtain ⟨_, _, f1, ⟨f2, f2'⟩, f3, f4⟩ := h1
    have e3 : SizeOf.sizeOf l < k := by have e : SizeOf.sizeOf (T.mk kk n s ks l) < k + 1 := h4
                                        rw [T.mk.sizeOf_spec] at e; omega
    simp only [x_toVal, T.enc, agX, go_sem, seval, Prod.fst, rg, spToStrO_md, spToStrO_pre, spToStrO_alts, spToStrO_res, spToStrO_out, spToXS_md, spToXS_pre, spToXS_alts, spToXS_res, spToXS_out, Bool.false_or, Bool.or_true, Bool.not_true, Bool.false_eq_true]
    repeat' (first | with_reducible assumption | with_reducible refine And.intro ?_ ?_ | intro _)
    all_goals first | omega | assumption | skip
theorem toXS_sound (k : Nat) (hS : Sound Go.Proofs.Try.prog 7 (spToX k)) : Sound Go.Proofs.Try.prog 23 (spToXS (k + 1)) := by
  refine sound_fam (GOK.cons call_toVal hS GOK.nil) Go.Proofs.Try.func23 (c := Go.Proofs.Try.f23.body.getD .skip) rfl (n := 23) rfl chk_toValS rs_toValS (fun _ => by simp) ?_ ?_
  · exact spToXS_inj
  · intro ks h1
    obtain ⟨⟨h1, h2⟩, h3⟩ := h1
    simp only [lenB] at h1
    simp only [x_toValS, rg, go_sem, seval]
    repeat' (first | with_reducible assumption | with_reducible refine And.intro ?_ ?_ | intro _)
    all_goals first | omega | skip
    have hl : (encLX ks).length = (List.replicate ks.length [C.int .i64 0, C.int .i64 0, C.str ⟨#[]⟩, C.row 1 [], C.row 5 []]).length := by simp [encLX_len]
    refine pw_loop (ι := Nat) (fun i => ks.length - i) (fun i => i ≤ ks.length)
      (fun i => ⟨[(0, .q (.c (.row 5 (encL ks)))), (3, .q (.own 7)), (4, .q (.c (.int .i64 i)))], [], [(7, 5, (encLX ks).take i ++ (List.replicate ks.length [C.int .i64 0, C.int .i64 0, C.str ⟨#[]⟩, C.row 1 [], C.row 5 []]).drop i)]⟩) 0 (Nat.zero_le _) (Le.refl _) ?_
    intro i hi
    rcases Nat.lt_or_ge i ks.length with hlt | hge
    · obtain ⟨s, hs, hdr, hmem⟩ := drop_at hlt
      have a1 := encL_at hs
      have a2 : ((i : Int) < (ks.length : Int)) = True := by simp; omega
      have a3 : ((encLX ks).take i ++ (List.replicate ks.length [C.int .i64 0, C.int .i64 0, C.str ⟨#[]⟩, C.row 1 [], C.row 5 []]).drop i).length = ks.length := by rw [fill_len hl]; simp
      have a4 : ((encLX ks).take i ++ (List.replicate ks.length [C.int .i64 0, C.int .i64 0, C.str ⟨#[]⟩, C.row 1 [], C.row 5 []]).drop i).getD i [] = [C.int .i64 0, C.int .i64 0, C.str ⟨#[]⟩, C.row 1 [], C.row 5 []] := by rw [fill_get hl (by rw [encLX_len]; exact hlt), getD_rep hlt]
      have a5 : ((encLX ks).take i ++ (List.replicate ks.length [C.int .i64 0, C.int .i64 0, C.str ⟨#[]⟩, C.row 1 [], C.row 5 []]).drop i).set i s.encX = (encLX ks).take (i + 1) ++ (List.replicate ks.length [C.int .i64 0, C.int .i64 0, C.str ⟨#[]⟩, C.row 1 [], C.row 5 []]).drop (i + 1) := fill_set hl (by rw [encLX_map]; simp [hs])
      have a6 := T.enc_len s
      have a7 := fitL_mem h2 s hmem
      have a8 := size_mem hmem
      have a9 : placeC [C.int .i64 0, C.int .i64 0, C.str ⟨#[]⟩, C.row 1 [], C.row 5 []] 0 s.encX = s.encX := placeC_whole (by rw [T.encX_len]; rfl)
      obtain ⟨kk, n, s, ks', l⟩ := s
      have p1 := spToX_pre k (T.mk kk n s ks' l)
      have p2 := spToX_res k (T.mk kk n s ks' l)
      have p3 := spToX_out k (T.mk kk n s ks' l)
      simp only [T.encX, T.enc, agX] at a1 a5 a6 a9 p1 p2 p3
      simp only [rg, a9, go_sem, seval, Prod.fst, a1, a2, a3, a4, a5, a6, p1, p2, p3, spToX_md, spToX_alts]
      repeat' (first | with_reducible assumption | with_reducible refine And.intro ?_ ?_ | intro _)
      all_goals first | omega | assumption | skip
      exact ⟨i + 1, by omega, by omega, Le.refl _⟩
    · have a2 : ((i : Int) < (ks.length : Int)) = False := by simp; omega
      have hie : i = (encLX ks).length := by rw [encLX_len]; omega
      have a3 : (encLX ks).take i ++ (List.replicate ks.length [C.int .i64 0, C.int .i64 0, C.str ⟨#[]⟩, C.row 1 [], C.row 5 []]).drop i = encLX ks := by rw [hie]; exact fill_all hl
      simp only [go_sem, seval, a2, a3]
theorem toX_all (k : Nat) : Sound Go.Proofs.Try.prog 7 (spToX k) ∧ Sound Go.Proofs.Try.prog 23 (spToXS k) := by
  induction k with
  | zero => exact ⟨Sound.none, Sound.none⟩
  | succ k ih => exact ⟨toX_sound k ih.2, toXS_sound k ih.1⟩
noncomputable def spToXV  : Spec := Spec.of (ι := T) [false] (fun i => [.d (.agg i.enc)]) (fun i => i.fit 1048576) (fun i => [.ag (agX i)]) (fun _ => [.gone])
theorem spToXV_inj : ∀ i j : T, (fun (i : T) => ([.d (.agg i.enc)] : List AV)) i = (fun (i : T) => ([.d (.agg i.enc)] : List AV)) j → i = j := by
  intro t t' h
  simpa [strs_eq, T.enc_eq, encL_eq, F.enc_eq, encF_eq, Tk.enc_eq, encTk_eq, Gn.enc_eq, ints_eq] using h
theorem spToXV_md  : (spToXV).md = [false] := rfl
theorem spToXV_pre  (t : T) : (spToXV).pre [.d (.agg t.enc)] = (t.fit 1048576) := Spec.of_pre' spToXV_inj t
theorem spToXV_alts  : (spToXV).alts = none := rfl
theorem spToXV_res  (t : T) : (spToXV).res [.d (.agg t.enc)] = [.ag (agX t)] := Spec.of_res spToXV_inj t
theorem spToXV_out  (t : T) : (spToXV).out [.d (.agg t.enc)] = [.gone] := Spec.of_out spToXV_inj t
theorem toXV_sound : Sound Go.Proofs.Try.prog 7 spToXV := Sound.all (μ := fun i => SizeOf.sizeOf i) (fun k => (toX_all k).1)
end Go.Proofs.Pw
/- Whether two trees are the same: the specification's function and the program's. -/
set_option linter.unusedSimpArgs false
set_option maxRecDepth 20000
namespace Go.Proofs.Pw
set_option linter.unusedSectionVars false
variable [Globs]
end Go.Proofs.Pw
