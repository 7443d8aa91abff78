/- Counting down the size of a tree: the functions of the laws' text. -/
import Derived.Test.YtalbhhciphpbeaaPwD
import Derived.Test.YtalbhhciphpbeaaProg
import Derived.KernelRfl
set_option linter.unusedSimpArgs false
set_option linter.unusedVariables false
set_option linter.unusedSimpArgs false
set_option maxRecDepth 20000
namespace Go.Proofs.Pw
set_option linter.unusedSectionVars false
variable [Globs]
def x_szStringS : X := (.seq (.reg [⟨some 4, none, .mv (.k (.c (.int .i64 0)))⟩] none [0, 1]) (.seq (.reg [⟨some 6, none, .mv (.t 1)⟩, ⟨some 7, none, .mv (.t 0)⟩, ⟨some 8, none, .len (.t 7) false⟩, ⟨some 9, none, .bin false .sub (.t 6) (.t 8)⟩, ⟨some 1, none, .mv (.t 9)⟩] none [0, 1]) (.seq (.seq (.reg [⟨some 10, none, .mv (.t 1)⟩, ⟨some 11, none, .bin false .lss (.t 10) (.k (.c (.int .i64 0)))⟩] none [0, 1, 11]) (.cond (.t 11) (.seq (.reg [⟨some 4, none, .mv (.k (.c (.int .i64 (-1))))⟩] none [4]) .ret) .skip)) (.seq (.seq (.reg [⟨some 5, none, .mv (.k (.c (.int .i64 0)))⟩] none [0, 1, 5]) (.block 0 (.loop (.seq (.seq (.reg [⟨some 12, none, .mv (.t 5)⟩, ⟨some 13, none, .mv (.t 0)⟩, ⟨some 14, none, .len (.t 13) false⟩, ⟨some 15, none, .bin false .lss (.t 12) (.t 14)⟩] none [0, 1, 5, 15]) (.cond (.t 15) .skip (.exit 0))) (.seq (.block 1 (.seq (.reg [⟨some 18, none, .mv (.t 1)⟩, ⟨some 19, none, .mv (.t 0)⟩, ⟨some 20, none, .mv (.t 5)⟩, ⟨some 21, none, .ia (.t 19) (.t 20) 1⟩, ⟨some 22, none, .load (.t 21) none⟩, ⟨some 23, none, .len (.t 22) true⟩, ⟨some 24, none, .bin false .sub (.t 18) (.t 23)⟩, ⟨some 1, none, .mv (.t 24)⟩] none [0, 1, 5]) (.seq (.reg [⟨some 25, none, .mv (.t 1)⟩, ⟨some 26, none, .bin false .lss (.t 25) (.k (.c (.int .i64 0)))⟩] none [0, 1, 5, 26]) (.cond (.t 26) (.seq (.reg [⟨some 4, none, .mv (.k (.c (.int .i64 (-1))))⟩] none [4]) .ret) .skip)))) (.reg [⟨some 16, none, .mv (.t 5)⟩, ⟨some 17, none, .bin false .add (.t 16) (.k (.c (.int .i64 1)))⟩, ⟨some 5, none, .mv (.t 17)⟩] none [0, 1, 5])))))) (.seq (.reg [⟨some 27, none, .mv (.t 1)⟩, ⟨some 4, none, .mv (.t 27)⟩] none [4]) .ret)))))
theorem chk_szStringS : chkX Go.Proofs.Try.prog 28 (Go.Proofs.Try.f20.body.getD .skip) x_szStringS = true := by kernel_rfl
theorem rs_szStringS : okRs Go.Proofs.Try.prog Go.Proofs.Try.f20.results.toList [.tmp 4] = true := by kernel_rfl
theorem call_szStringS : okCallee Go.Proofs.Try.prog 20 = true := by kernel_rfl
def x_szValS : X := (.seq (.reg [⟨some 4, none, .mv (.k (.c (.int .i64 0)))⟩] none [0, 1]) (.seq (.reg [⟨some 6, none, .mv (.t 1)⟩, ⟨some 7, none, .mv (.t 0)⟩, ⟨some 8, none, .len (.t 7) false⟩, ⟨some 9, none, .bin false .sub (.t 6) (.t 8)⟩, ⟨some 1, none, .mv (.t 9)⟩] none [0, 1]) (.seq (.seq (.reg [⟨some 10, none, .mv (.t 1)⟩, ⟨some 11, none, .bin false .lss (.t 10) (.k (.c (.int .i64 0)))⟩] none [0, 1, 11]) (.cond (.t 11) (.seq (.reg [⟨some 4, none, .mv (.k (.c (.int .i64 (-1))))⟩] none [4]) .ret) .skip)) (.seq (.seq (.reg [⟨some 5, none, .mv (.k (.c (.int .i64 0)))⟩] none [0, 1, 5]) (.block 0 (.loop (.seq (.seq (.reg [⟨some 12, none, .mv (.t 5)⟩, ⟨some 13, none, .mv (.t 0)⟩, ⟨some 14, none, .len (.t 13) false⟩, ⟨some 15, none, .bin false .lss (.t 12) (.t 14)⟩] none [0, 1, 5, 15]) (.cond (.t 15) .skip (.exit 0))) (.seq (.block 1 (.seq (.reg [⟨some 18, none, .mv (.t 0)⟩, ⟨some 19, none, .mv (.t 5)⟩, ⟨some 20, none, .ia (.t 18) (.t 19) 5⟩, ⟨some 21, none, .load (.t 20) (some 5)⟩, ⟨some 22, none, .mv (.t 1)⟩, ⟨some 23, none, .call 7 [(.t 21), (.t 22)]⟩, ⟨some 1, none, .mv (.t 23)⟩] none [0, 1, 5]) (.seq (.reg [⟨some 24, none, .mv (.t 1)⟩, ⟨some 25, none, .bin false .lss (.t 24) (.k (.c (.int .i64 0)))⟩] none [0, 1, 5, 25]) (.cond (.t 25) (.seq (.reg [⟨some 4, none, .mv (.k (.c (.int .i64 (-1))))⟩] none [4]) .ret) .skip)))) (.reg [⟨some 16, none, .mv (.t 5)⟩, ⟨some 17, none, .bin false .add (.t 16) (.k (.c (.int .i64 1)))⟩, ⟨some 5, none, .mv (.t 17)⟩] none [0, 1, 5])))))) (.seq (.reg [⟨some 26, none, .mv (.t 1)⟩, ⟨some 4, none, .mv (.t 26)⟩] none [4]) .ret)))))
theorem chk_szValS : chkX Go.Proofs.Try.prog 27 (Go.Proofs.Try.f21.body.getD .skip) x_szValS = true := by kernel_rfl
theorem rs_szValS : okRs Go.Proofs.Try.prog Go.Proofs.Try.f21.results.toList [.tmp 4] = true := by kernel_rfl
theorem call_szValS : okCallee Go.Proofs.Try.prog 21 = true := by kernel_rfl
def x_szVal : X := (.seq (.reg [⟨some 2, none, .box (.t 0) (some 5)⟩, ⟨some 4, none, .mv (.k (.c (.int .i64 0)))⟩] none [1, 2]) (.seq (.reg [⟨some 5, none, .mv (.t 1)⟩, ⟨some 6, none, .fa (.t 2) 2⟩, ⟨some 7, none, .load (.t 6) none⟩, ⟨some 8, none, .len (.t 7) true⟩, ⟨some 9, none, .bin false .sub (.t 5) (.t 8)⟩, ⟨some 1, none, .mv (.t 9)⟩] none [1, 2]) (.seq (.seq (.reg [⟨some 10, none, .mv (.t 1)⟩, ⟨some 11, none, .bin false .lss (.t 10) (.k (.c (.int .i64 0)))⟩] none [1, 2, 11]) (.cond (.t 11) (.seq (.reg [⟨some 4, none, .mv (.k (.c (.int .i64 (-1))))⟩] none [4]) .ret) .skip)) (.seq (.reg [⟨some 12, none, .fa (.t 2) 3⟩, ⟨some 13, none, .load (.t 12) none⟩, ⟨some 14, none, .mv (.t 1)⟩, ⟨some 15, none, .call 20 [(.t 13), (.t 14)]⟩, ⟨some 1, none, .mv (.t 15)⟩] none [1, 2]) (.seq (.seq (.reg [⟨some 16, none, .mv (.t 1)⟩, ⟨some 17, none, .bin false .lss (.t 16) (.k (.c (.int .i64 0)))⟩] none [1, 2, 17]) (.cond (.t 17) (.seq (.reg [⟨some 4, none, .mv (.k (.c (.int .i64 (-1))))⟩] none [4]) .ret) .skip)) (.seq (.reg [⟨some 18, none, .fa (.t 2) 4⟩, ⟨some 19, none, .load (.t 18) none⟩, ⟨some 20, none, .mv (.t 1)⟩, ⟨some 21, none, .call 21 [(.t 19), (.t 20)]⟩, ⟨some 1, none, .mv (.t 21)⟩] none [1]) (.seq (.seq (.reg [⟨some 22, none, .mv (.t 1)⟩, ⟨some 23, none, .bin false .lss (.t 22) (.k (.c (.int .i64 0)))⟩] none [1, 23]) (.cond (.t 23) (.seq (.reg [⟨some 4, none, .mv (.k (.c (.int .i64 (-1))))⟩] none [4]) .ret) .skip)) (.seq (.reg [⟨some 24, none, .mv (.t 1)⟩, ⟨some 4, none, .mv (.t 24)⟩] none [4]) .ret))))))))
theorem chk_szVal : chkX Go.Proofs.Try.prog 25 (Go.Proofs.Try.f7.body.getD .skip) x_szVal = true := by kernel_rfl
theorem rs_szVal : okRs Go.Proofs.Try.prog Go.Proofs.Try.f7.results.toList [.tmp 4] = true := by kernel_rfl
theorem call_szVal : okCallee Go.Proofs.Try.prog 7 = true := by kernel_rfl
noncomputable def spSzStrS  : Spec := Spec.of (ι := (List ByteArray) × Int) [false, false] (fun i => [.d (.one (.row 1 (strs i.1))), .d (.one (.int .i64 i.2))]) (fun i => strsFit 140737488355328 i.1 ∧ 0 ≤ i.2 ∧ i.2 ≤ 1048576) (fun i => [.d (.one (.int .i64 (szStrS i.1 i.2)))]) (fun _ => [.gone, .gone])
theorem spSzStrS_inj : ∀ i j : (List ByteArray) × Int, (fun (i : (List ByteArray) × Int) => ([.d (.one (.row 1 (strs i.1))), .d (.one (.int .i64 i.2))] : List AV)) i = (fun (i : (List ByteArray) × Int) => ([.d (.one (.row 1 (strs i.1))), .d (.one (.int .i64 i.2))] : List AV)) j → i = j := by
  rintro ⟨ks, l⟩ ⟨ks', l'⟩ h
  simp only [Prod.mk.injEq]
  simpa [strs_eq, T.enc_eq, encL_eq, F.enc_eq, encF_eq, Tk.enc_eq, encTk_eq, Gn.enc_eq, ints_eq] using h
theorem spSzStrS_md  : (spSzStrS).md = [false, false] := rfl
theorem spSzStrS_pre  (ks : List ByteArray) (l : Int) : (spSzStrS).pre [.d (.one (.row 1 (strs ks))), .d (.one (.int .i64 l))] = (strsFit 140737488355328 ks ∧ 0 ≤ l ∧ l ≤ 1048576) := Spec.of_pre' spSzStrS_inj (ks, l)
theorem spSzStrS_alts  : (spSzStrS).alts = none := rfl
theorem spSzStrS_res  (ks : List ByteArray) (l : Int) : (spSzStrS).res [.d (.one (.row 1 (strs ks))), .d (.one (.int .i64 l))] = [.d (.one (.int .i64 (szStrS ks l)))] := Spec.of_res spSzStrS_inj (ks, l)
theorem spSzStrS_out  (ks : List ByteArray) (l : Int) : (spSzStrS).out [.d (.one (.row 1 (strs ks))), .d (.one (.int .i64 l))] = [.gone, .gone] := Spec.of_out spSzStrS_inj (ks, l)
noncomputable def spSzTS (k:Nat) : Spec := Spec.of (ι := (List T) × Int) [false, false] (fun i => [.d (.one (.row 5 (encL i.1))), .d (.one (.int .i64 i.2))]) (fun i => (lenB 140737488355328 i.1.length ∧ fitL 140737488355328 i.1 ∧ 0 ≤ i.2 ∧ i.2 ≤ 1048576) ∧ SizeOf.sizeOf i.1 < k) (fun i => [.d (.one (.int .i64 (szTS i.1 i.2)))]) (fun _ => [.gone, .gone])
theorem spSzTS_inj : ∀ i j : (List T) × Int, (fun (i : (List T) × Int) => ([.d (.one (.row 5 (encL i.1))), .d (.one (.int .i64 i.2))] : List AV)) i = (fun (i : (List T) × Int) => ([.d (.one (.row 5 (encL i.1))), .d (.one (.int .i64 i.2))] : List AV)) j → i = j := by
  rintro ⟨ks, l⟩ ⟨ks', l'⟩ h
  simp only [Prod.mk.injEq]
  simpa [strs_eq, T.enc_eq, encL_eq, F.enc_eq, encF_eq, Tk.enc_eq, encTk_eq, Gn.enc_eq, ints_eq] using h
theorem spSzTS_md (k:Nat) : (spSzTS k).md = [false, false] := rfl
theorem spSzTS_pre (k:Nat) (ks : List T) (l : Int) : (spSzTS k).pre [.d (.one (.row 5 (encL ks))), .d (.one (.int .i64 l))] = ((lenB 140737488355328 ks.length ∧ fitL 140737488355328 ks ∧ 0 ≤ l ∧ l ≤ 1048576) ∧ SizeOf.sizeOf ks < k) := Spec.of_pre' spSzTS_inj (ks, l)
theorem spSzTS_alts (k:Nat) : (spSzTS k).alts = none := rfl
theorem spSzTS_res (k:Nat) (ks : List T) (l : Int) : (spSzTS k).res [.d (.one (.row 5 (encL ks))), .d (.one (.int .i64 l))] = [.d (.one (.int .i64 (szTS ks l)))] := Spec.of_res spSzTS_inj (ks, l)
theorem spSzTS_out (k:Nat) (ks : List T) (l : Int) : (spSzTS k).out [.d (.one (.row 5 (encL ks))), .d (.one (.int .i64 l))] = [.gone, .gone] := Spec.of_out spSzTS_inj (ks, l)
noncomputable def spSzT (k:Nat) : Spec := Spec.of (ι := T × Int) [false, false] (fun i => [.d (.agg i.1.enc), .d (.one (.int .i64 i.2))]) (fun i => (i.1.fit 140737488355328 ∧ 0 ≤ i.2 ∧ i.2 ≤ 1048576) ∧ SizeOf.sizeOf i.1 < k) (fun i => [.d (.one (.int .i64 (szT i.1 i.2)))]) (fun _ => [.gone, .gone])
theorem spSzT_inj : ∀ i j : T × Int, (fun (i : T × Int) => ([.d (.agg i.1.enc), .d (.one (.int .i64 i.2))] : List AV)) i = (fun (i : T × Int) => ([.d (.agg i.1.enc), .d (.one (.int .i64 i.2))] : List AV)) j → i = j := by
  rintro ⟨t, l⟩ ⟨t', l'⟩ h
  simp only [Prod.mk.injEq]
  simpa [strs_eq, T.enc_eq, encL_eq, F.enc_eq, encF_eq, Tk.enc_eq, encTk_eq, Gn.enc_eq, ints_eq] using h
theorem spSzT_md (k:Nat) : (spSzT k).md = [false, false] := rfl
theorem spSzT_pre (k:Nat) (t : T) (l : Int) : (spSzT k).pre [.d (.agg t.enc), .d (.one (.int .i64 l))] = ((t.fit 140737488355328 ∧ 0 ≤ l ∧ l ≤ 1048576) ∧ SizeOf.sizeOf t < k) := Spec.of_pre' spSzT_inj (t, l)
theorem spSzT_alts (k:Nat) : (spSzT k).alts = none := rfl
theorem spSzT_res (k:Nat) (t : T) (l : Int) : (spSzT k).res [.d (.agg t.enc), .d (.one (.int .i64 l))] = [.d (.one (.int .i64 (szT t l)))] := Spec.of_res spSzT_inj (t, l)
theorem spSzT_out (k:Nat) (t : T) (l : Int) : (spSzT k).out [.d (.agg t.enc), .d (.one (.int .i64 l))] = [.gone, .gone] := Spec.of_out spSzT_inj (t, l)
theorem szStrS_sound : Sound Go.Proofs.Try.prog 20 spSzStrS := by
  refine sound_fam GOK.nil Go.Proofs.Try.func20 (c := Go.Proofs.Try.f20.body.getD .skip) rfl (n := 28) rfl chk_szStringS rs_szStringS (fun _ => by simp) ?_ ?_
  · exact spSzStrS_inj
  · rintro ⟨ks, left⟩ ⟨⟨h1, h2⟩, h3, h4⟩
    simp only [lenB] at *
    simp only [x_szStringS, rg, go_sem, seval]
    refine ⟨by omega, fun _ => ⟨fun h => by simp only [szStrS]; rw [if_pos h], fun h => ?_⟩⟩
    refine pw_loop (ι := Nat × Int) (fun i => ks.length - i.1) (fun i => i.1 ≤ ks.length ∧ 0 ≤ i.2 ∧ i.2 ≤ left ∧ szStr (ks.drop i.1) i.2 = szStrS ks left)
      (fun i => ⟨[(0, .q (.c (.row 1 (strs ks)))), (1, .q (.c (.int .i64 i.2))), (5, .q (.c (.int .i64 i.1)))], [], []⟩) (0, left - ks.length) ⟨by omega, by omega, by omega, by simp only [szStrS, List.drop_zero]; rw [if_neg h]⟩ (Le.refl _) ?_
    rintro ⟨i, l⟩ ⟨hi, hl0, hl, heq⟩
    simp only at hi hl0 hl heq
    rcases Nat.lt_or_ge i ks.length with hlt | hge
    · obtain ⟨s, hs, hdr, hmem⟩ := drop_at hlt
      have h5 := strs_at hs
      have h6 := h2 s hmem
      have h7 : ((i : Int) < (ks.length : Int)) = True := by simp; omega
      rw [hdr] at heq
      simp only [szStr] at heq
      simp only [go_sem, seval, h5, h7]
      repeat' (first | with_reducible assumption | with_reducible refine And.intro ?_ ?_ | intro _)
      all_goals first | omega | skip
      · rw [if_neg (by omega)] at heq
        exact ⟨(i + 1, l - s.size), ⟨by simp only; omega, by simp only; omega, by simp only; omega, heq⟩, by simp only; omega, Le.refl _⟩
    · have h7 : ((i : Int) < (ks.length : Int)) = False := by simp; omega
      rw [List.drop_eq_nil_of_le hge] at heq
      simp only [szStr] at heq
      simp only [go_sem, seval, h7]
      exact heq.symm
theorem szT_sound (k : Nat) (hS : Sound Go.Proofs.Try.prog 21 (spSzTS k)) : Sound Go.Proofs.Try.prog 7 (spSzT (k + 1)) := by
  refine sound_fam (GOK.cons (l := [(21, spSzTS k)]) call_szStringS szStrS_sound (GOK.cons call_szValS hS GOK.nil)) Go.Proofs.Try.func7 (c := Go.Proofs.Try.f7.body.getD .skip) rfl (n := 25) rfl chk_szVal rs_szVal (fun _ => by simp) ?_ ?_
  · exact spSzT_inj
  · rintro ⟨t, left⟩ ⟨⟨h1, h2, h3⟩, h4⟩
    obtain ⟨kk, n, s, ks, l⟩ := t
    simp only [T.fit, lenB] at h1
    obtain ⟨_, _, f1, f2, f3, f4⟩ := h1
    have e1 := szStrS_le (ks := ks) (left := left - s.size)
    have e2 := szTS_le (l := l) (left := szStrS ks (left - s.size))
    have e3 : SizeOf.sizeOf l < k := by have e : SizeOf.sizeOf (T.mk kk n s ks l) < k + 1 := h4
                                        rw [T.mk.sizeOf_spec] at e; omega
    have e4 : szT (T.mk kk n s ks l) left = if left - s.size < 0 then -1 else if szStrS ks (left - s.size) < 0 then -1 else if szTS l (szStrS ks (left - s.size)) < 0 then -1 else szTS l (szStrS ks (left - s.size)) := by
      have e5 := szTL_le (l := l) (left := szStrS ks (left - s.size) - l.length)
      simp only [szT, szTS]
      repeat' split
      all_goals first | rfl | omega
    simp only [x_szVal, T.enc, go_sem, seval, rg, spSzStrS_md, spSzStrS_pre, spSzStrS_alts, spSzStrS_res, spSzStrS_out, spSzTS_md, spSzTS_pre, spSzTS_alts, spSzTS_res, spSzTS_out]
    rw [e4]
    repeat' (first | with_reducible assumption | with_reducible refine And.intro ?_ ?_ | intro _)
    all_goals first | omega | assumption | skip
theorem szTS_sound (k : Nat) (hS : Sound Go.Proofs.Try.prog 7 (spSzT k)) : Sound Go.Proofs.Try.prog 21 (spSzTS (k + 1)) := by
  refine sound_fam (GOK.cons call_szVal hS GOK.nil) Go.Proofs.Try.func21 (c := Go.Proofs.Try.f21.body.getD .skip) rfl (n := 27) rfl chk_szValS rs_szValS (fun _ => by simp) ?_ ?_
  · exact spSzTS_inj
  · rintro ⟨ks, left⟩ ⟨⟨h1, h2, h3, h4⟩, h5⟩
    simp only at h1 h2 h3 h4 h5
    simp only [lenB] at h1
    simp only [x_szValS, rg, go_sem, seval]
    refine ⟨by omega, fun _ => ⟨fun h => by simp only [szTS]; rw [if_pos h], fun h => ?_⟩⟩
    refine pw_loop (ι := Nat × Int) (fun i => ks.length - i.1) (fun i => i.1 ≤ ks.length ∧ 0 ≤ i.2 ∧ i.2 ≤ left ∧ szTL (ks.drop i.1) i.2 = szTS ks left)
      (fun i => ⟨[(0, .q (.c (.row 5 (encL ks)))), (1, .q (.c (.int .i64 i.2))), (5, .q (.c (.int .i64 i.1)))], [], []⟩) (0, left - ks.length) ⟨by omega, by omega, by omega, by simp only [szTS, List.drop_zero]; rw [if_neg h]⟩ (Le.refl _) ?_
    rintro ⟨i, l⟩ ⟨hi, hl0, hl, heq⟩
    simp only at hi hl0 hl heq
    rcases Nat.lt_or_ge i ks.length with hlt | hge
    · obtain ⟨t, hs, hdr, hmem⟩ := drop_at hlt
      have a1 := encL_at hs
      have a2 := fitL_mem h2 t hmem
      have a3 := size_mem hmem
      have a4 : ((i : Int) < (ks.length : Int)) = True := by simp; omega
      have a5 := szT_le (t := t) hl0
      have a6 := T.enc_len t
      have a7 : (szT t l < 0 → szTS ks left = -1) ∧ (¬ szT t l < 0 → szTL (ks.drop (i + 1)) (szT t l) = szTS ks left) := by
        rw [hdr] at heq
        simp only [szTL] at heq
        refine ⟨fun h => ?_, fun h => ?_⟩
        · rw [if_pos h] at heq; exact heq.symm
        · rw [if_neg h] at heq; exact heq
      simp only [go_sem, seval, rg, a1, a4, a6, toD_map, spSzT_md, spSzT_pre, spSzT_alts, spSzT_res, spSzT_out]
      repeat' (first | with_reducible assumption | with_reducible refine And.intro ?_ ?_ | intro _)
      all_goals first | omega | (exact a7.1 (by assumption)) | skip
      exact ⟨(i + 1, szT t l), ⟨by simp only; omega, by simp only; omega, by simp only; omega, a7.2 (by omega)⟩, by simp only; omega, Le.refl _⟩
    · have h7 : ((i : Int) < (ks.length : Int)) = False := by simp; omega
      rw [List.drop_eq_nil_of_le hge] at heq
      simp only [szTL] at heq
      simp only [go_sem, seval, h7]
      exact heq.symm
theorem sz_all (k : Nat) : Sound Go.Proofs.Try.prog 7 (spSzT k) ∧ Sound Go.Proofs.Try.prog 21 (spSzTS k) := by
  induction k with
  | zero => exact ⟨Sound.none, Sound.none⟩
  | succ k ih => exact ⟨szT_sound k ih.2, szTS_sound k ih.1⟩
noncomputable def spSzV  : Spec := Spec.of (ι := T × Int) [false, false] (fun i => [.d (.agg i.1.enc), .d (.one (.int .i64 i.2))]) (fun i => i.1.fit 140737488355328 ∧ 0 ≤ i.2 ∧ i.2 ≤ 1048576) (fun i => [.d (.one (.int .i64 (szT i.1 i.2)))]) (fun _ => [.gone, .gone])
theorem spSzV_inj : ∀ i j : T × Int, (fun (i : T × Int) => ([.d (.agg i.1.enc), .d (.one (.int .i64 i.2))] : List AV)) i = (fun (i : T × Int) => ([.d (.agg i.1.enc), .d (.one (.int .i64 i.2))] : List AV)) j → i = j := by
  rintro ⟨t, l⟩ ⟨t', l'⟩ h
  simp only [Prod.mk.injEq]
  simpa [strs_eq, T.enc_eq, encL_eq, F.enc_eq, encF_eq, Tk.enc_eq, encTk_eq, Gn.enc_eq, ints_eq] using h
theorem spSzV_md  : (spSzV).md = [false, false] := rfl
theorem spSzV_pre  (t : T) (l : Int) : (spSzV).pre [.d (.agg t.enc), .d (.one (.int .i64 l))] = (t.fit 140737488355328 ∧ 0 ≤ l ∧ l ≤ 1048576) := Spec.of_pre' spSzV_inj (t, l)
theorem spSzV_alts  : (spSzV).alts = none := rfl
theorem spSzV_res  (t : T) (l : Int) : (spSzV).res [.d (.agg t.enc), .d (.one (.int .i64 l))] = [.d (.one (.int .i64 (szT t l)))] := Spec.of_res spSzV_inj (t, l)
theorem spSzV_out  (t : T) (l : Int) : (spSzV).out [.d (.agg t.enc), .d (.one (.int .i64 l))] = [.gone, .gone] := Spec.of_out spSzV_inj (t, l)
theorem szV_sound : Sound Go.Proofs.Try.prog 7 spSzV := Sound.all (μ := fun i => SizeOf.sizeOf i.1) (fun k => (sz_all k).1)
end Go.Proofs.Pw
