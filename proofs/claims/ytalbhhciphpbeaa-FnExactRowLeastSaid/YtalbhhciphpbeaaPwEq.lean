/- Comparing trees: the functions of the laws' text. -/
import Derived.Test.YtalbhhciphpbeaaPwD
import Derived.Test.YtalbhhciphpbeaaProg
import Derived.KernelRfl
set_option linter.unusedSimpArgs false
set_option linter.unusedVariables false
set_option linter.unusedSimpArgs false
set_option maxRecDepth 20000
namespace Go.Proofs.Pw
set_option linter.unusedSectionVars false
variable [Globs]
def x_eqStringS : X := (.seq (.reg [⟨some 4, none, .mv (.k (.c (.bool false)))⟩] none [0, 1]) (.seq (.seq (.reg [⟨some 6, none, .mv (.t 0)⟩, ⟨some 7, none, .len (.t 6) false⟩, ⟨some 8, none, .mv (.t 1)⟩, ⟨some 9, none, .len (.t 8) false⟩, ⟨some 10, none, .bin false .neq (.t 7) (.t 9)⟩] none [0, 1, 10]) (.cond (.t 10) (.seq (.reg [⟨some 4, none, .mv (.k (.c (.bool false)))⟩] none [4]) .ret) .skip)) (.seq (.seq (.reg [⟨some 5, none, .mv (.k (.c (.int .i64 0)))⟩] none [0, 1, 5]) (.block 0 (.loop (.seq (.seq (.reg [⟨some 11, none, .mv (.t 5)⟩, ⟨some 12, none, .mv (.t 0)⟩, ⟨some 13, none, .len (.t 12) false⟩, ⟨some 14, none, .bin false .lss (.t 11) (.t 13)⟩] none [0, 1, 5, 14]) (.cond (.t 14) .skip (.exit 0))) (.seq (.block 1 (.seq (.reg [⟨some 17, none, .mv (.t 0)⟩, ⟨some 18, none, .mv (.t 5)⟩, ⟨some 19, none, .ia (.t 17) (.t 18) 1⟩, ⟨some 20, none, .load (.t 19) none⟩, ⟨some 21, none, .mv (.t 1)⟩, ⟨some 22, none, .mv (.t 5)⟩, ⟨some 23, none, .ia (.t 21) (.t 22) 1⟩, ⟨some 24, none, .load (.t 23) none⟩, ⟨some 25, none, .bin false .neq (.t 20) (.t 24)⟩] (some 8) [0, 1, 5, 25]) (.cond (.t 25) (.seq (.reg [⟨some 4, none, .mv (.k (.c (.bool false)))⟩] none [4]) .ret) .skip))) (.reg [⟨some 15, none, .mv (.t 5)⟩, ⟨some 16, none, .bin false .add (.t 15) (.k (.c (.int .i64 1)))⟩, ⟨some 5, none, .mv (.t 16)⟩] none [0, 1, 5])))))) (.seq (.reg [⟨some 4, none, .mv (.k (.c (.bool true)))⟩] none [4]) .ret))))
theorem chk_eqStringS : chkX Go.Proofs.Try.prog 26 (Go.Proofs.Try.f32.body.getD .skip) x_eqStringS = true := by kernel_rfl
theorem rs_eqStringS : okRs Go.Proofs.Try.prog Go.Proofs.Try.f32.results.toList [.tmp 4] = true := by kernel_rfl
theorem call_eqStringS : okCallee Go.Proofs.Try.prog 32 = true := by kernel_rfl
def x_eqValS : X := (.seq (.reg [⟨some 4, none, .mv (.k (.c (.bool false)))⟩] none [0, 1]) (.seq (.seq (.reg [⟨some 6, none, .mv (.t 0)⟩, ⟨some 7, none, .len (.t 6) false⟩, ⟨some 8, none, .mv (.t 1)⟩, ⟨some 9, none, .len (.t 8) false⟩, ⟨some 10, none, .bin false .neq (.t 7) (.t 9)⟩] none [0, 1, 10]) (.cond (.t 10) (.seq (.reg [⟨some 4, none, .mv (.k (.c (.bool false)))⟩] none [4]) .ret) .skip)) (.seq (.seq (.reg [⟨some 5, none, .mv (.k (.c (.int .i64 0)))⟩] none [0, 1, 5]) (.block 0 (.loop (.seq (.seq (.reg [⟨some 11, none, .mv (.t 5)⟩, ⟨some 12, none, .mv (.t 0)⟩, ⟨some 13, none, .len (.t 12) false⟩, ⟨some 14, none, .bin false .lss (.t 11) (.t 13)⟩] none [0, 1, 5, 14]) (.cond (.t 14) .skip (.exit 0))) (.seq (.block 1 (.seq (.reg [⟨some 17, none, .mv (.t 0)⟩, ⟨some 18, none, .mv (.t 5)⟩, ⟨some 19, none, .ia (.t 17) (.t 18) 5⟩, ⟨some 20, none, .load (.t 19) (some 5)⟩, ⟨some 21, none, .mv (.t 1)⟩, ⟨some 22, none, .mv (.t 5)⟩, ⟨some 23, none, .ia (.t 21) (.t 22) 5⟩, ⟨some 24, none, .load (.t 23) (some 5)⟩, ⟨some 25, none, .call 11 [(.t 20), (.t 24)]⟩, ⟨some 26, none, .not (.t 25)⟩] (some 8) [0, 1, 5, 26]) (.cond (.t 26) (.seq (.reg [⟨some 4, none, .mv (.k (.c (.bool false)))⟩] none [4]) .ret) .skip))) (.reg [⟨some 15, none, .mv (.t 5)⟩, ⟨some 16, none, .bin false .add (.t 15) (.k (.c (.int .i64 1)))⟩, ⟨some 5, none, .mv (.t 16)⟩] none [0, 1, 5])))))) (.seq (.reg [⟨some 4, none, .mv (.k (.c (.bool true)))⟩] none [4]) .ret))))
theorem chk_eqValS : chkX Go.Proofs.Try.prog 27 (Go.Proofs.Try.f33.body.getD .skip) x_eqValS = true := by kernel_rfl
theorem rs_eqValS : okRs Go.Proofs.Try.prog Go.Proofs.Try.f33.results.toList [.tmp 4] = true := by kernel_rfl
theorem call_eqValS : okCallee Go.Proofs.Try.prog 33 = true := by kernel_rfl
def x_eqVal : X := (.seq (.reg [⟨some 2, none, .box (.t 0) (some 5)⟩, ⟨some 3, none, .box (.t 1) (some 5)⟩, ⟨some 4, none, .mv (.k (.c (.bool false)))⟩] none [2, 3]) (.seq (.seq (.reg [⟨some 5, none, .fa (.t 2) 0⟩, ⟨some 6, none, .load (.t 5) none⟩, ⟨some 7, none, .fa (.t 3) 0⟩, ⟨some 8, none, .load (.t 7) none⟩, ⟨some 9, none, .bin false .neq (.t 6) (.t 8)⟩] none [2, 3, 9]) (.cond (.t 9) (.seq (.reg [⟨some 4, none, .mv (.k (.c (.bool false)))⟩] none [4]) .ret) .skip)) (.seq (.seq (.reg [⟨some 10, none, .fa (.t 2) 1⟩, ⟨some 11, none, .load (.t 10) none⟩, ⟨some 12, none, .fa (.t 3) 1⟩, ⟨some 13, none, .load (.t 12) none⟩, ⟨some 14, none, .bin false .neq (.t 11) (.t 13)⟩] none [2, 3, 14]) (.cond (.t 14) (.seq (.reg [⟨some 4, none, .mv (.k (.c (.bool false)))⟩] none [4]) .ret) .skip)) (.seq (.seq (.reg [⟨some 15, none, .fa (.t 2) 2⟩, ⟨some 16, none, .load (.t 15) none⟩, ⟨some 17, none, .fa (.t 3) 2⟩, ⟨some 18, none, .load (.t 17) none⟩, ⟨some 19, none, .bin false .neq (.t 16) (.t 18)⟩] none [2, 3, 19]) (.cond (.t 19) (.seq (.reg [⟨some 4, none, .mv (.k (.c (.bool false)))⟩] none [4]) .ret) .skip)) (.seq (.seq (.reg [⟨some 20, none, .fa (.t 2) 3⟩, ⟨some 21, none, .load (.t 20) none⟩, ⟨some 22, none, .fa (.t 3) 3⟩, ⟨some 23, none, .load (.t 22) none⟩, ⟨some 24, none, .call 32 [(.t 21), (.t 23)]⟩, ⟨some 25, none, .not (.t 24)⟩] none [2, 3, 25]) (.cond (.t 25) (.seq (.reg [⟨some 4, none, .mv (.k (.c (.bool false)))⟩] none [4]) .ret) .skip)) (.seq (.seq (.reg [⟨some 26, none, .fa (.t 2) 4⟩, ⟨some 27, none, .load (.t 26) none⟩, ⟨some 28, none, .fa (.t 3) 4⟩, ⟨some 29, none, .load (.t 28) none⟩, ⟨some 30, none, .call 33 [(.t 27), (.t 29)]⟩, ⟨some 31, none, .not (.t 30)⟩] none [31]) (.cond (.t 31) (.seq (.reg [⟨some 4, none, .mv (.k (.c (.bool false)))⟩] none [4]) .ret) .skip)) (.seq (.reg [⟨some 4, none, .mv (.k (.c (.bool true)))⟩] none [4]) .ret)))))))
theorem chk_eqVal : chkX Go.Proofs.Try.prog 32 (Go.Proofs.Try.f11.body.getD .skip) x_eqVal = true := by kernel_rfl
theorem rs_eqVal : okRs Go.Proofs.Try.prog Go.Proofs.Try.f11.results.toList [.tmp 4] = true := by kernel_rfl
theorem call_eqVal : okCallee Go.Proofs.Try.prog 11 = true := by kernel_rfl
noncomputable def spEqStrS  : Spec := Spec.of (ι := (List ByteArray) × (List ByteArray)) [false, false] (fun i => [.d (.one (.row 1 (strs i.1))), .d (.one (.row 1 (strs i.2)))]) (fun i => lenB 1048576 i.1.length ∧ lenB 1048576 i.2.length) (fun i => [.d (.one (.bool (decide (i.1 = i.2))))]) (fun _ => [.gone, .gone])
theorem spEqStrS_inj : ∀ i j : (List ByteArray) × (List ByteArray), (fun (i : (List ByteArray) × (List ByteArray)) => ([.d (.one (.row 1 (strs i.1))), .d (.one (.row 1 (strs i.2)))] : List AV)) i = (fun (i : (List ByteArray) × (List ByteArray)) => ([.d (.one (.row 1 (strs i.1))), .d (.one (.row 1 (strs i.2)))] : List AV)) j → i = j := by
  rintro ⟨a, b⟩ ⟨a', b'⟩ h
  simp only [Prod.mk.injEq]
  simpa [strs_eq, T.enc_eq, encL_eq, F.enc_eq, encF_eq, Tk.enc_eq, encTk_eq, Gn.enc_eq, ints_eq] using h
theorem spEqStrS_md  : (spEqStrS).md = [false, false] := rfl
theorem spEqStrS_pre  (a : List ByteArray) (b : List ByteArray) : (spEqStrS).pre [.d (.one (.row 1 (strs a))), .d (.one (.row 1 (strs b)))] = (lenB 1048576 a.length ∧ lenB 1048576 b.length) := Spec.of_pre' spEqStrS_inj (a, b)
theorem spEqStrS_alts  : (spEqStrS).alts = none := rfl
theorem spEqStrS_res  (a : List ByteArray) (b : List ByteArray) : (spEqStrS).res [.d (.one (.row 1 (strs a))), .d (.one (.row 1 (strs b)))] = [.d (.one (.bool (decide (a = b))))] := Spec.of_res spEqStrS_inj (a, b)
theorem spEqStrS_out  (a : List ByteArray) (b : List ByteArray) : (spEqStrS).out [.d (.one (.row 1 (strs a))), .d (.one (.row 1 (strs b)))] = [.gone, .gone] := Spec.of_out spEqStrS_inj (a, b)
theorem eqStrS_sound : Sound Go.Proofs.Try.prog 32 spEqStrS := by
  refine sound_fam GOK.nil Go.Proofs.Try.func32 (c := Go.Proofs.Try.f32.body.getD .skip) rfl (n := 26) rfl chk_eqStringS rs_eqStringS (fun _ => by simp) ?_ ?_
  · exact spEqStrS_inj
  · rintro ⟨a, b⟩ h1
    obtain h1 := h1
    simp only [lenB] at h1
    skip
    skip
    by_cases hl : a.length = b.length
    · have b1 : ((a.length : Int) = (b.length : Int)) = True := by simp [hl]
      simp only [x_eqStringS, rg, go_sem, seval, b1, not_true_eq_false]
      refine pw_loop (ι := Nat) (fun i => a.length - i) (fun i => i ≤ a.length ∧ a.take i = b.take i)
        (fun i => ⟨[(0, .q (.c (.row 1 (strs a)))), (1, .q (.c (.row 1 (strs b)))), (5, .q (.c (.int .i64 i)))], [], []⟩) 0 ⟨Nat.zero_le _, rfl⟩ (Le.refl _) ?_
      rintro i ⟨hi, heq⟩
      rcases Nat.lt_or_ge i a.length with hlt | hge
      · obtain ⟨s, hs, _, hmem⟩ := drop_at hlt
        obtain ⟨s', hs', _, hmem'⟩ := drop_at (l := b) (i := i) (by omega)
        have a1 := strs_at hs
        have a1' := strs_at hs'
        have a2 : ((i : Int) < (a.length : Int)) = True := by simp; omega
        have a3 : ((i : Int) < (b.length : Int)) = True := by simp; omega
        skip
        skip
        skip
        skip
        skip
        by_cases hc : s = s'
        · have c1 : (s = s') = True := by simp [hc]
          simp only [go_sem, seval, rg, a1, a1', a2, a3, c1, not_true_eq_false]
          repeat' (first | with_reducible assumption | with_reducible refine And.intro ?_ ?_ | intro _)
          all_goals first | omega | skip
          exact ⟨i + 1, ⟨by omega, take_at hs (hc ▸ hs') heq⟩, by omega, Le.refl _⟩
        · have c1 : (s = s') = False := by simp [hc]
          simp only [go_sem, seval, rg, a1, a1', a2, a3, c1, not_false_eq_true]
          repeat' (first | with_reducible assumption | with_reducible refine And.intro ?_ ?_ | intro _)
          all_goals first | omega | skip
          rename_i h; exact ne_at hs hs' hc h
      · have a2 : ((i : Int) < (a.length : Int)) = False := by simp; omega
        have hie : i = a.length := by omega
        subst hie
        simp only [go_sem, seval, a2]
        exact take_all hl heq
    · have b1 : ((a.length : Int) = (b.length : Int)) = False := by simp; omega
      simp only [x_eqStringS, rg, go_sem, seval, b1, not_false_eq_true]
      exact fun e => hl (by rw [e])
noncomputable def spEqTS (k:Nat) : Spec := Spec.of (ι := (List T) × (List T)) [false, false] (fun i => [.d (.one (.row 5 (encL i.1))), .d (.one (.row 5 (encL i.2)))]) (fun i => (lenB 1048576 i.1.length ∧ fitL 1048576 i.1 ∧ lenB 1048576 i.2.length ∧ fitL 1048576 i.2) ∧ SizeOf.sizeOf i.1 < k) (fun i => [.d (.one (.bool (decide (i.1 = i.2))))]) (fun _ => [.gone, .gone])
theorem spEqTS_inj : ∀ i j : (List T) × (List T), (fun (i : (List T) × (List T)) => ([.d (.one (.row 5 (encL i.1))), .d (.one (.row 5 (encL i.2)))] : List AV)) i = (fun (i : (List T) × (List T)) => ([.d (.one (.row 5 (encL i.1))), .d (.one (.row 5 (encL i.2)))] : List AV)) j → i = j := by
  rintro ⟨a, b⟩ ⟨a', b'⟩ h
  simp only [Prod.mk.injEq]
  simpa [strs_eq, T.enc_eq, encL_eq, F.enc_eq, encF_eq, Tk.enc_eq, encTk_eq, Gn.enc_eq, ints_eq] using h
theorem spEqTS_md (k:Nat) : (spEqTS k).md = [false, false] := rfl
theorem spEqTS_pre (k:Nat) (a : List T) (b : List T) : (spEqTS k).pre [.d (.one (.row 5 (encL a))), .d (.one (.row 5 (encL b)))] = ((lenB 1048576 a.length ∧ fitL 1048576 a ∧ lenB 1048576 b.length ∧ fitL 1048576 b) ∧ SizeOf.sizeOf a < k) := Spec.of_pre' spEqTS_inj (a, b)
theorem spEqTS_alts (k:Nat) : (spEqTS k).alts = none := rfl
theorem spEqTS_res (k:Nat) (a : List T) (b : List T) : (spEqTS k).res [.d (.one (.row 5 (encL a))), .d (.one (.row 5 (encL b)))] = [.d (.one (.bool (decide (a = b))))] := Spec.of_res spEqTS_inj (a, b)
theorem spEqTS_out (k:Nat) (a : List T) (b : List T) : (spEqTS k).out [.d (.one (.row 5 (encL a))), .d (.one (.row 5 (encL b)))] = [.gone, .gone] := Spec.of_out spEqTS_inj (a, b)
noncomputable def spEqT (k:Nat) : Spec := Spec.of (ι := T × T) [false, false] (fun i => [.d (.agg i.1.enc), .d (.agg i.2.enc)]) (fun i => (i.1.fit 1048576 ∧ i.2.fit 1048576) ∧ SizeOf.sizeOf i.1 < k) (fun i => [.d (.one (.bool (decide (i.1 = i.2))))]) (fun _ => [.gone, .gone])
theorem spEqT_inj : ∀ i j : T × T, (fun (i : T × T) => ([.d (.agg i.1.enc), .d (.agg i.2.enc)] : List AV)) i = (fun (i : T × T) => ([.d (.agg i.1.enc), .d (.agg i.2.enc)] : List AV)) j → i = j := by
  rintro ⟨a, b⟩ ⟨a', b'⟩ h
  simp only [Prod.mk.injEq]
  simpa [strs_eq, T.enc_eq, encL_eq, F.enc_eq, encF_eq, Tk.enc_eq, encTk_eq, Gn.enc_eq, ints_eq] using h
theorem spEqT_md (k:Nat) : (spEqT k).md = [false, false] := rfl
theorem spEqT_pre (k:Nat) (a : T) (b : T) : (spEqT k).pre [.d (.agg a.enc), .d (.agg b.enc)] = ((a.fit 1048576 ∧ b.fit 1048576) ∧ SizeOf.sizeOf a < k) := Spec.of_pre' spEqT_inj (a, b)
theorem spEqT_alts (k:Nat) : (spEqT k).alts = none := rfl
theorem spEqT_res (k:Nat) (a : T) (b : T) : (spEqT k).res [.d (.agg a.enc), .d (.agg b.enc)] = [.d (.one (.bool (decide (a = b))))] := Spec.of_res spEqT_inj (a, b)
theorem spEqT_out (k:Nat) (a : T) (b : T) : (spEqT k).out [.d (.agg a.enc), .d (.agg b.enc)] = [.gone, .gone] := Spec.of_out spEqT_inj (a, b)
theorem eqT_sound (k : Nat) (hS : Sound Go.Proofs.Try.prog 33 (spEqTS k)) : Sound Go.Proofs.Try.prog 11 (spEqT (k + 1)) := by
  refine sound_fam (GOK.cons (l := [(33, spEqTS k)]) call_eqStringS eqStrS_sound (GOK.cons call_eqValS hS GOK.nil)) Go.Proofs.Try.func11 (c := Go.Proofs.Try.f11.body.getD .skip) rfl (n := 32) rfl chk_eqVal rs_eqVal (fun _ => by simp) ?_ ?_
  · exact spEqT_inj
  · rintro ⟨a, b⟩ ⟨⟨h1, h2⟩, h4⟩
    obtain ⟨kk, n, s, ks, l⟩ := a
    obtain ⟨kk', n', s', ks', l'⟩ := b
    simp only [T.fit, strsFit] at h1 h2
    obtain ⟨_, _, f1, ⟨f2, f2'⟩, f3, f4⟩ := h1
    obtain ⟨_, _, g1, ⟨g2, g2'⟩, g3, g4⟩ := h2
    have e3 : SizeOf.sizeOf l < k := by have e : SizeOf.sizeOf (T.mk kk n s ks l) < k + 1 := h4
                                        rw [T.mk.sizeOf_spec] at e; omega
    simp only [x_eqVal, T.enc, go_sem, seval, rg, spEqStrS_md, spEqStrS_pre, spEqStrS_alts, spEqStrS_res, spEqStrS_out, spEqTS_md, spEqTS_pre, spEqTS_alts, spEqTS_res, spEqTS_out, T.mk.injEq]
    repeat' (first | with_reducible assumption | with_reducible refine And.intro ?_ ?_ | intro _)
    all_goals first | omega | (simp_all; done) | skip
theorem eqTS_sound (k : Nat) (hS : Sound Go.Proofs.Try.prog 11 (spEqT k)) : Sound Go.Proofs.Try.prog 33 (spEqTS (k + 1)) := by
  refine sound_fam (GOK.cons call_eqVal hS GOK.nil) Go.Proofs.Try.func33 (c := Go.Proofs.Try.f33.body.getD .skip) rfl (n := 27) rfl chk_eqValS rs_eqValS (fun _ => by simp) ?_ ?_
  · exact spEqTS_inj
  · rintro ⟨a, b⟩ h1
    obtain ⟨h1, h3⟩ := h1
    simp only at h3
    simp only [lenB] at h1
    have fa := fitL_mem h1.2.1
    have fb := fitL_mem h1.2.2.2
    by_cases hl : a.length = b.length
    · have b1 : ((a.length : Int) = (b.length : Int)) = True := by simp [hl]
      simp only [x_eqValS, rg, go_sem, seval, b1, not_true_eq_false]
      refine pw_loop (ι := Nat) (fun i => a.length - i) (fun i => i ≤ a.length ∧ a.take i = b.take i)
        (fun i => ⟨[(0, .q (.c (.row 5 (encL a)))), (1, .q (.c (.row 5 (encL b)))), (5, .q (.c (.int .i64 i)))], [], []⟩) 0 ⟨Nat.zero_le _, rfl⟩ (Le.refl _) ?_
      rintro i ⟨hi, heq⟩
      rcases Nat.lt_or_ge i a.length with hlt | hge
      · obtain ⟨s, hs, _, hmem⟩ := drop_at hlt
        obtain ⟨s', hs', _, hmem'⟩ := drop_at (l := b) (i := i) (by omega)
        have a1 := encL_at hs
        have a1' := encL_at hs'
        have a2 : ((i : Int) < (a.length : Int)) = True := by simp; omega
        have a3 : ((i : Int) < (b.length : Int)) = True := by simp; omega
        have a6 := T.enc_len s
        have a6' := T.enc_len s'
        have a7 := fa s hmem
        have a7' := fb s' hmem'
        have a8 := size_mem hmem
        by_cases hc : s = s'
        · have c1 : (s = s') = True := by simp [hc]
          simp only [go_sem, seval, rg, a1, a1', a2, a3, c1, not_true_eq_false, a6, a6', spEqT_md, spEqT_pre, spEqT_alts, spEqT_res, spEqT_out]
          repeat' (first | with_reducible assumption | with_reducible refine And.intro ?_ ?_ | intro _)
          all_goals first | omega | skip
          exact ⟨i + 1, ⟨by omega, take_at hs (hc ▸ hs') heq⟩, by omega, Le.refl _⟩
        · have c1 : (s = s') = False := by simp [hc]
          simp only [go_sem, seval, rg, a1, a1', a2, a3, c1, not_false_eq_true, a6, a6', spEqT_md, spEqT_pre, spEqT_alts, spEqT_res, spEqT_out]
          repeat' (first | with_reducible assumption | with_reducible refine And.intro ?_ ?_ | intro _)
          all_goals first | omega | skip
          rename_i h; exact ne_at hs hs' hc h
      · have a2 : ((i : Int) < (a.length : Int)) = False := by simp; omega
        have hie : i = a.length := by omega
        subst hie
        simp only [go_sem, seval, a2]
        exact take_all hl heq
    · have b1 : ((a.length : Int) = (b.length : Int)) = False := by simp; omega
      simp only [x_eqValS, rg, go_sem, seval, b1, not_false_eq_true]
      exact fun e => hl (by rw [e])
theorem eqT_all (k : Nat) : Sound Go.Proofs.Try.prog 11 (spEqT k) ∧ Sound Go.Proofs.Try.prog 33 (spEqTS k) := by
  induction k with
  | zero => exact ⟨Sound.none, Sound.none⟩
  | succ k ih => exact ⟨eqT_sound k ih.2, eqTS_sound k ih.1⟩
noncomputable def spEqV  : Spec := Spec.of (ι := T × T) [false, false] (fun i => [.d (.agg i.1.enc), .d (.agg i.2.enc)]) (fun i => i.1.fit 1048576 ∧ i.2.fit 1048576) (fun i => [.d (.one (.bool (decide (i.1 = i.2))))]) (fun _ => [.gone, .gone])
theorem spEqV_inj : ∀ i j : T × T, (fun (i : T × T) => ([.d (.agg i.1.enc), .d (.agg i.2.enc)] : List AV)) i = (fun (i : T × T) => ([.d (.agg i.1.enc), .d (.agg i.2.enc)] : List AV)) j → i = j := by
  rintro ⟨a, b⟩ ⟨a', b'⟩ h
  simp only [Prod.mk.injEq]
  simpa [strs_eq, T.enc_eq, encL_eq, F.enc_eq, encF_eq, Tk.enc_eq, encTk_eq, Gn.enc_eq, ints_eq] using h
theorem spEqV_md  : (spEqV).md = [false, false] := rfl
theorem spEqV_pre  (a : T) (b : T) : (spEqV).pre [.d (.agg a.enc), .d (.agg b.enc)] = (a.fit 1048576 ∧ b.fit 1048576) := Spec.of_pre' spEqV_inj (a, b)
theorem spEqV_alts  : (spEqV).alts = none := rfl
theorem spEqV_res  (a : T) (b : T) : (spEqV).res [.d (.agg a.enc), .d (.agg b.enc)] = [.d (.one (.bool (decide (a = b))))] := Spec.of_res spEqV_inj (a, b)
theorem spEqV_out  (a : T) (b : T) : (spEqV).out [.d (.agg a.enc), .d (.agg b.enc)] = [.gone, .gone] := Spec.of_out spEqV_inj (a, b)
theorem eqV_sound : Sound Go.Proofs.Try.prog 11 spEqV := Sound.all (μ := fun i => SizeOf.sizeOf i.1) (fun k => (eqT_all k).1)
end Go.Proofs.Pw
