/- Comparing trees: the functions of the laws' text. -/
import Derived.Test.YtlgjkdaembipoaaDoorPwT9
import Derived.Test.YtlgjkdaembipoaaDoorProg
import Derived.KernelRfl
import Derived.Test.YtlgjkdaembipoaaDoorPwT14
import Derived.Test.YtlgjkdaembipoaaDoorPwT15
import Derived.ProofKit
import Derived.ChangeOld
import Derived.Below
import Derived.Carry
import Derived.SizedLaws
import Derived.ChangeArms
import Derived.ChangeVars
import Derived.WalkSmall
import Derived.LaidHandle
import Derived.ChangeSlices
import Derived.Test.YtlgjkdaembipoaaDoorPwT10
import Derived.Lib.LaidTab
import Derived.LaidMore
set_option linter.unusedSimpArgs false
set_option linter.unusedVariables false
set_option linter.unusedSimpArgs false
set_option maxRecDepth 20000
namespace Go.Proofs.Pw
set_option linter.unusedSectionVars false
variable [Globs]
def x_eqStringS : X := (.seq (.reg [⟨some 4, none, .mv (.k (.c (.bool false)))⟩] none [0, 1]) (.seq (.seq (.reg [⟨some 6, none, .mv (.t 0)⟩, ⟨some 7, none, .len (.t 6) false⟩, ⟨some 8, none, .mv (.t 1)⟩, ⟨some 9, none, .len (.t 8) false⟩, ⟨some 10, none, .bin false .neq (.t 7) (.t 9)⟩] none [0, 1, 10]) (.cond (.t 10) (.seq (.reg [⟨some 4, none, .mv (.k (.c (.bool false)))⟩] none [4]) .ret) .skip)) (.seq (.seq (.reg [⟨some 5, none, .mv (.k (.c (.int .i64 0)))⟩] none [0, 1, 5]) (.block 0 (.loop (.seq (.seq (.reg [⟨some 11, none, .mv (.t 5)⟩, ⟨some 12, none, .mv (.t 0)⟩, ⟨some 13, none, .len (.t 12) false⟩, ⟨some 14, none, .bin false .lss (.t 11) (.t 13)⟩] none [0, 1, 5, 14]) (.cond (.t 14) .skip (.exit 0))) (.seq (.block 1 (.seq (.reg [⟨some 17, none, .mv (.t 0)⟩, ⟨some 18, none, .mv (.t 5)⟩, ⟨some 19, none, .ia (.t 17) (.t 18) 1⟩, ⟨some 20, none, .load (.t 19) none⟩, ⟨some 21, none, .mv (.t 1)⟩, ⟨some 22, none, .mv (.t 5)⟩, ⟨some 23, none, .ia (.t 21) (.t 22) 1⟩, ⟨some 24, none, .load (.t 23) none⟩, ⟨some 25, none, .bin false .neq (.t 20) (.t 24)⟩] (some 8) [0, 1, 5, 25]) (.cond (.t 25) (.seq (.reg [⟨some 4, none, .mv (.k (.c (.bool false)))⟩] none [4]) .ret) .skip))) (.reg [⟨some 15, none, .mv (.t 5)⟩, ⟨some 16, none, .bin false .add (.t 15) (.k (.c (.int .i64 1)))⟩, ⟨some 5, none, .mv (.t 16)⟩] none [0, 1, 5])))))) (.seq (.reg [⟨some 4, none, .mv (.k (.c (.bool true)))⟩] none [4]) .ret))))
theorem chk_eqStringS : chkX Go.Proofs.Tryd.prog 26 (Go.Proofs.Tryd.f51.body.getD .skip) x_eqStringS = true := by kernel_rfl
theorem rs_eqStringS : okRs Go.Proofs.Tryd.prog Go.Proofs.Tryd.f51.results.toList [.tmp 4] = true := by kernel_rfl
theorem call_eqStringS : okCallee Go.Proofs.Tryd.prog 51 = true := by kernel_rfl
def x_eqValS : X := (.seq (.reg [⟨some 4, none, .mv (.k (.c (.bool false)))⟩] none [0, 1]) (.seq (.seq (.reg [⟨some 6, none, .mv (.t 0)⟩, ⟨some 7, none, .len (.t 6) false⟩, ⟨some 8, none, .mv (.t 1)⟩, ⟨some 9, none, .len (.t 8) false⟩, ⟨some 10, none, .bin false .neq (.t 7) (.t 9)⟩] none [0, 1, 10]) (.cond (.t 10) (.seq (.reg [⟨some 4, none, .mv (.k (.c (.bool false)))⟩] none [4]) .ret) .skip)) (.seq (.seq (.reg [⟨some 5, none, .mv (.k (.c (.int .i64 0)))⟩] none [0, 1, 5]) (.block 0 (.loop (.seq (.seq (.reg [⟨some 11, none, .mv (.t 5)⟩, ⟨some 12, none, .mv (.t 0)⟩, ⟨some 13, none, .len (.t 12) false⟩, ⟨some 14, none, .bin false .lss (.t 11) (.t 13)⟩] none [0, 1, 5, 14]) (.cond (.t 14) .skip (.exit 0))) (.seq (.block 1 (.seq (.reg [⟨some 17, none, .mv (.t 0)⟩, ⟨some 18, none, .mv (.t 5)⟩, ⟨some 19, none, .ia (.t 17) (.t 18) 5⟩, ⟨some 20, none, .load (.t 19) (some 5)⟩, ⟨some 21, none, .mv (.t 1)⟩, ⟨some 22, none, .mv (.t 5)⟩, ⟨some 23, none, .ia (.t 21) (.t 22) 5⟩, ⟨some 24, none, .load (.t 23) (some 5)⟩, ⟨some 25, none, .call 31 [(.t 20), (.t 24)]⟩, ⟨some 26, none, .not (.t 25)⟩] (some 8) [0, 1, 5, 26]) (.cond (.t 26) (.seq (.reg [⟨some 4, none, .mv (.k (.c (.bool false)))⟩] none [4]) .ret) .skip))) (.reg [⟨some 15, none, .mv (.t 5)⟩, ⟨some 16, none, .bin false .add (.t 15) (.k (.c (.int .i64 1)))⟩, ⟨some 5, none, .mv (.t 16)⟩] none [0, 1, 5])))))) (.seq (.reg [⟨some 4, none, .mv (.k (.c (.bool true)))⟩] none [4]) .ret))))
theorem chk_eqValS : chkX Go.Proofs.Tryd.prog 27 (Go.Proofs.Tryd.f52.body.getD .skip) x_eqValS = true := by kernel_rfl
theorem rs_eqValS : okRs Go.Proofs.Tryd.prog Go.Proofs.Tryd.f52.results.toList [.tmp 4] = true := by kernel_rfl
theorem call_eqValS : okCallee Go.Proofs.Tryd.prog 52 = true := by kernel_rfl
def x_eqVal : X := (.seq (.reg [⟨some 2, none, .box (.t 0) (some 5)⟩, ⟨some 3, none, .box (.t 1) (some 5)⟩, ⟨some 4, none, .mv (.k (.c (.bool false)))⟩] none [2, 3]) (.seq (.seq (.reg [⟨some 5, none, .fa (.t 2) 0⟩, ⟨some 6, none, .load (.t 5) none⟩, ⟨some 7, none, .fa (.t 3) 0⟩, ⟨some 8, none, .load (.t 7) none⟩, ⟨some 9, none, .bin false .neq (.t 6) (.t 8)⟩] none [2, 3, 9]) (.cond (.t 9) (.seq (.reg [⟨some 4, none, .mv (.k (.c (.bool false)))⟩] none [4]) .ret) .skip)) (.seq (.seq (.reg [⟨some 10, none, .fa (.t 2) 1⟩, ⟨some 11, none, .load (.t 10) none⟩, ⟨some 12, none, .fa (.t 3) 1⟩, ⟨some 13, none, .load (.t 12) none⟩, ⟨some 14, none, .bin false .neq (.t 11) (.t 13)⟩] none [2, 3, 14]) (.cond (.t 14) (.seq (.reg [⟨some 4, none, .mv (.k (.c (.bool false)))⟩] none [4]) .ret) .skip)) (.seq (.seq (.reg [⟨some 15, none, .fa (.t 2) 2⟩, ⟨some 16, none, .load (.t 15) none⟩, ⟨some 17, none, .fa (.t 3) 2⟩, ⟨some 18, none, .load (.t 17) none⟩, ⟨some 19, none, .bin false .neq (.t 16) (.t 18)⟩] none [2, 3, 19]) (.cond (.t 19) (.seq (.reg [⟨some 4, none, .mv (.k (.c (.bool false)))⟩] none [4]) .ret) .skip)) (.seq (.seq (.reg [⟨some 20, none, .fa (.t 2) 3⟩, ⟨some 21, none, .load (.t 20) none⟩, ⟨some 22, none, .fa (.t 3) 3⟩, ⟨some 23, none, .load (.t 22) none⟩, ⟨some 24, none, .call 51 [(.t 21), (.t 23)]⟩, ⟨some 25, none, .not (.t 24)⟩] none [2, 3, 25]) (.cond (.t 25) (.seq (.reg [⟨some 4, none, .mv (.k (.c (.bool false)))⟩] none [4]) .ret) .skip)) (.seq (.seq (.reg [⟨some 26, none, .fa (.t 2) 4⟩, ⟨some 27, none, .load (.t 26) none⟩, ⟨some 28, none, .fa (.t 3) 4⟩, ⟨some 29, none, .load (.t 28) none⟩, ⟨some 30, none, .call 52 [(.t 27), (.t 29)]⟩, ⟨some 31, none, .not (.t 30)⟩] none [31]) (.cond (.t 31) (.seq (.reg [⟨some 4, none, .mv (.k (.c (.bool false)))⟩] none [4]) .ret) .skip)) (.seq (.reg [⟨some 4, none, .mv (.k (.c (.bool true)))⟩] none [4]) .ret)))))))
theorem chk_eqVal : chkX Go.Proofs.Tryd.prog 32 (Go.Proofs.Tryd.f31.body.getD .skip) x_eqVal = true := by kernel_rfl
theorem rs_eqVal : okRs Go.Proofs.Tryd.prog Go.Proofs.Tryd.f31.results.toList [.tmp 4] = true := by kernel_rfl
theorem call_eqVal : okCallee Go.Proofs.Tryd.prog 31 = true := by kernel_rfl
noncomputable def spEqStrS  : Spec := Spec.of (ι := (List ByteArray) × (List ByteArray)) [false, false] (fun i => [.d (.one (.row 1 (strs i.1))), .d (.one (.row 1 (strs i.2)))]) (fun i => lenB 1048576 i.1.length ∧ lenB 1048576 i.2.length) (fun i => [.d (.one (.bool (decide (i.1 = i.2))))]) (fun _ => [.gone, .gone])
theorem spEqStrS_inj : ∀ i j : (List ByteArray) × (List ByteArray), (fun (i : (List ByteArray) × (List ByteArray)) => ([.d (.one (.row 1 (strs i.1))), .d (.one (.row 1 (strs i.2)))] : List AV)) i = (fun (i : (List ByteArray) × (List ByteArray)) => ([.d (.one (.row 1 (strs i.1))), .d (.one (.row 1 (strs i.2)))] : List AV)) j → i = j := by
  rintro ⟨a, b⟩ ⟨a', b'⟩ h
  simp only [Prod.mk.injEq]
  simpa [strs_eq, T.enc_eq, encL_eq, F.enc_eq, encF_eq, Tk.enc_eq, encTk_eq, Gn.enc_eq, ints_eq] using h
theorem spEqStrS_md  : (spEqStrS).md = [false, false] := rfl
theorem spEqStrS_pre  (a : List ByteArray) (b : List ByteArray) : (spEqStrS).pre [.d (.one (.row 1 (strs a))), .d (.one (.row 1 (strs b)))] = (lenB 1048576 a.length ∧ lenB 1048576 b.length) := Spec.of_pre' spEqStrS_inj (a, b)
theorem spEqStrS_alts  : (spEqStrS).alts = none := rfl
theorem spEqStrS_res  (a : List ByteArray) (b : List ByteArray) : (spEqStrS).res [.d (.one (.row 1 (strs a))), .d (.one (.row 1 (strs b)))] = [.d (.one (.bool (decide (a = b))))] := Spec.of_res spEqStrS_inj (a, b)
theorem spEqStrS_out  (a : List ByteArray) (b : List ByteArray) : (spEqStrS).out [.d (.one (.row 1 (strs a))), .d (.one (.row 1 (strs b)))] = [.gone, .gone] := Spec.of_out spEqStrS_inj (a, b)
theorem eqStrS_sound : Sound Go.Proofs.Tryd.prog 51 spEqStrS := by
  refine sound_fam GOK.nil Go.Proofs.Tryd.func51 (c := Go.Proofs.Tryd.f51.body.getD .skip) rfl (n := 26) rfl chk_eqStringS rs_eqStringS (fun _ => by simp) ?_ ?_
  · exact spEqStrS_inj
  · rintro ⟨a, b⟩ h1
    obtain h1 := h1
    simp only [lenB] at h1
    skip
    skip
    by_cases hl : a.length = b.length
    · have b1 : ((a.length : Int) = (b.length : Int)) = True := by simp [hl]
      simp only [x_eqStringS, rg, go_sem, seval, b1, not_true_eq_false]
      refine pw_loop (ι := Nat) (fun i => a.length - i) (fun i => i ≤ a.length ∧ a.take i = b.take i)
        (fun i => ⟨[(0, .q (.c (.row 1 (strs a)))), (1, .q (.c (.row 1 (strs b)))), (5, .q (.c (.int .i64 i)))], [], []⟩) 0 ⟨Nat.zero_le _, rfl⟩ (Le.refl _) ?_
      rintro i ⟨hi, heq⟩
      rcases Nat.lt_or_ge i a.length with hlt | hge
      · obtain ⟨s, hs, _, hmem⟩ := drop_at hlt
        obtain ⟨s', hs', _, hmem'⟩ := drop_at (l := b) (i := i) (by omega)
        have a1 := strs_at hs
        have a1' := strs_at hs'
        have a2 : ((i : Int) < (a.length : Int)) = True := by simp; omega
        have a3 : ((i : Int) < (b.length : Int)) = True := by simp; omega
        skip
        skip
        skip
        skip
        skip
        by_cases hc : s = s'
        · have c1 : (s = s') = True := by simp [hc]
          simp only [go_sem, seval, rg, a1, a1', a2, a3, c1, not_true_eq_false]
          repeat' (first | with_reducible assumption | with_reducible refine And.intro ?_ ?_ | intro _)
          all_goals first | omega | skip
          exact ⟨i + 1, ⟨by omega, take_at hs (hc ▸ hs') heq⟩, by omega, Le.refl _⟩
        · have c1 : (s = s') = False := by simp [hc]
          simp only [go_sem, seval, rg, a1, a1', a2, a3, c1, not_false_eq_true]
          repeat' (first | with_reducible assumption | with_reducible refine And.intro ?_ ?_ | intro _)
          all_goals first | omega | skip
          rename_i h; exact ne_at hs hs' hc h
      · have a2 : ((i : Int) < (a.length : Int)) = False := by simp; omega
        have hie : i = a.length := by omega
        subst hie
        simp only [go_sem, seval, a2]
        exact take_all hl heq
    · have b1 : ((a.length : Int) = (b.length : Int)) = False := by simp; omega
      simp only [x_eqStringS, rg, go_sem, seval, b1, not_false_eq_true]
      exact fun e => hl (by rw [e])
noncomputable def spEqTS (k:Nat) : Spec := Spec.of (ι := (List T) × (List T)) [false, false] (fun i => [.d (.one (.row 5 (encL i.1))), .d (.one (.row 5 (encL i.2)))]) (fun i => (lenB 1048576 i.1.length ∧ fitL 1048576 i.1 ∧ lenB 1048576 i.2.length ∧ fitL 1048576 i.2) ∧ SizeOf.sizeOf i.1 < k) (fun i => [.d (.one (.bool (decide (i.1 = i.2))))]) (fun _ => [.gone, .gone])
theorem spEqTS_inj : ∀ i j : (List T) × (List T), (fun (i : (List T) × (List T)) => ([.d (.one (.row 5 (encL i.1))), .d (.one (.row 5 (encL i.2)))] : List AV)) i = (fun (i : (List T) × (List T)) => ([.d (.one (.row 5 (encL i.1))), .d (.one (.row 5 (encL i.2)))] : List AV)) j → i = j := by
  rintro ⟨a, b⟩ ⟨a', b'⟩ h
  simp only [Prod.mk.injEq]
  simpa [strs_eq, T.enc_eq, encL_eq, F.enc_eq, encF_eq, Tk.enc_eq, encTk_eq, Gn.enc_eq, ints_eq] using h
theorem spEqTS_md (k:Nat) : (spEqTS k).md = [false, false] := rfl
theorem spEqTS_pre (k:Nat) (a : List T) (b : List T) : (spEqTS k).pre [.d (.one (.row 5 (encL a))), .d (.one (.row 5 (encL b)))] = ((lenB 1048576 a.length ∧ fitL 1048576 a ∧ lenB 1048576 b.length ∧ fitL 1048576 b) ∧ SizeOf.sizeOf a < k) := Spec.of_pre' spEqTS_inj (a, b)
theorem spEqTS_alts (k:Nat) : (spEqTS k).alts = none := rfl
theorem spEqTS_res (k:Nat) (a : List T) (b : List T) : (spEqTS k).res [.d (.one (.row 5 (encL a))), .d (.one (.row 5 (encL b)))] = [.d (.one (.bool (decide (a = b))))] := Spec.of_res spEqTS_inj (a, b)
theorem spEqTS_out (k:Nat) (a : List T) (b : List T) : (spEqTS k).out [.d (.one (.row 5 (encL a))), .d (.one (.row 5 (encL b)))] = [.gone, .gone] := Spec.of_out spEqTS_inj (a, b)
noncomputable def spEqT (k:Nat) : Spec := Spec.of (ι := T × T) [false, false] (fun i => [.d (.agg i.1.enc), .d (.agg i.2.enc)]) (fun i => (i.1.fit 1048576 ∧ i.2.fit 1048576) ∧ SizeOf.sizeOf i.1 < k) (fun i => [.d (.one (.bool (decide (i.1 = i.2))))]) (fun _ => [.gone, .gone])
theorem spEqT_inj : ∀ i j : T × T, (fun (i : T × T) => ([.d (.agg i.1.enc), .d (.agg i.2.enc)] : List AV)) i = (fun (i : T × T) => ([.d (.agg i.1.enc), .d (.agg i.2.enc)] : List AV)) j → i = j := by
  rintro ⟨a, b⟩ ⟨a', b'⟩ h
  simp only [Prod.mk.injEq]
  simpa [strs_eq, T.enc_eq, encL_eq, F.enc_eq, encF_eq, Tk.enc_eq, encTk_eq, Gn.enc_eq, ints_eq] using h
theorem spEqT_md (k:Nat) : (spEqT k).md = [false, false] := rfl
theorem spEqT_pre (k:Nat) (a : T) (b : T) : (spEqT k).pre [.d (.agg a.enc), .d (.agg b.enc)] = ((a.fit 1048576 ∧ b.fit 1048576) ∧ SizeOf.sizeOf a < k) := Spec.of_pre' spEqT_inj (a, b)
theorem spEqT_alts (k:Nat) : (spEqT k).alts = none := rfl
theorem spEqT_res (k:Nat) (a : T) (b : T) : (spEqT k).res [.d (.agg a.enc), .d (.agg b.enc)] = [.d (.one (.bool (decide (a = b))))] := Spec.of_res spEqT_inj (a, b)
theorem spEqT_out (k:Nat) (a : T) (b : T) : (spEqT k).out [.d (.agg a.enc), .d (.agg b.enc)] = [.gone, .gone] := Spec.of_out spEqT_inj (a, b)
theorem eqT_sound (k : Nat) (hS : Sound Go.Proofs.Tryd.prog 52 (spEqTS k)) : Sound Go.Proofs.Tryd.prog 31 (spEqT (k + 1)) := by
  refine sound_fam (GOK.cons (l := [(52, spEqTS k)]) call_eqStringS eqStrS_sound (GOK.cons call_eqValS hS GOK.nil)) Go.Proofs.Tryd.func31 (c := Go.Proofs.Tryd.f31.body.getD .skip) rfl (n := 32) rfl chk_eqVal rs_eqVal (fun _ => by simp) ?_ ?_
  · exact spEqT_inj
  · rintro ⟨a, b⟩ ⟨⟨h1, h2⟩, h4⟩
    obtain ⟨kk, n, s, ks, l⟩ := a
    obtain ⟨kk', n', s', ks', l'⟩ := b
    simp only [T.fit, strsFit] at h1 h2
    obtain ⟨_, _, f1, ⟨f2, f2'⟩, f3, f4⟩ := h1
    obtain ⟨_, _, g1, ⟨g2, g2'⟩, g3, g4⟩ := h2
    have e3 : SizeOf.sizeOf l < k := by have e : SizeOf.sizeOf (T.mk kk n s ks l) < k + 1 := h4
                                        rw [T.mk.sizeOf_spec] at e; omega
    simp only [x_eqVal, T.enc, go_sem, seval, rg, spEqStrS_md, spEqStrS_pre, spEqStrS_alts, spEqStrS_res, spEqStrS_out, spEqTS_md, spEqTS_pre, spEqTS_alts, spEqTS_res, spEqTS_out, T.mk.injEq]
    repeat' (first | with_reducible assumption | with_reducible refine And.intro ?_ ?_ | intro _)
    all_goals first | omega | (simp_all; done) | skip
theorem eqTS_sound (k : Nat) (hS : Sound Go.Proofs.Tryd.prog 31 (spEqT k)) : Sound Go.Proofs.Tryd.prog 52 (spEqTS (k + 1)) := by
  refine sound_fam (GOK.cons call_eqVal hS GOK.nil) Go.Proofs.Tryd.func52 (c := Go.Proofs.Tryd.f52.body.getD .skip) rfl (n := 27) rfl chk_eqValS rs_eqValS (fun _ => by simp) ?_ ?_
  · exact spEqTS_inj
  · rintro ⟨a, b⟩ h1
    obtain ⟨h1, h3⟩ := h1
    simp only at h3
    simp only [lenB] at h1
    have fa := fitL_mem h1.2.1
    have fb := fitL_mem h1.2.2.2
    by_cases hl : a.length = b.length
    · have b1 : ((a.length : Int) = (b.length : Int)) = True := by simp [hl]
      simp only [x_eqValS, rg, go_sem, seval, b1, not_true_eq_false]
      refine pw_loop (ι := Nat) (fun i => a.length - i) (fun i => i ≤ a.length ∧ a.take i = b.take i)
        (fun i => ⟨[(0, .q (.c (.row 5 (encL a)))), (1, .q (.c (.row 5 (encL b)))), (5, .q (.c (.int .i64 i)))], [], []⟩) 0 ⟨Nat.zero_le _, rfl⟩ (Le.refl _) ?_
      rintro i ⟨hi, heq⟩
      rcases Nat.lt_or_ge i a.length with hlt | hge
      · obtain ⟨s, hs, _, hmem⟩ := drop_at hlt
        obtain ⟨s', hs', _, hmem'⟩ := drop_at (l := b) (i := i) (by omega)
        have a1 := encL_at hs
        have a1' := encL_at hs'
        have a2 : ((i : Int) < (a.length : Int)) = True := by simp; omega
        have a3 : ((i : Int) < (b.length : Int)) = True := by simp; omega
        have a6 := T.enc_len s
        have a6' := T.enc_len s'
        have a7 := fa s hmem
        have a7' := fb s' hmem'
        have a8 := size_mem hmem
        by_cases hc : s = s'
        · have c1 : (s = s') = True := by simp [hc]
          simp only [go_sem, seval, rg, a1, a1', a2, a3, c1, not_true_eq_false, a6, a6', spEqT_md, spEqT_pre, spEqT_alts, spEqT_res, spEqT_out]
          repeat' (first | with_reducible assumption | with_reducible refine And.intro ?_ ?_ | intro _)
          all_goals first | omega | skip
          exact ⟨i + 1, ⟨by omega, take_at hs (hc ▸ hs') heq⟩, by omega, Le.refl _⟩
        · have c1 : (s = s') = False := by simp [hc]
          simp only [go_sem, seval, rg, a1, a1', a2, a3, c1, not_false_eq_true, a6, a6', spEqT_md, spEqT_pre, spEqT_alts, spEqT_res, spEqT_out]
          repeat' (first | with_reducible assumption | with_reducible refine And.intro ?_ ?_ | intro _)
          all_goals first | omega | skip
          rename_i h; exact ne_at hs hs' hc h
      · have a2 : ((i : Int) < (a.length : Int)) = False := by simp; omega
        have hie : i = a.length := by omega
        subst hie
        simp only [go_sem, seval, a2]
        exact take_all hl heq
    · have b1 : ((a.length : Int) = (b.length : Int)) = False := by simp; omega
      simp only [x_eqValS, rg, go_sem, seval, b1, not_false_eq_true]
      exact fun e => hl (by rw [e])
theorem eqT_all (k : Nat) : Sound Go.Proofs.Tryd.prog 31 (spEqT k) ∧ Sound Go.Proofs.Tryd.prog 52 (spEqTS k) := by
  induction k with
  | zero => exact ⟨Sound.none, Sound.none⟩
  | succ k ih => exact ⟨eqT_sound k ih.2, eqTS_sound k ih.1⟩
noncomputable def spEqV  : Spec := Spec.of (ι := T × T) [false, false] (fun i => [.d (.agg i.1.enc), .d (.agg i.2.enc)]) (fun i => i.1.fit 1048576 ∧ i.2.fit 1048576) (fun i => [.d (.one (.bool (decide (i.1 = i.2))))]) (fun _ => [.gone, .gone])
theorem spEqV_inj : ∀ i j : T × T, (fun (i : T × T) => ([.d (.agg i.1.enc), .d (.agg i.2.enc)] : List AV)) i = (fun (i : T × T) => ([.d (.agg i.1.enc), .d (.agg i.2.enc)] : List AV)) j → i = j := by
  rintro ⟨a, b⟩ ⟨a', b'⟩ h
  simp only [Prod.mk.injEq]
  simpa [strs_eq, T.enc_eq, encL_eq, F.enc_eq, encF_eq, Tk.enc_eq, encTk_eq, Gn.enc_eq, ints_eq] using h
theorem spEqV_md  : (spEqV).md = [false, false] := rfl
theorem spEqV_pre  (a : T) (b : T) : (spEqV).pre [.d (.agg a.enc), .d (.agg b.enc)] = (a.fit 1048576 ∧ b.fit 1048576) := Spec.of_pre' spEqV_inj (a, b)
theorem spEqV_alts  : (spEqV).alts = none := rfl
theorem spEqV_res  (a : T) (b : T) : (spEqV).res [.d (.agg a.enc), .d (.agg b.enc)] = [.d (.one (.bool (decide (a = b))))] := Spec.of_res spEqV_inj (a, b)
theorem spEqV_out  (a : T) (b : T) : (spEqV).out [.d (.agg a.enc), .d (.agg b.enc)] = [.gone, .gone] := Spec.of_out spEqV_inj (a, b)
theorem eqV_sound : Sound Go.Proofs.Tryd.prog 31 spEqV := Sound.all (μ := fun i => SizeOf.sizeOf i.1) (fun k => (eqT_all k).1)
def x_eqFiltS : X := (.seq (.reg [⟨some 4, none, .mv (.k (.c (.bool false)))⟩] none [0, 1]) (.seq (.seq (.reg [⟨some 6, none, .mv (.t 0)⟩, ⟨some 7, none, .len (.t 6) false⟩, ⟨some 8, none, .mv (.t 1)⟩, ⟨some 9, none, .len (.t 8) false⟩, ⟨some 10, none, .bin false .neq (.t 7) (.t 9)⟩] none [0, 1, 10]) (.cond (.t 10) (.seq (.reg [⟨some 4, none, .mv (.k (.c (.bool false)))⟩] none [4]) .ret) .skip)) (.seq (.seq (.reg [⟨some 5, none, .mv (.k (.c (.int .i64 0)))⟩] none [0, 1, 5]) (.block 0 (.loop (.seq (.seq (.reg [⟨some 11, none, .mv (.t 5)⟩, ⟨some 12, none, .mv (.t 0)⟩, ⟨some 13, none, .len (.t 12) false⟩, ⟨some 14, none, .bin false .lss (.t 11) (.t 13)⟩] none [0, 1, 5, 14]) (.cond (.t 14) .skip (.exit 0))) (.seq (.block 1 (.seq (.reg [⟨some 17, none, .mv (.t 0)⟩, ⟨some 18, none, .mv (.t 5)⟩, ⟨some 19, none, .ia (.t 17) (.t 18) 9⟩, ⟨some 20, none, .load (.t 19) (some 9)⟩, ⟨some 21, none, .mv (.t 1)⟩, ⟨some 22, none, .mv (.t 5)⟩, ⟨some 23, none, .ia (.t 21) (.t 22) 9⟩, ⟨some 24, none, .load (.t 23) (some 9)⟩, ⟨some 25, none, .call 14 [(.t 20), (.t 24)]⟩, ⟨some 26, none, .not (.t 25)⟩] (some 8) [0, 1, 5, 26]) (.cond (.t 26) (.seq (.reg [⟨some 4, none, .mv (.k (.c (.bool false)))⟩] none [4]) .ret) .skip))) (.reg [⟨some 15, none, .mv (.t 5)⟩, ⟨some 16, none, .bin false .add (.t 15) (.k (.c (.int .i64 1)))⟩, ⟨some 5, none, .mv (.t 16)⟩] none [0, 1, 5])))))) (.seq (.reg [⟨some 4, none, .mv (.k (.c (.bool true)))⟩] none [4]) .ret))))
theorem chk_eqFiltS : chkX Go.Proofs.Tryd.prog 27 (Go.Proofs.Tryd.f32.body.getD .skip) x_eqFiltS = true := by kernel_rfl
theorem rs_eqFiltS : okRs Go.Proofs.Tryd.prog Go.Proofs.Tryd.f32.results.toList [.tmp 4] = true := by kernel_rfl
theorem call_eqFiltS : okCallee Go.Proofs.Tryd.prog 32 = true := by kernel_rfl
def x_eqFilt : X := (.seq (.reg [⟨some 2, none, .box (.t 0) (some 9)⟩, ⟨some 3, none, .box (.t 1) (some 9)⟩, ⟨some 4, none, .mv (.k (.c (.bool false)))⟩] none [2, 3]) (.seq (.seq (.reg [⟨some 5, none, .fa (.t 2) 0⟩, ⟨some 6, none, .load (.t 5) none⟩, ⟨some 7, none, .fa (.t 3) 0⟩, ⟨some 8, none, .load (.t 7) none⟩, ⟨some 9, none, .bin false .neq (.t 6) (.t 8)⟩] none [2, 3, 9]) (.cond (.t 9) (.seq (.reg [⟨some 4, none, .mv (.k (.c (.bool false)))⟩] none [4]) .ret) .skip)) (.seq (.seq (.reg [⟨some 10, none, .fa (.t 2) 1⟩, ⟨some 11, none, .load (.t 10) none⟩, ⟨some 12, none, .fa (.t 3) 1⟩, ⟨some 13, none, .load (.t 12) none⟩, ⟨some 14, none, .bin false .neq (.t 11) (.t 13)⟩] none [2, 3, 14]) (.cond (.t 14) (.seq (.reg [⟨some 4, none, .mv (.k (.c (.bool false)))⟩] none [4]) .ret) .skip)) (.seq (.seq (.reg [⟨some 15, none, .fa (.t 2) 2⟩, ⟨some 16, none, .load (.t 15) none⟩, ⟨some 17, none, .fa (.t 3) 2⟩, ⟨some 18, none, .load (.t 17) none⟩, ⟨some 19, none, .bin false .neq (.t 16) (.t 18)⟩] none [2, 3, 19]) (.cond (.t 19) (.seq (.reg [⟨some 4, none, .mv (.k (.c (.bool false)))⟩] none [4]) .ret) .skip)) (.seq (.seq (.reg [⟨some 20, none, .fa (.t 2) 3⟩, ⟨some 21, none, .load (.t 20) (some 5)⟩, ⟨some 22, none, .fa (.t 3) 3⟩, ⟨some 23, none, .load (.t 22) (some 5)⟩, ⟨some 24, none, .call 31 [(.t 21), (.t 23)]⟩, ⟨some 25, none, .not (.t 24)⟩] none [2, 3, 25]) (.cond (.t 25) (.seq (.reg [⟨some 4, none, .mv (.k (.c (.bool false)))⟩] none [4]) .ret) .skip)) (.seq (.seq (.reg [⟨some 26, none, .fa (.t 2) 8⟩, ⟨some 27, none, .load (.t 26) none⟩, ⟨some 28, none, .fa (.t 3) 8⟩, ⟨some 29, none, .load (.t 28) none⟩, ⟨some 30, none, .call 32 [(.t 27), (.t 29)]⟩, ⟨some 31, none, .not (.t 30)⟩] none [31]) (.cond (.t 31) (.seq (.reg [⟨some 4, none, .mv (.k (.c (.bool false)))⟩] none [4]) .ret) .skip)) (.seq (.reg [⟨some 4, none, .mv (.k (.c (.bool true)))⟩] none [4]) .ret)))))))
theorem chk_eqFilt : chkX Go.Proofs.Tryd.prog 32 (Go.Proofs.Tryd.f14.body.getD .skip) x_eqFilt = true := by kernel_rfl
theorem rs_eqFilt : okRs Go.Proofs.Tryd.prog Go.Proofs.Tryd.f14.results.toList [.tmp 4] = true := by kernel_rfl
theorem call_eqFilt : okCallee Go.Proofs.Tryd.prog 14 = true := by kernel_rfl
noncomputable def spEqFS (k:Nat) : Spec := Spec.of (ι := (List F) × (List F)) [false, false] (fun i => [.d (.one (.row 9 (encF i.1))), .d (.one (.row 9 (encF i.2)))]) (fun i => (lenB 1048576 i.1.length ∧ fitF 1048576 i.1 ∧ lenB 1048576 i.2.length ∧ fitF 1048576 i.2) ∧ SizeOf.sizeOf i.1 < k) (fun i => [.d (.one (.bool (decide (i.1 = i.2))))]) (fun _ => [.gone, .gone])
theorem spEqFS_inj : ∀ i j : (List F) × (List F), (fun (i : (List F) × (List F)) => ([.d (.one (.row 9 (encF i.1))), .d (.one (.row 9 (encF i.2)))] : List AV)) i = (fun (i : (List F) × (List F)) => ([.d (.one (.row 9 (encF i.1))), .d (.one (.row 9 (encF i.2)))] : List AV)) j → i = j := by
  rintro ⟨a, b⟩ ⟨a', b'⟩ h
  simp only [Prod.mk.injEq]
  simpa [strs_eq, T.enc_eq, encL_eq, F.enc_eq, encF_eq, Tk.enc_eq, encTk_eq, Gn.enc_eq, ints_eq] using h
theorem spEqFS_md (k:Nat) : (spEqFS k).md = [false, false] := rfl
theorem spEqFS_pre (k:Nat) (a : List F) (b : List F) : (spEqFS k).pre [.d (.one (.row 9 (encF a))), .d (.one (.row 9 (encF b)))] = ((lenB 1048576 a.length ∧ fitF 1048576 a ∧ lenB 1048576 b.length ∧ fitF 1048576 b) ∧ SizeOf.sizeOf a < k) := Spec.of_pre' spEqFS_inj (a, b)
theorem spEqFS_alts (k:Nat) : (spEqFS k).alts = none := rfl
theorem spEqFS_res (k:Nat) (a : List F) (b : List F) : (spEqFS k).res [.d (.one (.row 9 (encF a))), .d (.one (.row 9 (encF b)))] = [.d (.one (.bool (decide (a = b))))] := Spec.of_res spEqFS_inj (a, b)
theorem spEqFS_out (k:Nat) (a : List F) (b : List F) : (spEqFS k).out [.d (.one (.row 9 (encF a))), .d (.one (.row 9 (encF b)))] = [.gone, .gone] := Spec.of_out spEqFS_inj (a, b)
noncomputable def spEqF (k:Nat) : Spec := Spec.of (ι := F × F) [false, false] (fun i => [.d (.agg i.1.enc), .d (.agg i.2.enc)]) (fun i => (i.1.fit 1048576 ∧ i.2.fit 1048576) ∧ SizeOf.sizeOf i.1 < k) (fun i => [.d (.one (.bool (decide (i.1 = i.2))))]) (fun _ => [.gone, .gone])
theorem spEqF_inj : ∀ i j : F × F, (fun (i : F × F) => ([.d (.agg i.1.enc), .d (.agg i.2.enc)] : List AV)) i = (fun (i : F × F) => ([.d (.agg i.1.enc), .d (.agg i.2.enc)] : List AV)) j → i = j := by
  rintro ⟨a, b⟩ ⟨a', b'⟩ h
  simp only [Prod.mk.injEq]
  simpa [strs_eq, T.enc_eq, encL_eq, F.enc_eq, encF_eq, Tk.enc_eq, encTk_eq, Gn.enc_eq, ints_eq] using h
theorem spEqF_md (k:Nat) : (spEqF k).md = [false, false] := rfl
theorem spEqF_pre (k:Nat) (a : F) (b : F) : (spEqF k).pre [.d (.agg a.enc), .d (.agg b.enc)] = ((a.fit 1048576 ∧ b.fit 1048576) ∧ SizeOf.sizeOf a < k) := Spec.of_pre' spEqF_inj (a, b)
theorem spEqF_alts (k:Nat) : (spEqF k).alts = none := rfl
theorem spEqF_res (k:Nat) (a : F) (b : F) : (spEqF k).res [.d (.agg a.enc), .d (.agg b.enc)] = [.d (.one (.bool (decide (a = b))))] := Spec.of_res spEqF_inj (a, b)
theorem spEqF_out (k:Nat) (a : F) (b : F) : (spEqF k).out [.d (.agg a.enc), .d (.agg b.enc)] = [.gone, .gone] := Spec.of_out spEqF_inj (a, b)
theorem eqF_sound (k : Nat) (hS : Sound Go.Proofs.Tryd.prog 32 (spEqFS k)) : Sound Go.Proofs.Tryd.prog 14 (spEqF (k + 1)) := by
  refine sound_fam (GOK.cons (l := [(32, spEqFS k)]) call_eqVal eqV_sound (GOK.cons call_eqFiltS hS GOK.nil)) Go.Proofs.Tryd.func14 (c := Go.Proofs.Tryd.f14.body.getD .skip) rfl (n := 32) rfl chk_eqFilt rs_eqFilt (fun _ => by simp) ?_ ?_
  · exact spEqF_inj
  · rintro ⟨a, b⟩ ⟨⟨h1, h2⟩, h4⟩
    obtain ⟨kk, n, s, v, l⟩ := a
    obtain ⟨kk', n', s', v', l'⟩ := b
    obtain ⟨vk, vn, vs, vks, vl⟩ := v
    obtain ⟨wk, wn, ws, wks, wl⟩ := v'
    simp only [F.fit] at h1 h2
    obtain ⟨_, _, f1, f2, f3, f4⟩ := h1
    obtain ⟨_, _, g1, g2, g3, g4⟩ := h2
    generalize hv : T.mk vk vn vs vks vl = v at *
    generalize hv' : T.mk wk wn ws wks wl = v' at *
    have e3 : SizeOf.sizeOf l < k := by have e : SizeOf.sizeOf (F.mk kk n s v l) < k + 1 := h4
                                        rw [F.mk.sizeOf_spec] at e; omega
    have e6 : v.enc = [.int .i64 vk, .int .i64 vn, .str vs, .row 1 (strs vks), .row 5 (encL vl)] := by rw [← hv]; rfl
    have e6' : v'.enc = [.int .i64 wk, .int .i64 wn, .str ws, .row 1 (strs wks), .row 5 (encL wl)] := by rw [← hv']; rfl
    have p1 := spEqV_pre v v'
    have p2 := spEqV_res v v'
    have p3 := spEqV_out v v'
    rw [e6, e6'] at p1 p2 p3
    simp only [x_eqFilt, F.enc, e6, e6', go_sem, seval, rg, spEqV_md, spEqV_alts, p1, p2, p3, spEqFS_md, spEqFS_pre, spEqFS_alts, spEqFS_res, spEqFS_out, F.mk.injEq]
    clear e6 e6' p1 p2 p3 hv hv'
    repeat' (first | with_reducible assumption | with_reducible refine And.intro ?_ ?_ | intro _)
    all_goals first | omega | (simp_all; done) | skip
theorem eqFS_sound (k : Nat) (hS : Sound Go.Proofs.Tryd.prog 14 (spEqF k)) : Sound Go.Proofs.Tryd.prog 32 (spEqFS (k + 1)) := by
  refine sound_fam (GOK.cons call_eqFilt hS GOK.nil) Go.Proofs.Tryd.func32 (c := Go.Proofs.Tryd.f32.body.getD .skip) rfl (n := 27) rfl chk_eqFiltS rs_eqFiltS (fun _ => by simp) ?_ ?_
  · exact spEqFS_inj
  · rintro ⟨a, b⟩ h1
    obtain ⟨h1, h3⟩ := h1
    simp only at h3
    simp only [lenB] at h1
    have fa := fitF_mem h1.2.1
    have fb := fitF_mem h1.2.2.2
    by_cases hl : a.length = b.length
    · have b1 : ((a.length : Int) = (b.length : Int)) = True := by simp [hl]
      simp only [x_eqFiltS, rg, go_sem, seval, b1, not_true_eq_false]
      refine pw_loop (ι := Nat) (fun i => a.length - i) (fun i => i ≤ a.length ∧ a.take i = b.take i)
        (fun i => ⟨[(0, .q (.c (.row 9 (encF a)))), (1, .q (.c (.row 9 (encF b)))), (5, .q (.c (.int .i64 i)))], [], []⟩) 0 ⟨Nat.zero_le _, rfl⟩ (Le.refl _) ?_
      rintro i ⟨hi, heq⟩
      rcases Nat.lt_or_ge i a.length with hlt | hge
      · obtain ⟨s, hs, _, hmem⟩ := drop_at hlt
        obtain ⟨s', hs', _, hmem'⟩ := drop_at (l := b) (i := i) (by omega)
        have a1 := encF_at hs
        have a1' := encF_at hs'
        have a2 : ((i : Int) < (a.length : Int)) = True := by simp; omega
        have a3 : ((i : Int) < (b.length : Int)) = True := by simp; omega
        have a6 := F.enc_len s
        have a6' := F.enc_len s'
        have a7 := fa s hmem
        have a7' := fb s' hmem'
        have a8 := size_mem hmem
        by_cases hc : s = s'
        · have c1 : (s = s') = True := by simp [hc]
          simp only [go_sem, seval, rg, a1, a1', a2, a3, c1, not_true_eq_false, a6, a6', spEqF_md, spEqF_pre, spEqF_alts, spEqF_res, spEqF_out]
          repeat' (first | with_reducible assumption | with_reducible refine And.intro ?_ ?_ | intro _)
          all_goals first | omega | skip
          exact ⟨i + 1, ⟨by omega, take_at hs (hc ▸ hs') heq⟩, by omega, Le.refl _⟩
        · have c1 : (s = s') = False := by simp [hc]
          simp only [go_sem, seval, rg, a1, a1', a2, a3, c1, not_false_eq_true, a6, a6', spEqF_md, spEqF_pre, spEqF_alts, spEqF_res, spEqF_out]
          repeat' (first | with_reducible assumption | with_reducible refine And.intro ?_ ?_ | intro _)
          all_goals first | omega | skip
          rename_i h; exact ne_at hs hs' hc h
      · have a2 : ((i : Int) < (a.length : Int)) = False := by simp; omega
        have hie : i = a.length := by omega
        subst hie
        simp only [go_sem, seval, a2]
        exact take_all hl heq
    · have b1 : ((a.length : Int) = (b.length : Int)) = False := by simp; omega
      simp only [x_eqFiltS, rg, go_sem, seval, b1, not_false_eq_true]
      exact fun e => hl (by rw [e])
theorem eqF_all (k : Nat) : Sound Go.Proofs.Tryd.prog 14 (spEqF k) ∧ Sound Go.Proofs.Tryd.prog 32 (spEqFS k) := by
  induction k with
  | zero => exact ⟨Sound.none, Sound.none⟩
  | succ k ih => exact ⟨eqF_sound k ih.2, eqFS_sound k ih.1⟩
end Go.Proofs.Pw
/- FnExactFiltText: the law, run. -/
set_option linter.unusedSimpArgs false
set_option maxRecDepth 20000
namespace Go.Proofs.Pw
set_option linter.unusedSectionVars false
variable [Globs]
def x_law : X := (.seq (.reg [⟨some 1, none, .box (.t 0) (some 9)⟩, ⟨some 2, none, .mv (.k (.c (.bool false)))⟩] none [1]) (.seq (.reg [⟨some 3, none, .mv (.k (.c (.int .i64 1048576)))⟩] none [1, 3]) (.seq (.reg [⟨some 7, none, .load (.t 1) (some 9)⟩, ⟨some 8, none, .mv (.t 3)⟩, ⟨some 9, none, .call 10 [(.t 7), (.t 8)]⟩, ⟨some 3, none, .mv (.t 9)⟩] none [1, 3]) (.seq (.seq (.reg [⟨some 10, none, .mv (.t 3)⟩, ⟨some 11, none, .bin false .lss (.t 10) (.k (.c (.int .i64 0)))⟩] none [1, 11]) (.cond (.t 11) (.seq (.reg [⟨some 2, none, .mv (.k (.c (.bool true)))⟩] none [2]) .ret) .skip)) (.seq (.reg [⟨some 12, none, .load (.t 1) (some 9)⟩, ⟨some 13, none, .call 12 [(.t 12)]⟩, ⟨some 14, none, .call 11 [(.t 13)]⟩, ⟨some 4, none, .mv (.t 14)⟩] none [1, 4]) (.seq (.reg [⟨some 15, none, .load (.t 1) (some 9)⟩, ⟨some 16, none, .call 12 [(.t 15)]⟩, ⟨some 5, none, .alloc [(.c (.int .i64 0)), (.c (.int .i64 0)), (.c (.str ⟨#[]⟩)), (.c (.int .i64 0)), (.c (.int .i64 0)), (.c (.str ⟨#[]⟩)), (.z 1), (.z 5), (.z 9)]⟩, ⟨none, none, .st (.t 5) (.t 16) (some 9)⟩] none [1, 4, 5]) (.seq (.reg [⟨some 17, none, .load (.t 5) (some 9)⟩, ⟨some 18, none, .call 13 [(.t 17)]⟩, ⟨some 6, none, .mv (.t 18)⟩] none [1, 4, 5, 6]) (.seq (.seq (.reg [⟨some 19, none, .mv (.t 6)⟩, ⟨some 20, none, .mv (.t 4)⟩, ⟨some 21, none, .bin false .neq (.t 19) (.t 20)⟩] none [1, 5, 21]) (.cond (.t 21) (.seq (.reg [⟨some 2, none, .mv (.k (.c (.bool false)))⟩] none [2]) .ret) .skip)) (.seq (.seq (.reg [⟨some 22, none, .load (.t 5) (some 9)⟩, ⟨some 23, none, .load (.t 1) (some 9)⟩, ⟨some 24, none, .call 12 [(.t 23)]⟩, ⟨some 25, none, .call 14 [(.t 22), (.t 24)]⟩, ⟨some 26, none, .not (.t 25)⟩] (some 3) [26]) (.cond (.t 26) (.seq (.reg [⟨some 2, none, .mv (.k (.c (.bool false)))⟩] none [2]) .ret) .skip)) (.seq (.reg [⟨some 2, none, .mv (.k (.c (.bool true)))⟩] none [2]) .ret))))))))))
theorem chk_law : chkX Go.Proofs.Tryd.prog 27 (Go.Proofs.Tryd.f4.body.getD .skip) x_law = true := by kernel_rfl
theorem rs_law : okRs Go.Proofs.Tryd.prog Go.Proofs.Tryd.f4.results.toList [.tmp 2] = true := by kernel_rfl
noncomputable def spSzFV  : Spec := Spec.of (ι := F × Int) [false, false] (fun i => [.d (.agg i.1.enc), .d (.one (.int .i64 i.2))]) (fun i => i.1.fit 140737488355328 ∧ 0 ≤ i.2 ∧ i.2 ≤ 1048576) (fun i => [.d (.one (.int .i64 (szF i.1 i.2)))]) (fun _ => [.gone, .gone])
theorem spSzFV_inj : ∀ i j : F × Int, (fun (i : F × Int) => ([.d (.agg i.1.enc), .d (.one (.int .i64 i.2))] : List AV)) i = (fun (i : F × Int) => ([.d (.agg i.1.enc), .d (.one (.int .i64 i.2))] : List AV)) j → i = j := by
  rintro ⟨t, l⟩ ⟨t', l'⟩ h
  simp only [Prod.mk.injEq]
  simpa [strs_eq, T.enc_eq, encL_eq, F.enc_eq, encF_eq, Tk.enc_eq, encTk_eq, Gn.enc_eq, ints_eq] using h
theorem spSzFV_md  : (spSzFV).md = [false, false] := rfl
theorem spSzFV_pre  (t : F) (l : Int) : (spSzFV).pre [.d (.agg t.enc), .d (.one (.int .i64 l))] = (t.fit 140737488355328 ∧ 0 ≤ l ∧ l ≤ 1048576) := Spec.of_pre' spSzFV_inj (t, l)
theorem spSzFV_alts  : (spSzFV).alts = none := rfl
theorem spSzFV_res  (t : F) (l : Int) : (spSzFV).res [.d (.agg t.enc), .d (.one (.int .i64 l))] = [.d (.one (.int .i64 (szF t l)))] := Spec.of_res spSzFV_inj (t, l)
theorem spSzFV_out  (t : F) (l : Int) : (spSzFV).out [.d (.agg t.enc), .d (.one (.int .i64 l))] = [.gone, .gone] := Spec.of_out spSzFV_inj (t, l)
theorem szFV_sound : Sound Go.Proofs.Tryd.prog 10 spSzFV := Sound.all (μ := fun i => SizeOf.sizeOf i.1) (fun k => (szF_all k).1)
noncomputable def spToFV  : Spec := Spec.of (ι := F) [false] (fun i => [.d (.agg i.enc)]) (fun i => i.fit 1048576) (fun i => [.d (.agg i.enc)]) (fun _ => [.gone])
theorem spToFV_inj : ∀ i j : F, (fun (i : F) => ([.d (.agg i.enc)] : List AV)) i = (fun (i : F) => ([.d (.agg i.enc)] : List AV)) j → i = j := by
  intro t t' h
  simpa [strs_eq, T.enc_eq, encL_eq, F.enc_eq, encF_eq, Tk.enc_eq, encTk_eq, Gn.enc_eq, ints_eq] using h
theorem spToFV_md  : (spToFV).md = [false] := rfl
theorem spToFV_pre  (t : F) : (spToFV).pre [.d (.agg t.enc)] = (t.fit 1048576) := Spec.of_pre' spToFV_inj t
theorem spToFV_alts  : (spToFV).alts = none := rfl
theorem spToFV_res  (t : F) : (spToFV).res [.d (.agg t.enc)] = [.d (.agg t.enc)] := Spec.of_res spToFV_inj t
theorem spToFV_out  (t : F) : (spToFV).out [.d (.agg t.enc)] = [.gone] := Spec.of_out spToFV_inj t
theorem toFV_sound : Sound Go.Proofs.Tryd.prog 12 spToFV := Sound.all (μ := fun i => SizeOf.sizeOf i) (fun k => (toF_all k).1)
noncomputable def spEqFV  : Spec := Spec.of (ι := F × F) [false, false] (fun i => [.d (.agg i.1.enc), .d (.agg i.2.enc)]) (fun i => i.1.fit 1048576 ∧ i.2.fit 1048576) (fun i => [.d (.one (.bool (decide (i.1 = i.2))))]) (fun _ => [.gone, .gone])
theorem spEqFV_inj : ∀ i j : F × F, (fun (i : F × F) => ([.d (.agg i.1.enc), .d (.agg i.2.enc)] : List AV)) i = (fun (i : F × F) => ([.d (.agg i.1.enc), .d (.agg i.2.enc)] : List AV)) j → i = j := by
  rintro ⟨a, b⟩ ⟨a', b'⟩ h
  simp only [Prod.mk.injEq]
  simpa [strs_eq, T.enc_eq, encL_eq, F.enc_eq, encF_eq, Tk.enc_eq, encTk_eq, Gn.enc_eq, ints_eq] using h
theorem spEqFV_md  : (spEqFV).md = [false, false] := rfl
theorem spEqFV_pre  (a : F) (b : F) : (spEqFV).pre [.d (.agg a.enc), .d (.agg b.enc)] = (a.fit 1048576 ∧ b.fit 1048576) := Spec.of_pre' spEqFV_inj (a, b)
theorem spEqFV_alts  : (spEqFV).alts = none := rfl
theorem spEqFV_res  (a : F) (b : F) : (spEqFV).res [.d (.agg a.enc), .d (.agg b.enc)] = [.d (.one (.bool (decide (a = b))))] := Spec.of_res spEqFV_inj (a, b)
theorem spEqFV_out  (a : F) (b : F) : (spEqFV).out [.d (.agg a.enc), .d (.agg b.enc)] = [.gone, .gone] := Spec.of_out spEqFV_inj (a, b)
theorem eqFV_sound : Sound Go.Proofs.Tryd.prog 14 spEqFV := Sound.all (μ := fun i => SizeOf.sizeOf i.1) (fun k => (eqF_all k).1)
noncomputable def spLawFT  : Spec := Spec.of (ι := F) [false] (fun i => [.d (.agg i.enc)]) (fun i => i.fit 140737488355328) (fun _ => [.d (.one (.bool true))]) (fun _ => [.gone])
theorem spLawFT_inj : ∀ i j : F, (fun (i : F) => ([.d (.agg i.enc)] : List AV)) i = (fun (i : F) => ([.d (.agg i.enc)] : List AV)) j → i = j := by
  intro g g' h
  simpa [strs_eq, T.enc_eq, encL_eq, F.enc_eq, encF_eq, Tk.enc_eq, encTk_eq, Gn.enc_eq, ints_eq] using h
theorem spLawFT_pre  (g : F) : (spLawFT).pre [.d (.agg g.enc)] = (g.fit 140737488355328) := Spec.of_pre' spLawFT_inj g
theorem spLawFT_res  (g : F) : (spLawFT).res [.d (.agg g.enc)] = [.d (.one (.bool true))] := Spec.of_res spLawFT_inj g
set_option maxHeartbeats 2000000 in
theorem lawFT_sound (hK : tabK) (hW : get? 0 Globs.G = some wtabC) (hG : get? 1 Globs.G = some ktabC) : Sound Go.Proofs.Tryd.prog 4 spLawFT := by
  refine sound_fam (GOK.cons (l := [(12, spToFV), (11, spFiltText), (13, spFiltText), (14, spEqFV)]) call_szFilt szFV_sound (GOK.cons call_toFilt toFV_sound (GOK.cons call_FiltText filtText_sound (GOK.cons call_FiltTextI (filtTextI_sound hK hW hG) (GOK.cons call_eqFilt eqFV_sound GOK.nil))))) Go.Proofs.Tryd.func4 (c := Go.Proofs.Tryd.f4.body.getD .skip) rfl (n := 27) rfl chk_law rs_law (fun _ => by simp) ?_ ?_
  · exact spLawFT_inj
  · intro g h1
    change g.fit 140737488355328 at h1
    have f0 := F.enc_len g
    by_cases c : szF g 1048576 < 0
    · have c' : (szF g 1048576 < 0) = True := eq_true c
      simp only [x_law, go_sem, seval, Prod.fst, rg, f0, c', spSzFV_md, spSzFV_pre, spSzFV_alts, spSzFV_res, spSzFV_out]
      repeat' (first | with_reducible assumption | with_reducible refine And.intro ?_ ?_ | intro _)
      all_goals first | omega | with_reducible assumption | skip
    · have c' : (szF g 1048576 < 0) = False := eq_false c
      obtain ⟨f1, f2, f3⟩ := szF_fit (t := g) (left := 1048576) (by omega) (by omega) h1 (by omega)
      have f4 := szF_le (t := g) (left := 1048576) (by omega)
      simp only [x_law, go_sem, seval, Prod.fst, rg, f0, c', spSzFV_md, spSzFV_pre, spSzFV_alts, spSzFV_res, spSzFV_out, spToFV_md, spToFV_pre, spToFV_alts, spToFV_res, spToFV_out, spFiltText_md, spFiltText_pre, spFiltText_alts, spFiltText_res, spFiltText_out, spEqFV_md, spEqFV_pre, spEqFV_alts, spEqFV_res, spEqFV_out]
      repeat' (first | with_reducible assumption | with_reducible refine And.intro ?_ ?_ | intro _)
      all_goals first | omega | with_reducible assumption | skip
end Go.Proofs.Pw
/- From what a law's arguments are told to be, to what is shown of its run. -/
namespace Go.Proofs.Pw
open Go.RowKit
set_option linter.unusedSectionVars false
/-- All blocks that are there. -/
def Old (w : World) (g : Nat) : Prop := g < w.heap.size
theorem cell_lt {w : World} {a : Addr} {v : Value} (h : w.cell? a = some v) : a.block < w.heap.size := by
  unfold World.cell? at h
  rcases Nat.lt_or_ge a.block w.heap.size with hlt | hge
  · exact hlt
  · rw [Array.getElem?_eq_none hge] at h; simp at h
theorem rep_ints {k : IntKind} {w : World} {a : Option Addr} {len cap : Nat} {zs : List Int}
    (h : (a = none ∧ len = 0 ∧ cap = 0 ∧ zs = []) ∨ ∃ x, a = some x ∧ len ≤ cap ∧ cap ≤ maxLen ∧ zs.length = cap ∧ (∀ i, i < zs.length → w.cell? (x.add i) = some (.int k (zs.getD i 0))) ∧ ∀ n ∈ zs, (Lit.int k n).wf = true) :
    Rep w (Old w) (.row 1 (ints k (zs.take len))) (.slice a len cap) ∧ (zs.take len).length = len ∧ ∀ n ∈ zs.take len, (Lit.int k n).wf = true := by
  rcases h with ⟨rfl, rfl, rfl, rfl⟩ | ⟨x, rfl, hl, hm, hz, hc, hw⟩
  · exact ⟨.nil .., rfl, by simp⟩
  · have hlen : (zs.take len).length = len := by simp; omega
    refine ⟨?_, hlen, fun n hn => hw n (List.mem_of_mem_take hn)⟩
    rcases Nat.eq_zero_or_pos len with h0 | h0
    · subst h0; exact .nil ..
    · have key : ∀ (i j : Nat) e c, (ints k (zs.take len))[i]? = some e → e[j]? = some c → j = 0 ∧ i < zs.length ∧ c = .int k (zs.getD i 0) := fun i j e c he hj => by
        simp only [ints, List.getElem?_map, Option.map_eq_some_iff] at he
        obtain ⟨n, hn, rfl⟩ := he
        rw [List.getElem?_take] at hn
        split at hn
        · cases j with
          | zero => simp at hj; subst hj; exact ⟨rfl, (List.getElem?_eq_some_iff.1 hn).1, by simp [hn]⟩
          | succ j => simp at hj
        · cases hn
      have hel : (ints k (zs.take len)).length = len := by rw [ints_len, hlen]
      have := Rep.row (w := w) (S := Old w) 1 (ints k (zs.take len)) x cap (fun i => .int k (zs.getD i 0)) (by omega) (by
        have := cell_lt (hc 0 (by omega)); rwa [add_block] at this) (fun i e he => by
          simp only [ints, List.getElem?_map, Option.map_eq_some_iff] at he
          obtain ⟨n, _, rfl⟩ := he; rfl) (fun i j e c he hj => by
          obtain ⟨rfl, h1, _⟩ := key i j e c he hj
          simpa using hc i h1) (fun i j e c he hj => by
          obtain ⟨rfl, h1, rfl⟩ := key i j e c he hj
          simpa using Rep.int k (zs.getD i 0))
      rwa [hel] at this
/-- A law that holds of what it is handed, run in whatever world. -/
theorem law_calls [Globs] {P : Program} {f : FuncId} {sp : Spec} (h : Sound P f sp) {args : List AV} (hp : sp.pre args) (ha : sp.alts = none) (hr : sp.res args = [.d (.one (.bool true))]) {W : World} {vs : List Value} (hG : Gl W (Old W))
    (hA : All3 (RepA W (Old W)) args vs (args.map fun _ => fun _ => False)) : Calls P f vs.toArray W fun e w' => e = .returned (.bool true) ∧ Below W.heap.size W w' := by
  refine (h args hp W (Old W) vs _ hG (fun _ h => h) (fun g hg => absurd hg Any_false) Apart_false hA).mono ?_
  rintro e w' ⟨r, o, hro, v, S', rfs, fps', rfl, g1, _, _, _, _, _, g8⟩
  obtain ⟨rfl, rfl⟩ := (Spec.may_none ha).1 hro
  rw [hr] at g1
  refine ⟨?_, ⟨g8.os, g8.tape, g8.output, g8.size, fun k hk => g8.block k hk Any_false⟩⟩
  cases rfs with
  | nil => exact absurd rfl g1.1
  | cons fp r => cases r with
    | nil =>
      obtain ⟨g1, _⟩ := g1
      cases g1; rfl
    | cons _ _ => exact absurd rfl g1.1
end Go.Proofs.Pw
/- Arguments with depth: what they read as, and that they read so still. -/
namespace Go.Proofs.Pw
open Go.RowKit Go.ChangeShapes Go.WideShapes
set_option linter.unusedSectionVars false
section
variable {H : Type} {enc : TypeId × Value → H} {P : Program} {W W' : World} {spare : Nat → Bool} {held : Bool}
theorem trodAll_below (hl : laidOutB P = true) (hb : Below W.heap.size W W') : ∀ {ts : List TypeId} {vs : List Value} {ds : List (DataW H)} {p : List MemPlace}, DataW.TrodAll enc P W 0 (fun _ => true) true ts vs ds p →
    (ts.all fun t => P.readableRec t && decide (t < P.types.size)) = true → (∀ x ∈ p, x.block < W.heap.size) → DataW.TrodAll enc P W' 0 (fun b => decide (b < W.heap.size)) true ts vs ds p := by
  intro ts
  induction ts with
  | nil =>
    intro vs ds p h _ _
    cases vs <;> cases ds <;> first | exact h | exact h.elim
  | cons t ts ih =>
    intro vs ds p h hr hp
    obtain ⟨v, vs', d, ds', p1, q, rfl, rfl, rfl, h1, h2⟩ := trodAll_cons h
    simp only [List.all_cons, Bool.and_eq_true, decide_eq_true_eq] at hr
    exact ⟨p1, q, Below.trod hl hr.1.1 hr.1.2 h1 hb (fun x hx => hp x (by simp [hx])), ih h2 hr.2 (fun x hx => hp x (by simp [hx])), rfl⟩
theorem trodVars_below (hl : laidOutB P = true) (hb : Below W.heap.size W W') : ∀ {ns : List String} {gs : List (DataW H)} {p : List MemPlace}, DataW.TrodVars enc P W (fun _ => true) ns gs p →
    (ns.all fun n => match P.globalNamed n with | some g => (match P.globals[g]? with | some x => P.readableRec x.type && decide (x.type < P.types.size) | none => false) | none => false) = true → (∀ x ∈ p, x.block < W.heap.size) →
    DataW.TrodVars enc P W' (fun b => decide (b < W.heap.size)) ns gs p := by
  intro ns
  induction ns with
  | nil =>
    intro gs p h _ _
    cases gs <;> first | exact h | exact h.elim
  | cons n ns ih =>
    intro gs p h hr hp
    cases gs with
    | nil => exact h.elim
    | cons d gs =>
      obtain ⟨g, t, cs, fuel, p1, q, hg, ht, hv, hd, h2, rfl⟩ := h
      simp only [List.all_cons, Bool.and_eq_true, hg] at hr
      obtain ⟨hr2, hr3⟩ := hr
      have hr1 : g < W.heap.size := by
        unfold World.var? at hv
        simp only [hg, Option.bind_some] at hv
        split at hv
        · rename_i h1; exact (Array.getElem?_eq_some_iff.1 h1).1
        · cases hv
      simp only [Option.map_eq_some_iff] at ht
      obtain ⟨x, hx, rfl⟩ := ht
      simp only [hx, Bool.and_eq_true, decide_eq_true_eq] at hr2
      have hk : DataW.Trod enc P W 0 (fun _ => true) true x.type (.agg cs) d p1 := ⟨fuel, hd⟩
      obtain ⟨fuel', hd'⟩ := Below.trod hl hr2.1 hr2.2 hk hb (fun y hy => hp y (by simp [hy]))
      exact ⟨g, x.type, cs, fuel', p1, q, hg, by rw [hx]; rfl, var?_below hb hg hr1 hv, hd', ih h2 hr3 (fun y hy => hp y (by simp [hy])), rfl⟩
/-- What is left behind a law that gives true, and has turned nothing that was there. -/
theorem law_post {f : Func} {s : ChangeSpec} {args : Array Value} {ds gs : List (DataW H)} {before : List MemPlace} {rt : TypeId} (hl : laidOutB P = true)
    (hW : DataW.Whole enc P f.params.toList s.vars false W args.toList ds gs before) (hrt : f.resultTypes.toList = [rt]) (hrb : P.underlying rt = some .bool) (hsz : f.resultTypes.size = 1)
    (hfn : s.fn H (ds ++ gs) = { results := [.lit (.bool true)], args := ds, vars := gs })
    (hp : (f.params.toList.all fun t => P.readableRec t && decide (t < P.types.size)) = true)
    (hv : (s.vars.all fun n => match P.globalNamed n with | some g => (match P.globals[g]? with | some x => P.readableRec x.type && decide (x.type < P.types.size) | none => false) | none => false) = true)
    (hb : Below W.heap.size W W') : s.post enc P f false true false false W args (.bool true) W' := by
  have hlt := hW.lt
  have hW' := hW
  obtain ⟨p, q, hA, hV, rfl, hfz, hnd⟩ := hW
  refine ⟨ds, gs, _, [], p, q, hW', ?_, ?_, ?_, hb.frame _, fun h => by cases h⟩
  · rw [hfn, hrt, hsz]
    exact trodAll_mk1 (shut_bool hrb _)
  · rw [hfn]; exact trodAll_below hl hb hA hp (fun x hx => hlt x (by simp [hx]))
  · rw [hfn]; exact trodVars_below hl hb hV hv (fun x hx => hlt x (by simp [hx]))
end
end Go.Proofs.Pw
/- What a reading says of the cells: trees. -/
namespace Go.Proofs.Pw
open Go.RowKit Go.ChangeShapes Go.WideShapes
set_option linter.unusedSectionVars false
def RCells (W : World) (cs : List Value) (l : List C) : Prop := cs.length = l.length ∧ ∀ (i : Nat) c, l[i]? = some c → ∃ u, cs[i]? = some u ∧ Rep W (Old W) c u
theorem RCells.append {W : World} {cs cs' : List Value} {l l' : List C} (h : RCells W cs l) (k : RCells W cs' l') : RCells W (cs ++ cs') (l ++ l') := by
  refine ⟨by simp [h.1, k.1], fun i c hi => ?_⟩
  by_cases hlt : i < l.length
  · rw [List.getElem?_append_left hlt] at hi
    obtain ⟨u, h1, h2⟩ := h.2 i c hi
    exact ⟨u, by rw [List.getElem?_append_left (by rw [h.1]; exact hlt)]; exact h1, h2⟩
  · rw [List.getElem?_append_right (by omega)] at hi
    obtain ⟨u, h1, h2⟩ := k.2 _ c hi
    exact ⟨u, by rw [List.getElem?_append_right (by rw [h.1]; omega), h.1]; exact h1, h2⟩
theorem rcells_one {W : World} {c : C} {v : Value} (h : Rep W (Old W) c v) : RCells W [v] [c] := by
  refine ⟨rfl, fun i c' hi => ?_⟩
  cases i with
  | zero => simp at hi; subst hi; exact ⟨v, rfl, h⟩
  | succ i => simp at hi
theorem list_choose {α : Type} {Q : Nat → α → Prop} : ∀ (n : Nat), (∀ i, i < n → ∃ a, Q i a) → ∃ l : List α, l.length = n ∧ ∀ i a, l[i]? = some a → Q i a := by
  intro n
  induction n with
  | zero => intro _; exact ⟨[], rfl, by simp⟩
  | succ n ih =>
    intro h
    obtain ⟨l, h1, h2⟩ := ih (fun i hi => h i (by omega))
    obtain ⟨a, ha⟩ := h n (by omega)
    refine ⟨l ++ [a], by simp [h1], fun i b hi => ?_⟩
    by_cases hlt : i < n
    · rw [List.getElem?_append_left (by omega)] at hi; exact h2 i b hi
    · rw [List.getElem?_append_right (by omega)] at hi
      have : i - l.length = 0 := by
        have := (List.getElem?_eq_some_iff.1 hi).1
        simp at this; omega
      rw [this] at hi; simp at hi; subst hi
      rw [show i = n by omega]; exact ha
section
variable {H : Type} {enc : TypeId × Value → H} {P : Program} {W : World} {spare : Nat → Bool} {held : Bool} {fuel : Nat} {t : TypeId} {cs : List Value} {x : DataW H × List MemPlace}
def WB (P : Program) (t : TypeId) (d : DataW H) : Prop := ∀ n ∈ d.weights P t, n ≤ reachBytes
theorem mem_weightsAll {e : TypeId} {d : DataW H} : ∀ {l : List (DataW H)}, d ∈ l → ∀ n ∈ d.weights P e, n ∈ DataW.weightsAll P e l := by
  intro l
  induction l with
  | nil => intro h; cases h
  | cons y l ih =>
    intro h n hn
    simp only [DataW.weightsAll, List.mem_append]
    rcases List.mem_cons.1 h with rfl | h
    · exact .inl hn
    · exact .inr (ih h n hn)
theorem read_int {k : IntKind} (ht : P.underlying t = some (.int k)) (h : DataW.trod enc P W 0 spare held fuel t cs = some x) : ∃ n, RCells W cs [.int k n] ∧ (Lit.int k n).wf = true := by
  obtain ⟨n, rfl, _, hw⟩ := DataW.trod_int ht h
  exact ⟨n, rcells_one (.int k n), hw⟩
theorem read_str (ht : P.underlying t = some .string) (h : DataW.trod enc P W 0 spare held fuel t cs = some x) (hw : WB P t x.1) : ∃ s, RCells W cs [.str s] ∧ s.size ≤ reachBytes := by
  obtain ⟨s, rfl, rfl, _⟩ := DataW.trod_string ht h
  refine ⟨s, rcells_one (.str s), ?_⟩
  have := hw s.data.toList.length (by simp [DataW.weights])
  simpa using this
theorem read_slice {e : TypeId} {α : Type} (en : α → List C) (Good : α → Prop) {sz : Nat} (ht : P.underlying t = some (.slice e)) (hsz : P.cellsOf e = sz) (h0 : 0 < sz) (hby : 0 < P.bytesOf e)
    (helem : ∀ n cs' (y : DataW H × List MemPlace), n < fuel → DataW.trod enc P W 0 spare held n e cs' = some y → WB P e y.1 → ∃ a, RCells W cs' (en a) ∧ Good a)
    (h : DataW.trod enc P W 0 spare held fuel t cs = some x) (hw : WB P t x.1) : ∃ l : List α, RCells W cs [.row sz (l.map en)] ∧ l.length ≤ reachBytes ∧ ∀ a ∈ l, Good a := by
  subst hsz
  rcases DataW.trod_slice ht h with ⟨rfl, rfl⟩ | ⟨a, len, cap, elems, rest, n, rfl, rfl, rfl, hb, hl, hm, hlen, hel, hsp, hns⟩
  · exact ⟨[], rcells_one (.nil ..), by simp, by simp⟩
  · have hlen2 : len ≤ reachBytes := by
      have := hw ((elems.length + rest.length) * P.bytesOf e) (by simp [DataW.weights, ht])
      have h2 := Nat.le_mul_of_pos_right (elems.length + rest.length) hby
      omega
    have each : ∀ i, i < len → ∃ α' : α, ∃ cs', W.cells? 0 (a.add (i * P.cellsOf e)) (P.cellsOf e) = some cs' ∧ RCells W cs' (en α') ∧ Good α' := fun i hi => by
      have h1 := hel i hi
      rw [List.getElem?_eq_getElem (by omega), Option.bind_eq_some_iff] at h1
      obtain ⟨cs', h2, h3⟩ := h1
      obtain ⟨α', h4, h5⟩ := helem n cs' _ (Nat.lt_succ_self n) h3 (fun m hm => hw m (by
        simp only [DataW.weights, ht, List.mem_cons, List.mem_append]
        exact .inr (.inl (mem_weightsAll (List.mem_map.2 ⟨_, List.getElem_mem (by omega), rfl⟩) m hm))))
      exact ⟨α', cs', h2, h4, h5⟩
    obtain ⟨l, hl1, hl2⟩ := list_choose len each
    refine ⟨l, rcells_one ?_, by omega, fun b hb => ?_⟩
    · rcases Nat.eq_zero_or_pos len with h0' | h0'
      · subst h0'
        have : l = [] := List.eq_nil_of_length_eq_zero hl1
        subst this; exact .nil ..
      · have key : ∀ (i j : Nat) e' c, (l.map en)[i]? = some e' → e'[j]? = some c → W.cell? (a.add (i * P.cellsOf e + j)) = some ((W.cell? (a.add (i * P.cellsOf e + j))).getD undef) ∧ Rep W (Old W) c ((W.cell? (a.add (i * P.cellsOf e + j))).getD undef) := fun i j e' c he hj => by
          simp only [List.getElem?_map, Option.map_eq_some_iff] at he
          obtain ⟨b, hb, rfl⟩ := he
          obtain ⟨cs', h1, h2, _⟩ := hl2 i b hb
          obtain ⟨u, h3, h4⟩ := h2.2 j c hj
          obtain ⟨_, h5, h6⟩ := World.cells?_some h1
          have hj' : j < P.cellsOf e := by rw [← h5]; exact (List.getElem?_eq_some_iff.1 h3).1
          have h7 := h6 j hj'
          rw [add_add] at h7
          rw [h3] at h7
          rw [h7]; exact ⟨rfl, h4⟩
        have := Rep.row (w := W) (S := Old W) (P.cellsOf e) (l.map en) a cap (fun k => (W.cell? (a.add k)).getD undef) (by simp; omega) (by
          obtain ⟨b, hb⟩ : ∃ b, l[0]? = some b := ⟨l[0], by simp⟩
          obtain ⟨cs', h1, h2, _⟩ := hl2 0 b hb
          obtain ⟨_, h5, h6⟩ := World.cells?_some h1
          have h7 := h6 0 h0
          rw [List.getElem?_eq_getElem (by omega)] at h7
          have := cell_lt h7
          rwa [add_block, add_block] at this) (fun i e' he => by
          simp only [List.getElem?_map, Option.map_eq_some_iff] at he
          obtain ⟨b, hb, rfl⟩ := he
          obtain ⟨cs', h1, h2, _⟩ := hl2 i b hb
          obtain ⟨_, h5, _⟩ := World.cells?_some h1
          rw [← h2.1, h5]) (fun i j e' c he hj => (key i j e' c he hj).1) (fun i j e' c he hj => (key i j e' c he hj).2)
        rw [List.length_map, hl1] at this
        exact this
    · obtain ⟨i, hi⟩ := List.getElem?_of_mem hb
      obtain ⟨_, _, _, h⟩ := hl2 i b hi
      exact h
end
theorem rc_step {W : World} {cs : List Value} {o n : Nat} {l l' : List C} (h : RCells W ((cs.drop o).take n) l) (k : RCells W (cs.drop (o + n)) l') : RCells W (cs.drop o) (l ++ l') := by
  have := h.append k
  rwa [show cs.drop (o + n) = (cs.drop o).drop n by rw [List.drop_drop], List.take_append_drop] at this
theorem rc_end {W : World} {cs : List Value} {o : Nat} (h : cs.length = o) : RCells W (cs.drop o) [] := by
  subst h; rw [List.drop_length]; exact ⟨rfl, by simp⟩
theorem fitL_ofV {B : Int} {l : List T} (h : ∀ t ∈ l, t.fit B) : fitL B l := by
  induction l with
  | nil => exact trivial
  | cons x l ih => exact ⟨h x (by simp), ih (fun t ht => h t (by simp [ht]))⟩
theorem fitF_ofV {B : Int} {l : List F} (h : ∀ t ∈ l, t.fit B) : fitF B l := by
  induction l with
  | nil => exact trivial
  | cons x l ih => exact ⟨h x (by simp), ih (fun t ht => h t (by simp [ht]))⟩
theorem wf_i64 {n : Int} (h : (Lit.int .i64 n).wf = true) : i64 n := by
  simp only [Lit.wf, Bool.and_eq_true, decide_eq_true_eq] at h
  simp only [IntKind.min, IntKind.max, IntKind.signed, IntKind.bits] at h
  unfold i64; simp at h; omega
section
variable {H : Type} {enc : TypeId × Value → H} {P : Program} {W : World} {spare : Nat → Bool} {held : Bool}
theorem read_fields {fuel : Nat} {t : TypeId} {cs : List Value} {x : DataW H × List MemPlace} {fs : Array Field} {l : List (TypeId × Nat)} (ht : P.underlying t = some (.struct fs)) (hfs : fs.toList.map (fun f => (f.type, f.offset)) = l)
    (h : DataW.trod enc P W 0 spare held fuel t cs = some x) (hw : WB P t x.1) : cs.length = P.cellsOf t ∧ ∃ n, n < fuel ∧ ∀ (i : Nat) ty off, l[i]? = some (ty, off) →
      ∃ y, DataW.trod enc P W 0 spare held n ty ((cs.drop off).take (P.cellsOf ty)) = some y ∧ WB P ty y.1 := by
  obtain ⟨xs, n, rfl, rfl, h1, h2, h3⟩ := DataW.trod_struct ht h
  refine ⟨h1, n, Nat.lt_succ_self n, fun i ty off hi => ?_⟩
  rw [← hfs] at hi
  simp only [List.getElem?_map, Option.map_eq_some_iff] at hi
  obtain ⟨f, hf, he⟩ := hi
  cases he
  have hf' : fs[i]? = some f := by simpa using hf
  have h4 := h3 i f hf'
  have hlt : i < xs.length := by rw [h2]; exact (Array.getElem?_eq_some_iff.1 hf').1
  rw [List.getElem?_eq_getElem hlt] at h4
  refine ⟨_, h4, fun m hm => hw m ?_⟩
  simp only [DataW.weights, ht]
  exact DataW.weights_mem_each (j := i) (t := f.type) (d := (xs[i]).1) (by simp [hf]) (by simp [hlt]) m hm
/-- The types of trees. -/
structure TyT (P : Program) (tI tS tK tV tL : TypeId) : Prop where
  i : P.underlying tI = some (.int .i64)
  s : P.underlying tS = some .string
  k : P.underlying tK = some (.slice tS)
  v : ∃ fs, P.underlying tV = some (.struct fs) ∧ fs.toList.map (fun f => (f.type, f.offset)) = [(tI, 0), (tI, 1), (tS, 2), (tK, 3), (tL, 4)]
  l : P.underlying tL = some (.slice tV)
  c : P.cellsOf tI = 1 ∧ P.cellsOf tS = 1 ∧ P.cellsOf tK = 1 ∧ P.cellsOf tV = 5 ∧ P.cellsOf tL = 1
  b : 0 < P.bytesOf tS ∧ 0 < P.bytesOf tV
variable {tI tS tK tV tL : TypeId}
theorem reach_le {n : Nat} (h : n ≤ reachBytes) : lenB 140737488355328 n := by unfold lenB; have := reachBytes_lt; omega
theorem read_T (T0 : TyT P tI tS tK tV tL) : ∀ (fuel : Nat) (cs : List Value) (x : DataW H × List MemPlace), DataW.trod enc P W 0 spare held fuel tV cs = some x → WB P tV x.1 →
    ∃ t : T, RCells W cs t.enc ∧ t.fit 140737488355328 := by
  intro fuel
  induction fuel using Nat.strongRecOn with
  | ind fuel ih =>
    intro cs x h hw
    obtain ⟨fs, hv, hfs⟩ := T0.v
    obtain ⟨c1, c2, c3, c4, c5⟩ := T0.c
    obtain ⟨hlen, n, hn, hf⟩ := read_fields hv hfs h hw
    obtain ⟨y0, k0, w0⟩ := hf 0 tI 0 rfl
    obtain ⟨y1, k1, w1⟩ := hf 1 tI 1 rfl
    obtain ⟨y2, k2, w2⟩ := hf 2 tS 2 rfl
    obtain ⟨y3, k3, w3⟩ := hf 3 tK 3 rfl
    obtain ⟨y4, k4, w4⟩ := hf 4 tL 4 rfl
    rw [c1] at k0 k1; rw [c2] at k2; rw [c3] at k3; rw [c5] at k4
    obtain ⟨kk, r0, f0⟩ := read_int T0.i k0
    obtain ⟨nn, r1, f1⟩ := read_int T0.i k1
    obtain ⟨s, r2, f2⟩ := read_str T0.s k2 w2
    obtain ⟨ks, r3, f3, f3'⟩ := read_slice (fun s : ByteArray => [C.str s]) (fun s => s.size ≤ reachBytes) T0.k c2 (by omega) T0.b.1 (fun n cs' y _ h hw => read_str T0.s h hw) k3 w3
    obtain ⟨l, r4, f4, f4'⟩ := read_slice T.enc (fun t => t.fit 140737488355328) T0.l c4 (by omega) T0.b.2 (fun m cs' y hm h hw => ih m (by omega) cs' y h hw) k4 w4
    refine ⟨.mk kk nn s ks l, ?_, ?_⟩
    · have e : RCells W (cs.drop 0) (T.mk kk nn s ks l).enc := by
        have h5 := rc_step r4 (rc_end (o := 4 + 1) (by rw [hlen, c4]))
        have h4 := rc_step r3 h5
        have h3 := rc_step r2 h4
        have h2 := rc_step r1 h3
        have h1 := rc_step r0 h2
        simpa [T.enc, strs, encL_map] using h1
      simpa using e
    · exact ⟨wf_i64 f0, wf_i64 f1, reach_le f2, ⟨reach_le f3, fun s hs => reach_le (f3' s hs)⟩, reach_le f4, fitL_ofV f4'⟩
theorem rcells_agg {us : Array Value} {l : List C} (h : RCells W us.toList l) : RepD W (Old W) (.agg l) (.agg us) :=
  ⟨us, rfl, by simpa using h.1, fun i c hi => by obtain ⟨u, h1, h2⟩ := h.2 i c hi; exact ⟨u, by simpa using h1, h2⟩⟩
end
end Go.Proofs.Pw
/- What a reading says of the cells: filters. -/
namespace Go.Proofs.Pw
open Go.RowKit Go.ChangeShapes Go.WideShapes
set_option linter.unusedSectionVars false
section
variable {H : Type} {enc : TypeId × Value → H} {P : Program} {W : World} {spare : Nat → Bool} {held : Bool} {tI tS tK tV tL tF tG : TypeId}
structure TyF (P : Program) (tI tS tK tV tL tF tG : TypeId) : Prop where
  t : TyT P tI tS tK tV tL
  f : ∃ fs, P.underlying tF = some (.struct fs) ∧ fs.toList.map (fun f => (f.type, f.offset)) = [(tI, 0), (tI, 1), (tS, 2), (tV, 3), (tG, 8)]
  g : P.underlying tG = some (.slice tF)
  c : P.cellsOf tF = 9 ∧ P.cellsOf tG = 1
  b : 0 < P.bytesOf tF
theorem read_F (T0 : TyF P tI tS tK tV tL tF tG) : ∀ (fuel : Nat) (cs : List Value) (x : DataW H × List MemPlace), DataW.trod enc P W 0 spare held fuel tF cs = some x → WB P tF x.1 →
    ∃ t : F, RCells W cs t.enc ∧ t.fit 140737488355328 := by
  intro fuel
  induction fuel using Nat.strongRecOn with
  | ind fuel ih =>
    intro cs x h hw
    obtain ⟨fs, hv, hfs⟩ := T0.f
    obtain ⟨c1, c2, c3, c4, c5⟩ := T0.t.c
    obtain ⟨c6, c7⟩ := T0.c
    obtain ⟨hlen, n, hn, hf⟩ := read_fields hv hfs h hw
    obtain ⟨y0, k0, w0⟩ := hf 0 tI 0 rfl
    obtain ⟨y1, k1, w1⟩ := hf 1 tI 1 rfl
    obtain ⟨y2, k2, w2⟩ := hf 2 tS 2 rfl
    obtain ⟨y3, k3, w3⟩ := hf 3 tV 3 rfl
    obtain ⟨y4, k4, w4⟩ := hf 4 tG 8 rfl
    rw [c1] at k0 k1; rw [c2] at k2; rw [c4] at k3; rw [c7] at k4
    obtain ⟨kk, r0, f0⟩ := read_int T0.t.i k0
    obtain ⟨nn, r1, f1⟩ := read_int T0.t.i k1
    obtain ⟨s, r2, f2⟩ := read_str T0.t.s k2 w2
    obtain ⟨v, r3, f3⟩ := read_T T0.t n _ _ k3 w3
    obtain ⟨l, r4, f4, f4'⟩ := read_slice F.enc (fun t => t.fit 140737488355328) T0.g c6 (by omega) T0.b (fun m cs' y hm h hw => ih m (by omega) cs' y h hw) k4 w4
    refine ⟨.mk kk nn s v l, ?_, ?_⟩
    · have e : RCells W (cs.drop 0) (F.mk kk nn s v l).enc := by
        have h5 := rc_step r4 (rc_end (o := 8 + 1) (by rw [hlen, c6]))
        have h4 := rc_step (o := 3) (n := 5) r3 h5
        have h3 := rc_step r2 h4
        have h2 := rc_step r1 h3
        have h1 := rc_step r0 h2
        simpa [F.enc, encF_map] using h1
      simpa using e
    · exact ⟨wf_i64 f0, wf_i64 f1, reach_le f2, f3, reach_le f4, fitF_ofV f4'⟩
end
end Go.Proofs.Pw
/- What a law is told of a row of octets. -/
namespace Go.Proofs.Pw
def bytes (bs : List Int) : Prop := (∀ b ∈ bs, 0 ≤ b ∧ b ≤ 255) ∧ lenB 140737488355328 bs.length
end Go.Proofs.Pw
/- A row of octets handed over. -/
namespace Go.Proofs.Pw
open Go.RowKit Go.ChangeShapes Go.WideShapes
set_option linter.unusedSectionVars false
section
variable {H : Type} {enc : TypeId × Value → H} {P : Program} {W : World}
end
end Go.Proofs.Pw
/- A listed table reads as it is told. -/
namespace Go.Proofs.Pw
open Go.RowKit Go.ChangeShapes Go.WideShapes
set_option linter.unusedSectionVars false
theorem lits_inj {H : Type} {k : IntKind} : ∀ {a b : List Int}, lits (H := H) k a = lits k b → a = b := by
  intro a
  induction a with
  | nil => intro b h; cases b with
    | nil => rfl
    | cons _ _ => simp [lits] at h
  | cons x a ih => intro b h; cases b with
    | nil => simp [lits] at h
    | cons y b =>
      simp only [lits, List.map_cons, List.cons.injEq, DataW.lit.injEq, Lit.int.injEq, true_and] at h
      rw [h.1, ih h.2]
/-- A listed slice of whole numbers. -/
theorem laid_ints {P : Program} {W : World} {nm : String} {d : DataW Unit} {ns : List Int} {r : List (String × DataW Unit)} {ps : List MemPlace} {g : Nat} {t e : TypeId} {k : IntKind} (hg : P.globalNamed nm = some g) (ht : (P.globals[g]?).map (·.type) = some t)
    (hu : P.underlying t = some (.slice e)) (he : P.underlying e = some (.int k)) (hc : P.cellsOf e = 1) (hd : d = .slice (lits k ns) []) (h : DataW.LaidVars P W ((nm, d) :: r) ps) :
    (Old W g ∧ ∃ u, W.cell? ⟨g, 0, none⟩ = some u ∧ Rep W (Old W) (.row 1 (ints k ns)) u) ∧ ∃ ps', DataW.LaidVars P W r ps' := by
  obtain ⟨g', t', cs, fuel, p, q, hg', ht', hv, htr, hr, _⟩ := h
  obtain rfl := Option.some.inj (hg.symm.trans hg')
  obtain rfl := Option.some.inj (ht.symm.trans ht')
  refine ⟨?_, q, hr⟩
  subst hd
  rcases open_ints hu he hc htr with ⟨_, hx⟩ | ⟨x, l, c, zs, hcs, _, hl, hm, hz, hx, hcell, hwz⟩
  · simp at hx
  · simp only [Prod.mk.injEq, DataW.slice.injEq] at hx
    have hns := lits_inj hx.1.1
    have h0 : W.cell? ⟨g, 0, none⟩ = some (.slice (some x) l c) := by
      have := World.var?_cell hg hv 0
      rw [Array.eq_one_of_toList hcs] at this
      simpa using this
    have hrep := (rep_ints (w := W) (a := some x) (len := l) (cap := c) (zs := zs) (.inr ⟨x, rfl, hl, hm, by simpa using hz, hcell, hwz⟩)).1
    rw [← hns] at hrep
    exact ⟨cell_lt h0, _, h0, hrep⟩
end Go.Proofs.Pw
/- Listed arrays of numbers and lists of texts read as they are told. -/
namespace Go.Proofs.Pw
open Go.RowKit Go.ChangeShapes Go.WideShapes
set_option linter.unusedSectionVars false
theorem laid_rest {P : Program} {W : World} {x : String × DataW Unit} {r : List (String × DataW Unit)} {ps : List MemPlace} (h : DataW.LaidVars P W (x :: r) ps) : ∃ ps', DataW.LaidVars P W r ps' := by
  obtain ⟨g', t', cs, fuel, p, q, hg', ht', hv, htr, hr, _⟩ := h
  exact ⟨q, hr⟩
/-- A listed array of whole numbers. -/
theorem laid_tab {P : Program} {W : World} {nm : String} {d : DataW Unit} {ns : List Int} {r : List (String × DataW Unit)} {ps : List MemPlace} {g n : Nat} {t e : TypeId} {k : IntKind} (hg : P.globalNamed nm = some g) (ht : (P.globals[g]?).map (·.type) = some t)
    (hu : P.underlying t = some (.array n e)) (he : P.underlying e = some (.int k)) (hc : P.cellsOf e = 1) (hct : P.cellsOf t = n) (hd : d = Lib.tabData k ns) (h : DataW.LaidVars P W ((nm, d) :: r) ps) :
    Old W g ∧ ∃ ty x, W.heap[g]? = some (.cells (ns.map fun z => Value.int k z).toArray ty x) := by
  obtain ⟨g', t', cs, fuel, p, q, hg', ht', hv, htr, hr, _⟩ := h
  obtain rfl := Option.some.inj (hg.symm.trans hg')
  obtain rfl := Option.some.inj (ht.symm.trans ht')
  subst hd
  have hcs := Lib.cells_of_tab hu he hc hct htr
  have hcs' : cs = (ns.map fun z => Value.int k z).toArray := by rw [← hcs]
  unfold World.var? at hv
  rw [hg] at hv
  simp only [Option.bind_some] at hv
  split at hv
  · rename_i cs' ty x hh
    cases hv
    refine ⟨?_, ty, x, by rw [hh, hcs']⟩
    rcases Nat.lt_or_ge g W.heap.size with h | h
    · exact h
    · rw [Array.getElem?_eq_none h] at hh; cases hh
  · cases hv
/-- A listed slice of texts. -/
theorem laid_strs {P : Program} {W : World} {nm : String} {d : DataW Unit} {ws : List ByteArray} {r : List (String × DataW Unit)} {ps : List MemPlace} {g : Nat} {t e : TypeId} (hg : P.globalNamed nm = some g) (ht : (P.globals[g]?).map (·.type) = some t)
    (hu : P.underlying t = some (.slice e)) (he : P.underlying e = some .string) (hc : P.cellsOf e = 1) (h0 : 0 < ws.length) (hd : d = .slice (ws.map fun s => .lit (.string s.data.toList)) []) (h : DataW.LaidVars P W ((nm, d) :: r) ps) :
    Old W g ∧ ∃ u, W.cell? ⟨g, 0, none⟩ = some u ∧ Rep W (Old W) (.row 1 (strs ws)) u := by
  obtain ⟨g', t', cs, fuel, p, q, hg', ht', hv, htr, hr, _⟩ := h
  obtain rfl := Option.some.inj (hg.symm.trans hg')
  obtain rfl := Option.some.inj (ht.symm.trans ht')
  subst hd
  obtain ⟨a, cap, hcs, hle, hcell⟩ := open_row hu hc htr
  rw [List.length_map] at hcs hle
  have key : ∀ (i : Nat) s, ws[i]? = some s → W.cell? (a.add i) = some (.string s) := fun i s hs => by
    obtain ⟨v, n, q', hv', htv⟩ := hcell i (.lit (.string s.data.toList)) (by simp [hs])
    obtain ⟨s', hs1, hs2, _⟩ := DataW.trod_string he htv
    simp only [List.cons.injEq, and_true] at hs1
    simp only [Prod.mk.injEq, DataW.lit.injEq, Lit.string.injEq] at hs2
    rw [hv', hs1]
    have e : s' = s := by
      have := hs2.1
      cases s; cases s'
      simp at this
      rw [this]
    rw [e]
  have hcc := World.var?_cell hg hv 0
  rw [Array.eq_one_of_toList hcs] at hcc
  have hcc' : W.cell? ⟨g, 0, none⟩ = some (.slice (some a) ws.length cap) := by simpa using hcc
  refine ⟨cell_lt hcc', _, hcc', ?_⟩
  have hl : (strs ws).length = ws.length := strs_len ws
  have hk : ∀ (i j : Nat) e' c, (strs ws)[i]? = some e' → e'[j]? = some c → ∃ s, ws[i]? = some s ∧ j = 0 ∧ c = .str s := fun i j e' c he' hj => by
    simp only [strs, List.getElem?_map, Option.map_eq_some_iff] at he'
    obtain ⟨s, hs, rfl⟩ := he'
    cases j with
    | zero => simp at hj; exact ⟨s, hs, rfl, hj.symm⟩
    | succ j => simp at hj
  have := Rep.row (w := W) (S := Old W) 1 (strs ws) a cap (fun i => .string (ws.getD i ⟨#[]⟩)) (by omega) (by
    have := cell_lt (key 0 ws[0] (by simp [h0])); rwa [add_block] at this) (fun i e' he' => by
      simp only [strs, List.getElem?_map, Option.map_eq_some_iff] at he'
      obtain ⟨s, _, rfl⟩ := he'; rfl) (fun i j e' c he' hj => by
      obtain ⟨s, h1, rfl, rfl⟩ := hk i j e' c he' hj
      have := key i s h1
      simp only [Nat.mul_one, Nat.add_zero]
      rw [this]
      simp [List.getD, h1]) (fun i j e' c he' hj => by
      obtain ⟨s, h1, rfl, rfl⟩ := hk i j e' c he' hj
      have e2 : ws.getD (i * 1 + 0) ⟨#[]⟩ = s := by simp [List.getD, h1]
      simp only [e2]
      exact Rep.str s)
  rwa [hl] at this
end Go.Proofs.Pw
