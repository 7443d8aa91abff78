/- Ways in the laws' text: their size, copies that nobody else holds, equality, marks. -/
import Derived.Test.YtlgjkdaembipoaaDoorPwT13
import Derived.Test.YtlgjkdaembipoaaDoorPwT15
import Derived.Test.YtlgjkdaembipoaaDoorPwT9
import Derived.Test.YtlgjkdaembipoaaDoorProg
import Derived.KernelRfl
set_option linter.unusedSimpArgs false
set_option linter.unusedVariables false
set_option linter.unusedSimpArgs false
set_option maxRecDepth 20000
namespace Go.Proofs.Pw
set_option linter.unusedSectionVars false
variable [Globs]
def x_szStep : X := (.seq (.reg [⟨some 2, none, .box (.t 0) (some 3)⟩, ⟨some 4, none, .mv (.k (.c (.int .i64 0)))⟩] none [1, 2]) (.seq (.reg [⟨some 5, none, .mv (.t 1)⟩, ⟨some 6, none, .fa (.t 2) 1⟩, ⟨some 7, none, .load (.t 6) none⟩, ⟨some 8, none, .len (.t 7) true⟩, ⟨some 9, none, .bin false .sub (.t 5) (.t 8)⟩, ⟨some 1, none, .mv (.t 9)⟩] none [1]) (.seq (.seq (.reg [⟨some 10, none, .mv (.t 1)⟩, ⟨some 11, none, .bin false .lss (.t 10) (.k (.c (.int .i64 0)))⟩] none [1, 11]) (.cond (.t 11) (.seq (.reg [⟨some 4, none, .mv (.k (.c (.int .i64 (-1))))⟩] none [4]) .ret) .skip)) (.seq (.reg [⟨some 12, none, .mv (.t 1)⟩, ⟨some 4, none, .mv (.t 12)⟩] none [4]) .ret))))
theorem chk_szStep : chkX Go.Proofs.Tryd.prog 13 (Go.Proofs.Tryd.f53.body.getD .skip) x_szStep = true := by kernel_rfl
theorem rs_szStep : okRs Go.Proofs.Tryd.prog Go.Proofs.Tryd.f53.results.toList [.tmp 4] = true := by kernel_rfl
theorem call_szStep : okCallee Go.Proofs.Tryd.prog 53 = true := by kernel_rfl
def x_szStepS : X := (.seq (.reg [⟨some 4, none, .mv (.k (.c (.int .i64 0)))⟩] none [0, 1]) (.seq (.reg [⟨some 6, none, .mv (.t 1)⟩, ⟨some 7, none, .mv (.t 0)⟩, ⟨some 8, none, .len (.t 7) false⟩, ⟨some 9, none, .bin false .sub (.t 6) (.t 8)⟩, ⟨some 1, none, .mv (.t 9)⟩] none [0, 1]) (.seq (.seq (.reg [⟨some 10, none, .mv (.t 1)⟩, ⟨some 11, none, .bin false .lss (.t 10) (.k (.c (.int .i64 0)))⟩] none [0, 1, 11]) (.cond (.t 11) (.seq (.reg [⟨some 4, none, .mv (.k (.c (.int .i64 (-1))))⟩] none [4]) .ret) .skip)) (.seq (.seq (.reg [⟨some 5, none, .mv (.k (.c (.int .i64 0)))⟩] none [0, 1, 5]) (.block 0 (.loop (.seq (.seq (.reg [⟨some 12, none, .mv (.t 5)⟩, ⟨some 13, none, .mv (.t 0)⟩, ⟨some 14, none, .len (.t 13) false⟩, ⟨some 15, none, .bin false .lss (.t 12) (.t 14)⟩] none [0, 1, 5, 15]) (.cond (.t 15) .skip (.exit 0))) (.seq (.block 1 (.seq (.reg [⟨some 18, none, .mv (.t 0)⟩, ⟨some 19, none, .mv (.t 5)⟩, ⟨some 20, none, .ia (.t 18) (.t 19) 3⟩, ⟨some 21, none, .load (.t 20) (some 3)⟩, ⟨some 22, none, .mv (.t 1)⟩, ⟨some 23, none, .call 53 [(.t 21), (.t 22)]⟩, ⟨some 1, none, .mv (.t 23)⟩] none [0, 1, 5]) (.seq (.reg [⟨some 24, none, .mv (.t 1)⟩, ⟨some 25, none, .bin false .lss (.t 24) (.k (.c (.int .i64 0)))⟩] none [0, 1, 5, 25]) (.cond (.t 25) (.seq (.reg [⟨some 4, none, .mv (.k (.c (.int .i64 (-1))))⟩] none [4]) .ret) .skip)))) (.reg [⟨some 16, none, .mv (.t 5)⟩, ⟨some 17, none, .bin false .add (.t 16) (.k (.c (.int .i64 1)))⟩, ⟨some 5, none, .mv (.t 17)⟩] none [0, 1, 5])))))) (.seq (.reg [⟨some 26, none, .mv (.t 1)⟩, ⟨some 4, none, .mv (.t 26)⟩] none [4]) .ret)))))
theorem chk_szStepS : chkX Go.Proofs.Tryd.prog 27 (Go.Proofs.Tryd.f33.body.getD .skip) x_szStepS = true := by kernel_rfl
theorem rs_szStepS : okRs Go.Proofs.Tryd.prog Go.Proofs.Tryd.f33.results.toList [.tmp 4] = true := by kernel_rfl
theorem call_szStepS : okCallee Go.Proofs.Tryd.prog 33 = true := by kernel_rfl
def x_toStep : X := (.seq (.reg [⟨some 1, none, .box (.t 0) (some 3)⟩, ⟨some 2, none, .alloc [(.c (.bool false)), (.c (.str ⟨#[]⟩)), (.c (.int .i64 0))]⟩] none [1, 2]) (.seq (.reg [⟨some 3, none, .alloc [(.c (.bool false)), (.c (.str ⟨#[]⟩)), (.c (.int .i64 0))]⟩] none [1, 2, 3]) (.seq (.reg [⟨some 4, none, .fa (.t 1) 0⟩, ⟨some 5, none, .load (.t 4) none⟩, ⟨some 6, none, .fa (.t 3) 0⟩, ⟨none, none, .st (.t 6) (.t 5) none⟩] none [1, 2, 3]) (.seq (.reg [⟨some 7, none, .fa (.t 1) 1⟩, ⟨some 8, none, .load (.t 7) none⟩, ⟨some 9, none, .fa (.t 3) 1⟩, ⟨none, none, .st (.t 9) (.t 8) none⟩] none [1, 2, 3]) (.seq (.reg [⟨some 10, none, .fa (.t 1) 2⟩, ⟨some 11, none, .load (.t 10) none⟩, ⟨some 12, none, .fa (.t 3) 2⟩, ⟨none, none, .st (.t 12) (.t 11) none⟩] none [2, 3]) (.seq (.reg [⟨some 13, none, .load (.t 3) (some 3)⟩, ⟨none, none, .st (.t 2) (.t 13) (some 3)⟩] none [2]) .ret))))))
theorem chk_toStep : chkX Go.Proofs.Tryd.prog 14 (Go.Proofs.Tryd.f58.body.getD .skip) x_toStep = true := by kernel_rfl
theorem rs_toStep : okRs Go.Proofs.Tryd.prog Go.Proofs.Tryd.f58.results.toList [.cell 2 (some 3)] = true := by kernel_rfl
theorem call_toStep : okCallee Go.Proofs.Tryd.prog 58 = true := by kernel_rfl
def x_toStepS : X := (.seq (.reg [⟨some 2, none, .mv (.k (.z 3))⟩] none [0]) (.seq (.reg [⟨some 5, none, .mv (.t 0)⟩, ⟨some 6, none, .len (.t 5) false⟩, ⟨some 7, none, .mk (.t 6) [(.bool false), (.str ⟨#[]⟩), (.int .i64 0)] 32⟩, ⟨some 3, none, .mv (.t 7)⟩] none [0, 3]) (.seq (.seq (.reg [⟨some 4, none, .mv (.k (.c (.int .i64 0)))⟩] none [0, 3, 4]) (.block 0 (.loop (.seq (.seq (.reg [⟨some 8, none, .mv (.t 4)⟩, ⟨some 9, none, .mv (.t 0)⟩, ⟨some 10, none, .len (.t 9) false⟩, ⟨some 11, none, .bin false .lss (.t 8) (.t 10)⟩] none [0, 3, 4, 11]) (.cond (.t 11) .skip (.exit 0))) (.seq (.block 1 (.reg [⟨some 14, none, .mv (.t 3)⟩, ⟨some 15, none, .mv (.t 4)⟩, ⟨some 16, none, .mv (.t 0)⟩, ⟨some 17, none, .mv (.t 4)⟩, ⟨some 18, none, .ia (.t 16) (.t 17) 3⟩, ⟨some 19, none, .load (.t 18) (some 3)⟩, ⟨some 20, none, .call 58 [(.t 19)]⟩, ⟨some 21, none, .ia (.t 14) (.t 15) 3⟩, ⟨none, none, .st (.t 21) (.t 20) (some 3)⟩] none [0, 3, 4])) (.reg [⟨some 12, none, .mv (.t 4)⟩, ⟨some 13, none, .bin false .add (.t 12) (.k (.c (.int .i64 1)))⟩, ⟨some 4, none, .mv (.t 13)⟩] none [0, 3, 4])))))) (.seq (.reg [⟨some 22, none, .mv (.t 3)⟩, ⟨some 2, none, .mv (.t 22)⟩] none [2]) .ret))))
theorem chk_toStepS : chkX Go.Proofs.Tryd.prog 23 (Go.Proofs.Tryd.f37.body.getD .skip) x_toStepS = true := by kernel_rfl
theorem rs_toStepS : okRs Go.Proofs.Tryd.prog Go.Proofs.Tryd.f37.results.toList [.tmp 2] = true := by kernel_rfl
theorem call_toStepS : okCallee Go.Proofs.Tryd.prog 37 = true := by kernel_rfl
def x_eqStep : X := (.seq (.reg [⟨some 2, none, .box (.t 0) (some 3)⟩, ⟨some 3, none, .box (.t 1) (some 3)⟩, ⟨some 4, none, .mv (.k (.c (.bool false)))⟩] none [2, 3]) (.seq (.seq (.reg [⟨some 5, none, .fa (.t 2) 0⟩, ⟨some 6, none, .load (.t 5) none⟩, ⟨some 7, none, .fa (.t 3) 0⟩, ⟨some 8, none, .load (.t 7) none⟩, ⟨some 9, none, .bin true .neq (.t 6) (.t 8)⟩] none [2, 3, 9]) (.cond (.t 9) (.seq (.reg [⟨some 4, none, .mv (.k (.c (.bool false)))⟩] none [4]) .ret) .skip)) (.seq (.seq (.reg [⟨some 10, none, .fa (.t 2) 1⟩, ⟨some 11, none, .load (.t 10) none⟩, ⟨some 12, none, .fa (.t 3) 1⟩, ⟨some 13, none, .load (.t 12) none⟩, ⟨some 14, none, .bin false .neq (.t 11) (.t 13)⟩] none [2, 3, 14]) (.cond (.t 14) (.seq (.reg [⟨some 4, none, .mv (.k (.c (.bool false)))⟩] none [4]) .ret) .skip)) (.seq (.seq (.reg [⟨some 15, none, .fa (.t 2) 2⟩, ⟨some 16, none, .load (.t 15) none⟩, ⟨some 17, none, .fa (.t 3) 2⟩, ⟨some 18, none, .load (.t 17) none⟩, ⟨some 19, none, .bin false .neq (.t 16) (.t 18)⟩] none [19]) (.cond (.t 19) (.seq (.reg [⟨some 4, none, .mv (.k (.c (.bool false)))⟩] none [4]) .ret) .skip)) (.seq (.reg [⟨some 4, none, .mv (.k (.c (.bool true)))⟩] none [4]) .ret)))))
theorem chk_eqStep : chkX Go.Proofs.Tryd.prog 20 (Go.Proofs.Tryd.f64.body.getD .skip) x_eqStep = true := by kernel_rfl
theorem rs_eqStep : okRs Go.Proofs.Tryd.prog Go.Proofs.Tryd.f64.results.toList [.tmp 4] = true := by kernel_rfl
theorem call_eqStep : okCallee Go.Proofs.Tryd.prog 64 = true := by kernel_rfl
def x_eqStepS : X := (.seq (.reg [⟨some 4, none, .mv (.k (.c (.bool false)))⟩] none [0, 1]) (.seq (.seq (.reg [⟨some 6, none, .mv (.t 0)⟩, ⟨some 7, none, .len (.t 6) false⟩, ⟨some 8, none, .mv (.t 1)⟩, ⟨some 9, none, .len (.t 8) false⟩, ⟨some 10, none, .bin false .neq (.t 7) (.t 9)⟩] none [0, 1, 10]) (.cond (.t 10) (.seq (.reg [⟨some 4, none, .mv (.k (.c (.bool false)))⟩] none [4]) .ret) .skip)) (.seq (.seq (.reg [⟨some 5, none, .mv (.k (.c (.int .i64 0)))⟩] none [0, 1, 5]) (.block 0 (.loop (.seq (.seq (.reg [⟨some 11, none, .mv (.t 5)⟩, ⟨some 12, none, .mv (.t 0)⟩, ⟨some 13, none, .len (.t 12) false⟩, ⟨some 14, none, .bin false .lss (.t 11) (.t 13)⟩] none [0, 1, 5, 14]) (.cond (.t 14) .skip (.exit 0))) (.seq (.block 1 (.seq (.reg [⟨some 17, none, .mv (.t 0)⟩, ⟨some 18, none, .mv (.t 5)⟩, ⟨some 19, none, .ia (.t 17) (.t 18) 3⟩, ⟨some 20, none, .load (.t 19) (some 3)⟩, ⟨some 21, none, .mv (.t 1)⟩, ⟨some 22, none, .mv (.t 5)⟩, ⟨some 23, none, .ia (.t 21) (.t 22) 3⟩, ⟨some 24, none, .load (.t 23) (some 3)⟩, ⟨some 25, none, .call 64 [(.t 20), (.t 24)]⟩, ⟨some 26, none, .not (.t 25)⟩] (some 8) [0, 1, 5, 26]) (.cond (.t 26) (.seq (.reg [⟨some 4, none, .mv (.k (.c (.bool false)))⟩] none [4]) .ret) .skip))) (.reg [⟨some 15, none, .mv (.t 5)⟩, ⟨some 16, none, .bin false .add (.t 15) (.k (.c (.int .i64 1)))⟩, ⟨some 5, none, .mv (.t 16)⟩] none [0, 1, 5])))))) (.seq (.reg [⟨some 4, none, .mv (.k (.c (.bool true)))⟩] none [4]) .ret))))
theorem chk_eqStepS : chkX Go.Proofs.Tryd.prog 27 (Go.Proofs.Tryd.f42.body.getD .skip) x_eqStepS = true := by kernel_rfl
theorem rs_eqStepS : okRs Go.Proofs.Tryd.prog Go.Proofs.Tryd.f42.results.toList [.tmp 4] = true := by kernel_rfl
theorem call_eqStepS : okCallee Go.Proofs.Tryd.prog 42 = true := by kernel_rfl
noncomputable def spSzStp  : Spec := Spec.of (ι := Stp × Int) [false, false] (fun i => [.d (.agg i.1.enc), .d (.one (.int .i64 i.2))]) (fun i => stpFit i.1 ∧ 0 ≤ i.2 ∧ i.2 ≤ 1048576) (fun i => [.d (.one (.int .i64 (if i.2 - i.1.key.size < 0 then -1 else i.2 - i.1.key.size)))]) (fun _ => [.gone, .gone])
theorem spSzStp_inj : ∀ i j : Stp × Int, (fun (i : Stp × Int) => ([.d (.agg i.1.enc), .d (.one (.int .i64 i.2))] : List AV)) i = (fun (i : Stp × Int) => ([.d (.agg i.1.enc), .d (.one (.int .i64 i.2))] : List AV)) j → i = j := by
  rintro ⟨s, l⟩ ⟨s', l'⟩ h
  simp only [Prod.mk.injEq]
  simpa [strs_eq, T.enc_eq, encL_eq, F.enc_eq, encF_eq, Tk.enc_eq, encTk_eq, Gn.enc_eq, ints_eq, encS_eq, Stp.enc_eq] using h
theorem spSzStp_md  : (spSzStp).md = [false, false] := rfl
theorem spSzStp_pre  (s : Stp) (l : Int) : (spSzStp).pre [.d (.agg s.enc), .d (.one (.int .i64 l))] = (stpFit s ∧ 0 ≤ l ∧ l ≤ 1048576) := Spec.of_pre' spSzStp_inj (s, l)
theorem spSzStp_alts  : (spSzStp).alts = none := rfl
theorem spSzStp_res  (s : Stp) (l : Int) : (spSzStp).res [.d (.agg s.enc), .d (.one (.int .i64 l))] = [.d (.one (.int .i64 (if l - s.key.size < 0 then -1 else l - s.key.size)))] := Spec.of_res spSzStp_inj (s, l)
theorem spSzStp_out  (s : Stp) (l : Int) : (spSzStp).out [.d (.agg s.enc), .d (.one (.int .i64 l))] = [.gone, .gone] := Spec.of_out spSzStp_inj (s, l)
theorem szStp_sound : Sound Go.Proofs.Tryd.prog 53 spSzStp := by
  refine sound_fam GOK.nil Go.Proofs.Tryd.func53 (c := Go.Proofs.Tryd.f53.body.getD .skip) rfl (n := 13) rfl chk_szStep rs_szStep (fun _ => by simp) ?_ ?_
  · exact spSzStp_inj
  · rintro ⟨⟨m, key, a⟩, l⟩ ⟨⟨h1, h2, h3⟩, h4, h5⟩
    simp only at h1 h2 h3 h4 h5
    by_cases c : l - key.size < 0
    · have c' := eq_true c
      simp only [x_szStep, rg, go_sem, seval, Prod.fst, Stp.enc, c', if_true]
      repeat' (first | with_reducible assumption | with_reducible refine And.intro ?_ ?_ | intro _)
      all_goals first | omega | skip
    · have c' := eq_false c
      simp only [x_szStep, rg, go_sem, seval, Prod.fst, Stp.enc, c', if_false]
      repeat' (first | with_reducible assumption | with_reducible refine And.intro ?_ ?_ | intro _)
      all_goals first | omega | skip
noncomputable def spSzStpS  : Spec := Spec.of (ι := (List Stp) × Int) [false, false] (fun i => [.d (.one (.row 3 (encS i.1))), .d (.one (.int .i64 i.2))]) (fun i => wayFit i.1 ∧ 0 ≤ i.2 ∧ i.2 ≤ 1048576) (fun i => [.d (.one (.int .i64 (szStpS i.1 i.2)))]) (fun _ => [.gone, .gone])
theorem spSzStpS_inj : ∀ i j : (List Stp) × Int, (fun (i : (List Stp) × Int) => ([.d (.one (.row 3 (encS i.1))), .d (.one (.int .i64 i.2))] : List AV)) i = (fun (i : (List Stp) × Int) => ([.d (.one (.row 3 (encS i.1))), .d (.one (.int .i64 i.2))] : List AV)) j → i = j := by
  rintro ⟨p, l⟩ ⟨p', l'⟩ h
  simp only [Prod.mk.injEq]
  simpa [strs_eq, T.enc_eq, encL_eq, F.enc_eq, encF_eq, Tk.enc_eq, encTk_eq, Gn.enc_eq, ints_eq, encS_eq, Stp.enc_eq] using h
theorem spSzStpS_md  : (spSzStpS).md = [false, false] := rfl
theorem spSzStpS_pre  (p : List Stp) (l : Int) : (spSzStpS).pre [.d (.one (.row 3 (encS p))), .d (.one (.int .i64 l))] = (wayFit p ∧ 0 ≤ l ∧ l ≤ 1048576) := Spec.of_pre' spSzStpS_inj (p, l)
theorem spSzStpS_alts  : (spSzStpS).alts = none := rfl
theorem spSzStpS_res  (p : List Stp) (l : Int) : (spSzStpS).res [.d (.one (.row 3 (encS p))), .d (.one (.int .i64 l))] = [.d (.one (.int .i64 (szStpS p l)))] := Spec.of_res spSzStpS_inj (p, l)
theorem spSzStpS_out  (p : List Stp) (l : Int) : (spSzStpS).out [.d (.one (.row 3 (encS p))), .d (.one (.int .i64 l))] = [.gone, .gone] := Spec.of_out spSzStpS_inj (p, l)
theorem szStpS_sound : Sound Go.Proofs.Tryd.prog 33 spSzStpS := by
  refine sound_fam (GOK.cons call_szStep szStp_sound GOK.nil) Go.Proofs.Tryd.func33 (c := Go.Proofs.Tryd.f33.body.getD .skip) rfl (n := 27) rfl chk_szStepS rs_szStepS (fun _ => by simp) ?_ ?_
  · exact spSzStpS_inj
  · rintro ⟨p, left⟩ ⟨h1, h2, h3⟩
    have h1' := h1.1
    simp only at h1' h2 h3
    by_cases c : left - p.length < 0
    · have c' := eq_true c
      have e : szStpS p left = -1 := by unfold szStpS szStrS; rw [List.length_map, if_pos c]
      simp only [x_szStepS, rg, go_sem, seval, Prod.fst, c', e, encS_len]
      repeat' (first | with_reducible assumption | with_reducible refine And.intro ?_ ?_ | intro _)
      all_goals first | omega | skip
    · have c' := eq_false c
      have e : szStpS p left = szStr (p.map Stp.key) (left - p.length) := by unfold szStpS szStrS; rw [List.length_map, if_neg c]
      simp only [x_szStepS, rg, go_sem, seval, Prod.fst, c', e, encS_len]
      repeat' (first | with_reducible assumption | with_reducible refine And.intro ?_ ?_ | intro _)
      all_goals first | omega | skip
      refine pw_loop (ι := Nat × Int) (fun i => p.length - i.1) (fun i => i.1 ≤ p.length ∧ 0 ≤ i.2 ∧ i.2 ≤ left ∧ szStr ((p.drop i.1).map Stp.key) i.2 = szStr (p.map Stp.key) (left - p.length))
        (fun i => ⟨[(0, .q (.c (.row 3 (encS p)))), (1, .q (.c (.int .i64 i.2))), (5, .q (.c (.int .i64 i.1)))], [], []⟩) (0, left - p.length) ⟨by omega, by omega, by omega, rfl⟩ (Le.refl _) ?_
      rintro ⟨i, l⟩ ⟨hi, hl0, hl, heq⟩
      simp only at hi hl0 hl heq
      rcases Nat.lt_or_ge i p.length with hlt | hge
      · obtain ⟨s, hs, hdr, hmem⟩ := drop_at hlt
        have a1 := encS_at hs
        have f1 := wayFit_at h1 hs
        have l3 := Stp.len3 s
        have h7 : ((i : Int) < (p.length : Int)) = True := by simp; omega
        rw [hdr] at heq
        simp only [List.map_cons, szStr] at heq
        by_cases d : l - s.key.size < 0
        · have d' := eq_true d
          rw [if_pos d] at heq
          simp only [rg, go_sem, seval, Prod.fst, a1, h7, d', l3, encS_len, if_true, spSzStp_md, spSzStp_pre, spSzStp_alts, spSzStp_res, spSzStp_out]
          repeat' (first | with_reducible assumption | with_reducible refine And.intro ?_ ?_ | intro _)
          all_goals first | omega | assumption | skip
        · have d' := eq_false d
          rw [if_neg d] at heq
          simp only [rg, go_sem, seval, Prod.fst, a1, h7, d', l3, encS_len, if_false, spSzStp_md, spSzStp_pre, spSzStp_alts, spSzStp_res, spSzStp_out]
          repeat' (first | with_reducible assumption | with_reducible refine And.intro ?_ ?_ | intro _)
          all_goals first | omega | assumption | skip
          exact ⟨(i + 1, l - s.key.size), ⟨by simp only; omega, by simp only; omega, by simp only; omega, heq⟩, by simp only; omega, Le.refl _⟩
      · have h7 : ((i : Int) < (p.length : Int)) = False := by simp; omega
        rw [List.drop_eq_nil_of_le hge] at heq
        simp only [List.map_nil, szStr] at heq
        simp only [rg, go_sem, seval, Prod.fst, h7, encS_len]
        repeat' (first | with_reducible assumption | with_reducible refine And.intro ?_ ?_ | intro _)
        all_goals first | omega | exact heq.symm | skip
noncomputable def spToStp  : Spec := Spec.of (ι := Stp) [false] (fun i => [.d (.agg i.enc)]) (fun _ => True) (fun i => [.d (.agg i.enc)]) (fun _ => [.gone])
theorem spToStp_inj : ∀ i j : Stp, (fun (i : Stp) => ([.d (.agg i.enc)] : List AV)) i = (fun (i : Stp) => ([.d (.agg i.enc)] : List AV)) j → i = j := by
  intro s s' h
  simpa [strs_eq, T.enc_eq, encL_eq, F.enc_eq, encF_eq, Tk.enc_eq, encTk_eq, Gn.enc_eq, ints_eq, encS_eq, Stp.enc_eq] using h
theorem spToStp_md  : (spToStp).md = [false] := rfl
theorem spToStp_pre  (s : Stp) : (spToStp).pre [.d (.agg s.enc)] = (True) := Spec.of_pre' spToStp_inj s
theorem spToStp_alts  : (spToStp).alts = none := rfl
theorem spToStp_res  (s : Stp) : (spToStp).res [.d (.agg s.enc)] = [.d (.agg s.enc)] := Spec.of_res spToStp_inj s
theorem spToStp_out  (s : Stp) : (spToStp).out [.d (.agg s.enc)] = [.gone] := Spec.of_out spToStp_inj s
theorem toStp_sound : Sound Go.Proofs.Tryd.prog 58 spToStp := by
  refine sound_fam GOK.nil Go.Proofs.Tryd.func58 (c := Go.Proofs.Tryd.f58.body.getD .skip) rfl (n := 14) rfl chk_toStep rs_toStep (fun _ => by simp) ?_ ?_
  · exact spToStp_inj
  · rintro ⟨m, key, a⟩ _
    simp only [x_toStep, rg, go_sem, seval, Prod.fst, Stp.enc]
    repeat' (first | with_reducible assumption | with_reducible refine And.intro ?_ ?_ | intro _)
    all_goals first | omega | skip
noncomputable def spToStpS  : Spec := Spec.of (ι := (List Stp)) [false] (fun i => [.d (.one (.row 3 (encS i)))]) (fun i => lenB 1048576 i.length) (fun i => [.own 3 (encS i)]) (fun _ => [.gone])
theorem spToStpS_inj : ∀ i j : (List Stp), (fun (i : (List Stp)) => ([.d (.one (.row 3 (encS i)))] : List AV)) i = (fun (i : (List Stp)) => ([.d (.one (.row 3 (encS i)))] : List AV)) j → i = j := by
  intro p p' h
  simpa [strs_eq, T.enc_eq, encL_eq, F.enc_eq, encF_eq, Tk.enc_eq, encTk_eq, Gn.enc_eq, ints_eq, encS_eq, Stp.enc_eq] using h
theorem spToStpS_md  : (spToStpS).md = [false] := rfl
theorem spToStpS_pre  (p : List Stp) : (spToStpS).pre [.d (.one (.row 3 (encS p)))] = (lenB 1048576 p.length) := Spec.of_pre' spToStpS_inj p
theorem spToStpS_alts  : (spToStpS).alts = none := rfl
theorem spToStpS_res  (p : List Stp) : (spToStpS).res [.d (.one (.row 3 (encS p)))] = [.own 3 (encS p)] := Spec.of_res spToStpS_inj p
theorem spToStpS_out  (p : List Stp) : (spToStpS).out [.d (.one (.row 3 (encS p)))] = [.gone] := Spec.of_out spToStpS_inj p
theorem toStpS_sound : Sound Go.Proofs.Tryd.prog 37 spToStpS := by
  refine sound_fam (GOK.cons call_toStep toStp_sound GOK.nil) Go.Proofs.Tryd.func37 (c := Go.Proofs.Tryd.f37.body.getD .skip) rfl (n := 23) rfl chk_toStepS rs_toStepS (fun _ => by simp) ?_ ?_
  · exact spToStpS_inj
  · intro p h1
    simp only [lenB] at h1
    simp only [x_toStepS, rg, go_sem, seval, Prod.fst, encS_len]
    repeat' (first | with_reducible assumption | with_reducible refine And.intro ?_ ?_ | intro _)
    all_goals first | omega | skip
    have hl : (encS p).length = (List.replicate p.length [C.bool false, C.str ⟨#[]⟩, C.int .i64 0]).length := by simp [encS_len]
    refine pw_loop (ι := Nat) (fun i => p.length - i) (fun i => i ≤ p.length)
      (fun i => ⟨[(0, .q (.c (.row 3 (encS p)))), (3, .q (.own 7)), (4, .q (.c (.int .i64 i)))], [], [(7, 3, (encS p).take i ++ (List.replicate p.length [C.bool false, C.str ⟨#[]⟩, C.int .i64 0]).drop i)]⟩) 0 (Nat.zero_le _) (Le.refl _) ?_
    intro i hi
    rcases Nat.lt_or_ge i p.length with hlt | hge
    · obtain ⟨s, hs, hdr, hmem⟩ := drop_at hlt
      have a1 := encS_at hs
      have a2 : ((i : Int) < (p.length : Int)) = True := by simp; omega
      have a3 : ((encS p).take i ++ (List.replicate p.length [C.bool false, C.str ⟨#[]⟩, C.int .i64 0]).drop i).length = p.length := by rw [fill_len hl]; simp
      have a4 : ((encS p).take i ++ (List.replicate p.length [C.bool false, C.str ⟨#[]⟩, C.int .i64 0]).drop i).getD i [] = [C.bool false, C.str ⟨#[]⟩, C.int .i64 0] := by rw [fill_get hl (by rw [encS_len]; exact hlt), getD_rep hlt]
      have a5 : ((encS p).take i ++ (List.replicate p.length [C.bool false, C.str ⟨#[]⟩, C.int .i64 0]).drop i).set i s.enc = (encS p).take (i + 1) ++ (List.replicate p.length [C.bool false, C.str ⟨#[]⟩, C.int .i64 0]).drop (i + 1) := fill_set hl (by simp [encS, hs])
      obtain ⟨m, key, a⟩ := s
      have p1 := spToStp_pre ⟨m, key, a⟩
      have p2 := spToStp_res ⟨m, key, a⟩
      have p3 := spToStp_out ⟨m, key, a⟩
      simp only [Stp.enc] at a1 a5 p1 p2 p3
      simp only [go_sem, seval, Prod.fst, rg, a1, a2, a3, a4, a5, p1, p2, p3, encS_len, spToStp_md, spToStp_alts]
      repeat' (first | with_reducible assumption | with_reducible refine And.intro ?_ ?_ | intro _)
      all_goals first | omega | skip
      exact ⟨i + 1, by omega, by omega, Le.refl _⟩
    · have a2 : ((i : Int) < (p.length : Int)) = False := by simp; omega
      have hie : i = (encS p).length := by rw [encS_len]; omega
      have a3 : (encS p).take i ++ (List.replicate p.length [C.bool false, C.str ⟨#[]⟩, C.int .i64 0]).drop i = encS p := by rw [hie]; exact fill_all hl
      simp only [go_sem, seval, rg, Prod.fst, a2, a3, encS_len]
noncomputable def spEqStp  : Spec := Spec.of (ι := Stp × Stp) [false, false] (fun i => [.d (.agg i.1.enc), .d (.agg i.2.enc)]) (fun _ => True) (fun i => [.d (.one (.bool (decide (i.1 = i.2))))]) (fun _ => [.gone, .gone])
theorem spEqStp_inj : ∀ i j : Stp × Stp, (fun (i : Stp × Stp) => ([.d (.agg i.1.enc), .d (.agg i.2.enc)] : List AV)) i = (fun (i : Stp × Stp) => ([.d (.agg i.1.enc), .d (.agg i.2.enc)] : List AV)) j → i = j := by
  rintro ⟨a, b⟩ ⟨a', b'⟩ h
  simp only [Prod.mk.injEq]
  simpa [strs_eq, T.enc_eq, encL_eq, F.enc_eq, encF_eq, Tk.enc_eq, encTk_eq, Gn.enc_eq, ints_eq, encS_eq, Stp.enc_eq] using h
theorem spEqStp_md  : (spEqStp).md = [false, false] := rfl
theorem spEqStp_pre  (a : Stp) (b : Stp) : (spEqStp).pre [.d (.agg a.enc), .d (.agg b.enc)] = (True) := Spec.of_pre' spEqStp_inj (a, b)
theorem spEqStp_alts  : (spEqStp).alts = none := rfl
theorem spEqStp_res  (a : Stp) (b : Stp) : (spEqStp).res [.d (.agg a.enc), .d (.agg b.enc)] = [.d (.one (.bool (decide (a = b))))] := Spec.of_res spEqStp_inj (a, b)
theorem spEqStp_out  (a : Stp) (b : Stp) : (spEqStp).out [.d (.agg a.enc), .d (.agg b.enc)] = [.gone, .gone] := Spec.of_out spEqStp_inj (a, b)
theorem eqStp_sound : Sound Go.Proofs.Tryd.prog 64 spEqStp := by
  refine sound_fam GOK.nil Go.Proofs.Tryd.func64 (c := Go.Proofs.Tryd.f64.body.getD .skip) rfl (n := 20) rfl chk_eqStep rs_eqStep (fun _ => by simp) ?_ ?_
  · exact spEqStp_inj
  · rintro ⟨⟨m, key, a⟩, ⟨m', key', a'⟩⟩ _
    by_cases c1 : m = m'
    · subst c1
      by_cases c2 : key = key'
      · subst c2
        by_cases c3 : a = a'
        · subst c3
          cases m <;> simp only [x_eqStep, rg, go_sem, seval, Prod.fst, Stp.enc, decide_true, not_true_eq_false]
        · have c3' := eq_false c3
          have e : ((⟨m, key, a⟩ : Stp) = ⟨m, key, a'⟩) = False := eq_false (fun h => c3 (Stp.mk.inj h).2.2)
          cases m <;> simp only [x_eqStep, rg, go_sem, seval, Prod.fst, Stp.enc, c3', e, not_false_eq_true, not_true_eq_false]
      · have c2' := eq_false c2
        have e : ((⟨m, key, a⟩ : Stp) = ⟨m, key', a'⟩) = False := eq_false (fun h => c2 (Stp.mk.inj h).2.1)
        cases m <;> simp only [x_eqStep, rg, go_sem, seval, Prod.fst, Stp.enc, c2', e, not_false_eq_true, not_true_eq_false]
    · have e : ((⟨m, key, a⟩ : Stp) = ⟨m', key', a'⟩) = False := eq_false (fun h => c1 (Stp.mk.inj h).1)
      cases m <;> cases m' <;> first | exact absurd rfl c1 | simp only [x_eqStep, rg, go_sem, seval, Prod.fst, Stp.enc, e, show (false != true) = true from rfl, show (true != false) = true from rfl]
noncomputable def spEqStpS  : Spec := Spec.of (ι := (List Stp) × (List Stp)) [false, false] (fun i => [.d (.one (.row 3 (encS i.1))), .d (.one (.row 3 (encS i.2)))]) (fun i => lenB 1048576 i.1.length ∧ lenB 1048576 i.2.length) (fun i => [.d (.one (.bool (decide (i.1 = i.2))))]) (fun _ => [.gone, .gone])
theorem spEqStpS_inj : ∀ i j : (List Stp) × (List Stp), (fun (i : (List Stp) × (List Stp)) => ([.d (.one (.row 3 (encS i.1))), .d (.one (.row 3 (encS i.2)))] : List AV)) i = (fun (i : (List Stp) × (List Stp)) => ([.d (.one (.row 3 (encS i.1))), .d (.one (.row 3 (encS i.2)))] : List AV)) j → i = j := by
  rintro ⟨a, b⟩ ⟨a', b'⟩ h
  simp only [Prod.mk.injEq]
  simpa [strs_eq, T.enc_eq, encL_eq, F.enc_eq, encF_eq, Tk.enc_eq, encTk_eq, Gn.enc_eq, ints_eq, encS_eq, Stp.enc_eq] using h
theorem spEqStpS_md  : (spEqStpS).md = [false, false] := rfl
theorem spEqStpS_pre  (a : List Stp) (b : List Stp) : (spEqStpS).pre [.d (.one (.row 3 (encS a))), .d (.one (.row 3 (encS b)))] = (lenB 1048576 a.length ∧ lenB 1048576 b.length) := Spec.of_pre' spEqStpS_inj (a, b)
theorem spEqStpS_alts  : (spEqStpS).alts = none := rfl
theorem spEqStpS_res  (a : List Stp) (b : List Stp) : (spEqStpS).res [.d (.one (.row 3 (encS a))), .d (.one (.row 3 (encS b)))] = [.d (.one (.bool (decide (a = b))))] := Spec.of_res spEqStpS_inj (a, b)
theorem spEqStpS_out  (a : List Stp) (b : List Stp) : (spEqStpS).out [.d (.one (.row 3 (encS a))), .d (.one (.row 3 (encS b)))] = [.gone, .gone] := Spec.of_out spEqStpS_inj (a, b)
theorem eqStpS_sound : Sound Go.Proofs.Tryd.prog 42 spEqStpS := by
  refine sound_fam (GOK.cons call_eqStep eqStp_sound GOK.nil) Go.Proofs.Tryd.func42 (c := Go.Proofs.Tryd.f42.body.getD .skip) rfl (n := 27) rfl chk_eqStepS rs_eqStepS (fun _ => by simp) ?_ ?_
  · exact spEqStpS_inj
  · rintro ⟨a, b⟩ ⟨h1, h2⟩
    simp only [lenB] at h1 h2
    by_cases hl : a.length = b.length
    · have b1 : ((a.length : Int) = (b.length : Int)) = True := by simp [hl]
      simp only [x_eqStepS, rg, go_sem, seval, Prod.fst, b1, encS_len, not_true_eq_false]
      refine pw_loop (ι := Nat) (fun i => a.length - i) (fun i => i ≤ a.length ∧ a.take i = b.take i)
        (fun i => ⟨[(0, .q (.c (.row 3 (encS a)))), (1, .q (.c (.row 3 (encS b)))), (5, .q (.c (.int .i64 i)))], [], []⟩) 0 ⟨Nat.zero_le _, rfl⟩ (Le.refl _) ?_
      rintro i ⟨hi, heq⟩
      rcases Nat.lt_or_ge i a.length with hlt | hge
      · obtain ⟨s, hs, _, hmem⟩ := drop_at hlt
        obtain ⟨s', hs', _, hmem'⟩ := drop_at (l := b) (i := i) (by omega)
        have a1 := encS_at hs
        have a1' := encS_at hs'
        have a2 : ((i : Int) < (a.length : Int)) = True := by simp; omega
        have a3 : ((i : Int) < (b.length : Int)) = True := by simp; omega
        have l3 := Stp.len3 s
        have l3' := Stp.len3 s'
        by_cases hc : s = s'
        · have c1 : (s = s') = True := by simp [hc]
          simp only [go_sem, seval, Prod.fst, rg, a1, a1', a2, a3, c1, l3, l3', encS_len, not_true_eq_false, spEqStp_md, spEqStp_pre, spEqStp_alts, spEqStp_res, spEqStp_out]
          repeat' (first | with_reducible assumption | with_reducible refine And.intro ?_ ?_ | intro _)
          all_goals first | omega | skip
          exact ⟨i + 1, ⟨by omega, take_at hs (hc ▸ hs') heq⟩, by omega, Le.refl _⟩
        · have c1 : (s = s') = False := by simp [hc]
          simp only [go_sem, seval, Prod.fst, rg, a1, a1', a2, a3, c1, l3, l3', encS_len, not_false_eq_true, spEqStp_md, spEqStp_pre, spEqStp_alts, spEqStp_res, spEqStp_out]
          repeat' (first | with_reducible assumption | with_reducible refine And.intro ?_ ?_ | intro _)
          all_goals first | omega | skip
          all_goals (rename_i h; exact ne_at hs hs' hc h)
      · have a2 : ((i : Int) < (a.length : Int)) = False := by simp; omega
        have hie : i = a.length := by omega
        subst hie
        simp only [go_sem, seval, Prod.fst, rg, a2, encS_len]
        exact take_all hl heq
    · have b1 : ((a.length : Int) = (b.length : Int)) = False := by simp; omega
      simp only [x_eqStepS, rg, go_sem, seval, Prod.fst, b1, encS_len, not_false_eq_true]
      exact fun e => hl (by rw [e])
end Go.Proofs.Pw
/- Counting down the size of a tree: the functions of the laws' text. -/
set_option linter.unusedSimpArgs false
set_option maxRecDepth 20000
namespace Go.Proofs.Pw
set_option linter.unusedSectionVars false
variable [Globs]
def x_szStringS : X := (.seq (.reg [⟨some 4, none, .mv (.k (.c (.int .i64 0)))⟩] none [0, 1]) (.seq (.reg [⟨some 6, none, .mv (.t 1)⟩, ⟨some 7, none, .mv (.t 0)⟩, ⟨some 8, none, .len (.t 7) false⟩, ⟨some 9, none, .bin false .sub (.t 6) (.t 8)⟩, ⟨some 1, none, .mv (.t 9)⟩] none [0, 1]) (.seq (.seq (.reg [⟨some 10, none, .mv (.t 1)⟩, ⟨some 11, none, .bin false .lss (.t 10) (.k (.c (.int .i64 0)))⟩] none [0, 1, 11]) (.cond (.t 11) (.seq (.reg [⟨some 4, none, .mv (.k (.c (.int .i64 (-1))))⟩] none [4]) .ret) .skip)) (.seq (.seq (.reg [⟨some 5, none, .mv (.k (.c (.int .i64 0)))⟩] none [0, 1, 5]) (.block 0 (.loop (.seq (.seq (.reg [⟨some 12, none, .mv (.t 5)⟩, ⟨some 13, none, .mv (.t 0)⟩, ⟨some 14, none, .len (.t 13) false⟩, ⟨some 15, none, .bin false .lss (.t 12) (.t 14)⟩] none [0, 1, 5, 15]) (.cond (.t 15) .skip (.exit 0))) (.seq (.block 1 (.seq (.reg [⟨some 18, none, .mv (.t 1)⟩, ⟨some 19, none, .mv (.t 0)⟩, ⟨some 20, none, .mv (.t 5)⟩, ⟨some 21, none, .ia (.t 19) (.t 20) 1⟩, ⟨some 22, none, .load (.t 21) none⟩, ⟨some 23, none, .len (.t 22) true⟩, ⟨some 24, none, .bin false .sub (.t 18) (.t 23)⟩, ⟨some 1, none, .mv (.t 24)⟩] none [0, 1, 5]) (.seq (.reg [⟨some 25, none, .mv (.t 1)⟩, ⟨some 26, none, .bin false .lss (.t 25) (.k (.c (.int .i64 0)))⟩] none [0, 1, 5, 26]) (.cond (.t 26) (.seq (.reg [⟨some 4, none, .mv (.k (.c (.int .i64 (-1))))⟩] none [4]) .ret) .skip)))) (.reg [⟨some 16, none, .mv (.t 5)⟩, ⟨some 17, none, .bin false .add (.t 16) (.k (.c (.int .i64 1)))⟩, ⟨some 5, none, .mv (.t 17)⟩] none [0, 1, 5])))))) (.seq (.reg [⟨some 27, none, .mv (.t 1)⟩, ⟨some 4, none, .mv (.t 27)⟩] none [4]) .ret)))))
theorem chk_szStringS : chkX Go.Proofs.Tryd.prog 28 (Go.Proofs.Tryd.f43.body.getD .skip) x_szStringS = true := by kernel_rfl
theorem rs_szStringS : okRs Go.Proofs.Tryd.prog Go.Proofs.Tryd.f43.results.toList [.tmp 4] = true := by kernel_rfl
theorem call_szStringS : okCallee Go.Proofs.Tryd.prog 43 = true := by kernel_rfl
def x_szValS : X := (.seq (.reg [⟨some 4, none, .mv (.k (.c (.int .i64 0)))⟩] none [0, 1]) (.seq (.reg [⟨some 6, none, .mv (.t 1)⟩, ⟨some 7, none, .mv (.t 0)⟩, ⟨some 8, none, .len (.t 7) false⟩, ⟨some 9, none, .bin false .sub (.t 6) (.t 8)⟩, ⟨some 1, none, .mv (.t 9)⟩] none [0, 1]) (.seq (.seq (.reg [⟨some 10, none, .mv (.t 1)⟩, ⟨some 11, none, .bin false .lss (.t 10) (.k (.c (.int .i64 0)))⟩] none [0, 1, 11]) (.cond (.t 11) (.seq (.reg [⟨some 4, none, .mv (.k (.c (.int .i64 (-1))))⟩] none [4]) .ret) .skip)) (.seq (.seq (.reg [⟨some 5, none, .mv (.k (.c (.int .i64 0)))⟩] none [0, 1, 5]) (.block 0 (.loop (.seq (.seq (.reg [⟨some 12, none, .mv (.t 5)⟩, ⟨some 13, none, .mv (.t 0)⟩, ⟨some 14, none, .len (.t 13) false⟩, ⟨some 15, none, .bin false .lss (.t 12) (.t 14)⟩] none [0, 1, 5, 15]) (.cond (.t 15) .skip (.exit 0))) (.seq (.block 1 (.seq (.reg [⟨some 18, none, .mv (.t 0)⟩, ⟨some 19, none, .mv (.t 5)⟩, ⟨some 20, none, .ia (.t 18) (.t 19) 5⟩, ⟨some 21, none, .load (.t 20) (some 5)⟩, ⟨some 22, none, .mv (.t 1)⟩, ⟨some 23, none, .call 23 [(.t 21), (.t 22)]⟩, ⟨some 1, none, .mv (.t 23)⟩] none [0, 1, 5]) (.seq (.reg [⟨some 24, none, .mv (.t 1)⟩, ⟨some 25, none, .bin false .lss (.t 24) (.k (.c (.int .i64 0)))⟩] none [0, 1, 5, 25]) (.cond (.t 25) (.seq (.reg [⟨some 4, none, .mv (.k (.c (.int .i64 (-1))))⟩] none [4]) .ret) .skip)))) (.reg [⟨some 16, none, .mv (.t 5)⟩, ⟨some 17, none, .bin false .add (.t 16) (.k (.c (.int .i64 1)))⟩, ⟨some 5, none, .mv (.t 17)⟩] none [0, 1, 5])))))) (.seq (.reg [⟨some 26, none, .mv (.t 1)⟩, ⟨some 4, none, .mv (.t 26)⟩] none [4]) .ret)))))
theorem chk_szValS : chkX Go.Proofs.Tryd.prog 27 (Go.Proofs.Tryd.f44.body.getD .skip) x_szValS = true := by kernel_rfl
theorem rs_szValS : okRs Go.Proofs.Tryd.prog Go.Proofs.Tryd.f44.results.toList [.tmp 4] = true := by kernel_rfl
theorem call_szValS : okCallee Go.Proofs.Tryd.prog 44 = true := by kernel_rfl
def x_szVal : X := (.seq (.reg [⟨some 2, none, .box (.t 0) (some 5)⟩, ⟨some 4, none, .mv (.k (.c (.int .i64 0)))⟩] none [1, 2]) (.seq (.reg [⟨some 5, none, .mv (.t 1)⟩, ⟨some 6, none, .fa (.t 2) 2⟩, ⟨some 7, none, .load (.t 6) none⟩, ⟨some 8, none, .len (.t 7) true⟩, ⟨some 9, none, .bin false .sub (.t 5) (.t 8)⟩, ⟨some 1, none, .mv (.t 9)⟩] none [1, 2]) (.seq (.seq (.reg [⟨some 10, none, .mv (.t 1)⟩, ⟨some 11, none, .bin false .lss (.t 10) (.k (.c (.int .i64 0)))⟩] none [1, 2, 11]) (.cond (.t 11) (.seq (.reg [⟨some 4, none, .mv (.k (.c (.int .i64 (-1))))⟩] none [4]) .ret) .skip)) (.seq (.reg [⟨some 12, none, .fa (.t 2) 3⟩, ⟨some 13, none, .load (.t 12) none⟩, ⟨some 14, none, .mv (.t 1)⟩, ⟨some 15, none, .call 43 [(.t 13), (.t 14)]⟩, ⟨some 1, none, .mv (.t 15)⟩] none [1, 2]) (.seq (.seq (.reg [⟨some 16, none, .mv (.t 1)⟩, ⟨some 17, none, .bin false .lss (.t 16) (.k (.c (.int .i64 0)))⟩] none [1, 2, 17]) (.cond (.t 17) (.seq (.reg [⟨some 4, none, .mv (.k (.c (.int .i64 (-1))))⟩] none [4]) .ret) .skip)) (.seq (.reg [⟨some 18, none, .fa (.t 2) 4⟩, ⟨some 19, none, .load (.t 18) none⟩, ⟨some 20, none, .mv (.t 1)⟩, ⟨some 21, none, .call 44 [(.t 19), (.t 20)]⟩, ⟨some 1, none, .mv (.t 21)⟩] none [1]) (.seq (.seq (.reg [⟨some 22, none, .mv (.t 1)⟩, ⟨some 23, none, .bin false .lss (.t 22) (.k (.c (.int .i64 0)))⟩] none [1, 23]) (.cond (.t 23) (.seq (.reg [⟨some 4, none, .mv (.k (.c (.int .i64 (-1))))⟩] none [4]) .ret) .skip)) (.seq (.reg [⟨some 24, none, .mv (.t 1)⟩, ⟨some 4, none, .mv (.t 24)⟩] none [4]) .ret))))))))
theorem chk_szVal : chkX Go.Proofs.Tryd.prog 25 (Go.Proofs.Tryd.f23.body.getD .skip) x_szVal = true := by kernel_rfl
theorem rs_szVal : okRs Go.Proofs.Tryd.prog Go.Proofs.Tryd.f23.results.toList [.tmp 4] = true := by kernel_rfl
theorem call_szVal : okCallee Go.Proofs.Tryd.prog 23 = true := by kernel_rfl
noncomputable def spSzStrS  : Spec := Spec.of (ι := (List ByteArray) × Int) [false, false] (fun i => [.d (.one (.row 1 (strs i.1))), .d (.one (.int .i64 i.2))]) (fun i => strsFit 140737488355328 i.1 ∧ 0 ≤ i.2 ∧ i.2 ≤ 1048576) (fun i => [.d (.one (.int .i64 (szStrS i.1 i.2)))]) (fun _ => [.gone, .gone])
theorem spSzStrS_inj : ∀ i j : (List ByteArray) × Int, (fun (i : (List ByteArray) × Int) => ([.d (.one (.row 1 (strs i.1))), .d (.one (.int .i64 i.2))] : List AV)) i = (fun (i : (List ByteArray) × Int) => ([.d (.one (.row 1 (strs i.1))), .d (.one (.int .i64 i.2))] : List AV)) j → i = j := by
  rintro ⟨ks, l⟩ ⟨ks', l'⟩ h
  simp only [Prod.mk.injEq]
  simpa [strs_eq, T.enc_eq, encL_eq, F.enc_eq, encF_eq, Tk.enc_eq, encTk_eq, Gn.enc_eq, ints_eq] using h
theorem spSzStrS_md  : (spSzStrS).md = [false, false] := rfl
theorem spSzStrS_pre  (ks : List ByteArray) (l : Int) : (spSzStrS).pre [.d (.one (.row 1 (strs ks))), .d (.one (.int .i64 l))] = (strsFit 140737488355328 ks ∧ 0 ≤ l ∧ l ≤ 1048576) := Spec.of_pre' spSzStrS_inj (ks, l)
theorem spSzStrS_alts  : (spSzStrS).alts = none := rfl
theorem spSzStrS_res  (ks : List ByteArray) (l : Int) : (spSzStrS).res [.d (.one (.row 1 (strs ks))), .d (.one (.int .i64 l))] = [.d (.one (.int .i64 (szStrS ks l)))] := Spec.of_res spSzStrS_inj (ks, l)
theorem spSzStrS_out  (ks : List ByteArray) (l : Int) : (spSzStrS).out [.d (.one (.row 1 (strs ks))), .d (.one (.int .i64 l))] = [.gone, .gone] := Spec.of_out spSzStrS_inj (ks, l)
noncomputable def spSzTS (k:Nat) : Spec := Spec.of (ι := (List T) × Int) [false, false] (fun i => [.d (.one (.row 5 (encL i.1))), .d (.one (.int .i64 i.2))]) (fun i => (lenB 140737488355328 i.1.length ∧ fitL 140737488355328 i.1 ∧ 0 ≤ i.2 ∧ i.2 ≤ 1048576) ∧ SizeOf.sizeOf i.1 < k) (fun i => [.d (.one (.int .i64 (szTS i.1 i.2)))]) (fun _ => [.gone, .gone])
theorem spSzTS_inj : ∀ i j : (List T) × Int, (fun (i : (List T) × Int) => ([.d (.one (.row 5 (encL i.1))), .d (.one (.int .i64 i.2))] : List AV)) i = (fun (i : (List T) × Int) => ([.d (.one (.row 5 (encL i.1))), .d (.one (.int .i64 i.2))] : List AV)) j → i = j := by
  rintro ⟨ks, l⟩ ⟨ks', l'⟩ h
  simp only [Prod.mk.injEq]
  simpa [strs_eq, T.enc_eq, encL_eq, F.enc_eq, encF_eq, Tk.enc_eq, encTk_eq, Gn.enc_eq, ints_eq] using h
theorem spSzTS_md (k:Nat) : (spSzTS k).md = [false, false] := rfl
theorem spSzTS_pre (k:Nat) (ks : List T) (l : Int) : (spSzTS k).pre [.d (.one (.row 5 (encL ks))), .d (.one (.int .i64 l))] = ((lenB 140737488355328 ks.length ∧ fitL 140737488355328 ks ∧ 0 ≤ l ∧ l ≤ 1048576) ∧ SizeOf.sizeOf ks < k) := Spec.of_pre' spSzTS_inj (ks, l)
theorem spSzTS_alts (k:Nat) : (spSzTS k).alts = none := rfl
theorem spSzTS_res (k:Nat) (ks : List T) (l : Int) : (spSzTS k).res [.d (.one (.row 5 (encL ks))), .d (.one (.int .i64 l))] = [.d (.one (.int .i64 (szTS ks l)))] := Spec.of_res spSzTS_inj (ks, l)
theorem spSzTS_out (k:Nat) (ks : List T) (l : Int) : (spSzTS k).out [.d (.one (.row 5 (encL ks))), .d (.one (.int .i64 l))] = [.gone, .gone] := Spec.of_out spSzTS_inj (ks, l)
noncomputable def spSzT (k:Nat) : Spec := Spec.of (ι := T × Int) [false, false] (fun i => [.d (.agg i.1.enc), .d (.one (.int .i64 i.2))]) (fun i => (i.1.fit 140737488355328 ∧ 0 ≤ i.2 ∧ i.2 ≤ 1048576) ∧ SizeOf.sizeOf i.1 < k) (fun i => [.d (.one (.int .i64 (szT i.1 i.2)))]) (fun _ => [.gone, .gone])
theorem spSzT_inj : ∀ i j : T × Int, (fun (i : T × Int) => ([.d (.agg i.1.enc), .d (.one (.int .i64 i.2))] : List AV)) i = (fun (i : T × Int) => ([.d (.agg i.1.enc), .d (.one (.int .i64 i.2))] : List AV)) j → i = j := by
  rintro ⟨t, l⟩ ⟨t', l'⟩ h
  simp only [Prod.mk.injEq]
  simpa [strs_eq, T.enc_eq, encL_eq, F.enc_eq, encF_eq, Tk.enc_eq, encTk_eq, Gn.enc_eq, ints_eq] using h
theorem spSzT_md (k:Nat) : (spSzT k).md = [false, false] := rfl
theorem spSzT_pre (k:Nat) (t : T) (l : Int) : (spSzT k).pre [.d (.agg t.enc), .d (.one (.int .i64 l))] = ((t.fit 140737488355328 ∧ 0 ≤ l ∧ l ≤ 1048576) ∧ SizeOf.sizeOf t < k) := Spec.of_pre' spSzT_inj (t, l)
theorem spSzT_alts (k:Nat) : (spSzT k).alts = none := rfl
theorem spSzT_res (k:Nat) (t : T) (l : Int) : (spSzT k).res [.d (.agg t.enc), .d (.one (.int .i64 l))] = [.d (.one (.int .i64 (szT t l)))] := Spec.of_res spSzT_inj (t, l)
theorem spSzT_out (k:Nat) (t : T) (l : Int) : (spSzT k).out [.d (.agg t.enc), .d (.one (.int .i64 l))] = [.gone, .gone] := Spec.of_out spSzT_inj (t, l)
theorem szStrS_sound : Sound Go.Proofs.Tryd.prog 43 spSzStrS := by
  refine sound_fam GOK.nil Go.Proofs.Tryd.func43 (c := Go.Proofs.Tryd.f43.body.getD .skip) rfl (n := 28) rfl chk_szStringS rs_szStringS (fun _ => by simp) ?_ ?_
  · exact spSzStrS_inj
  · rintro ⟨ks, left⟩ ⟨⟨h1, h2⟩, h3, h4⟩
    simp only [lenB] at *
    simp only [x_szStringS, rg, go_sem, seval]
    refine ⟨by omega, fun _ => ⟨fun h => by simp only [szStrS]; rw [if_pos h], fun h => ?_⟩⟩
    refine pw_loop (ι := Nat × Int) (fun i => ks.length - i.1) (fun i => i.1 ≤ ks.length ∧ 0 ≤ i.2 ∧ i.2 ≤ left ∧ szStr (ks.drop i.1) i.2 = szStrS ks left)
      (fun i => ⟨[(0, .q (.c (.row 1 (strs ks)))), (1, .q (.c (.int .i64 i.2))), (5, .q (.c (.int .i64 i.1)))], [], []⟩) (0, left - ks.length) ⟨by omega, by omega, by omega, by simp only [szStrS, List.drop_zero]; rw [if_neg h]⟩ (Le.refl _) ?_
    rintro ⟨i, l⟩ ⟨hi, hl0, hl, heq⟩
    simp only at hi hl0 hl heq
    rcases Nat.lt_or_ge i ks.length with hlt | hge
    · obtain ⟨s, hs, hdr, hmem⟩ := drop_at hlt
      have h5 := strs_at hs
      have h6 := h2 s hmem
      have h7 : ((i : Int) < (ks.length : Int)) = True := by simp; omega
      rw [hdr] at heq
      simp only [szStr] at heq
      simp only [go_sem, seval, h5, h7]
      repeat' (first | with_reducible assumption | with_reducible refine And.intro ?_ ?_ | intro _)
      all_goals first | omega | skip
      · rw [if_neg (by omega)] at heq
        exact ⟨(i + 1, l - s.size), ⟨by simp only; omega, by simp only; omega, by simp only; omega, heq⟩, by simp only; omega, Le.refl _⟩
    · have h7 : ((i : Int) < (ks.length : Int)) = False := by simp; omega
      rw [List.drop_eq_nil_of_le hge] at heq
      simp only [szStr] at heq
      simp only [go_sem, seval, h7]
      exact heq.symm
theorem szT_sound (k : Nat) (hS : Sound Go.Proofs.Tryd.prog 44 (spSzTS k)) : Sound Go.Proofs.Tryd.prog 23 (spSzT (k + 1)) := by
  refine sound_fam (GOK.cons (l := [(44, spSzTS k)]) call_szStringS szStrS_sound (GOK.cons call_szValS hS GOK.nil)) Go.Proofs.Tryd.func23 (c := Go.Proofs.Tryd.f23.body.getD .skip) rfl (n := 25) rfl chk_szVal rs_szVal (fun _ => by simp) ?_ ?_
  · exact spSzT_inj
  · rintro ⟨t, left⟩ ⟨⟨h1, h2, h3⟩, h4⟩
    obtain ⟨kk, n, s, ks, l⟩ := t
    simp only [T.fit, lenB] at h1
    obtain ⟨_, _, f1, f2, f3, f4⟩ := h1
    have e1 := szStrS_le (ks := ks) (left := left - s.size)
    have e2 := szTS_le (l := l) (left := szStrS ks (left - s.size))
    have e3 : SizeOf.sizeOf l < k := by have e : SizeOf.sizeOf (T.mk kk n s ks l) < k + 1 := h4
                                        rw [T.mk.sizeOf_spec] at e; omega
    have e4 : szT (T.mk kk n s ks l) left = if left - s.size < 0 then -1 else if szStrS ks (left - s.size) < 0 then -1 else if szTS l (szStrS ks (left - s.size)) < 0 then -1 else szTS l (szStrS ks (left - s.size)) := by
      have e5 := szTL_le (l := l) (left := szStrS ks (left - s.size) - l.length)
      simp only [szT, szTS]
      repeat' split
      all_goals first | rfl | omega
    simp only [x_szVal, T.enc, go_sem, seval, rg, spSzStrS_md, spSzStrS_pre, spSzStrS_alts, spSzStrS_res, spSzStrS_out, spSzTS_md, spSzTS_pre, spSzTS_alts, spSzTS_res, spSzTS_out]
    rw [e4]
    repeat' (first | with_reducible assumption | with_reducible refine And.intro ?_ ?_ | intro _)
    all_goals first | omega | assumption | skip
theorem szTS_sound (k : Nat) (hS : Sound Go.Proofs.Tryd.prog 23 (spSzT k)) : Sound Go.Proofs.Tryd.prog 44 (spSzTS (k + 1)) := by
  refine sound_fam (GOK.cons call_szVal hS GOK.nil) Go.Proofs.Tryd.func44 (c := Go.Proofs.Tryd.f44.body.getD .skip) rfl (n := 27) rfl chk_szValS rs_szValS (fun _ => by simp) ?_ ?_
  · exact spSzTS_inj
  · rintro ⟨ks, left⟩ ⟨⟨h1, h2, h3, h4⟩, h5⟩
    simp only at h1 h2 h3 h4 h5
    simp only [lenB] at h1
    simp only [x_szValS, rg, go_sem, seval]
    refine ⟨by omega, fun _ => ⟨fun h => by simp only [szTS]; rw [if_pos h], fun h => ?_⟩⟩
    refine pw_loop (ι := Nat × Int) (fun i => ks.length - i.1) (fun i => i.1 ≤ ks.length ∧ 0 ≤ i.2 ∧ i.2 ≤ left ∧ szTL (ks.drop i.1) i.2 = szTS ks left)
      (fun i => ⟨[(0, .q (.c (.row 5 (encL ks)))), (1, .q (.c (.int .i64 i.2))), (5, .q (.c (.int .i64 i.1)))], [], []⟩) (0, left - ks.length) ⟨by omega, by omega, by omega, by simp only [szTS, List.drop_zero]; rw [if_neg h]⟩ (Le.refl _) ?_
    rintro ⟨i, l⟩ ⟨hi, hl0, hl, heq⟩
    simp only at hi hl0 hl heq
    rcases Nat.lt_or_ge i ks.length with hlt | hge
    · obtain ⟨t, hs, hdr, hmem⟩ := drop_at hlt
      have a1 := encL_at hs
      have a2 := fitL_mem h2 t hmem
      have a3 := size_mem hmem
      have a4 : ((i : Int) < (ks.length : Int)) = True := by simp; omega
      have a5 := szT_le (t := t) hl0
      have a6 := T.enc_len t
      have a7 : (szT t l < 0 → szTS ks left = -1) ∧ (¬ szT t l < 0 → szTL (ks.drop (i + 1)) (szT t l) = szTS ks left) := by
        rw [hdr] at heq
        simp only [szTL] at heq
        refine ⟨fun h => ?_, fun h => ?_⟩
        · rw [if_pos h] at heq; exact heq.symm
        · rw [if_neg h] at heq; exact heq
      simp only [go_sem, seval, rg, a1, a4, a6, toD_map, spSzT_md, spSzT_pre, spSzT_alts, spSzT_res, spSzT_out]
      repeat' (first | with_reducible assumption | with_reducible refine And.intro ?_ ?_ | intro _)
      all_goals first | omega | (exact a7.1 (by assumption)) | skip
      exact ⟨(i + 1, szT t l), ⟨by simp only; omega, by simp only; omega, by simp only; omega, a7.2 (by omega)⟩, by simp only; omega, Le.refl _⟩
    · have h7 : ((i : Int) < (ks.length : Int)) = False := by simp; omega
      rw [List.drop_eq_nil_of_le hge] at heq
      simp only [szTL] at heq
      simp only [go_sem, seval, h7]
      exact heq.symm
theorem sz_all (k : Nat) : Sound Go.Proofs.Tryd.prog 23 (spSzT k) ∧ Sound Go.Proofs.Tryd.prog 44 (spSzTS k) := by
  induction k with
  | zero => exact ⟨Sound.none, Sound.none⟩
  | succ k ih => exact ⟨szT_sound k ih.2, szTS_sound k ih.1⟩
noncomputable def spSzV  : Spec := Spec.of (ι := T × Int) [false, false] (fun i => [.d (.agg i.1.enc), .d (.one (.int .i64 i.2))]) (fun i => i.1.fit 140737488355328 ∧ 0 ≤ i.2 ∧ i.2 ≤ 1048576) (fun i => [.d (.one (.int .i64 (szT i.1 i.2)))]) (fun _ => [.gone, .gone])
theorem spSzV_inj : ∀ i j : T × Int, (fun (i : T × Int) => ([.d (.agg i.1.enc), .d (.one (.int .i64 i.2))] : List AV)) i = (fun (i : T × Int) => ([.d (.agg i.1.enc), .d (.one (.int .i64 i.2))] : List AV)) j → i = j := by
  rintro ⟨t, l⟩ ⟨t', l'⟩ h
  simp only [Prod.mk.injEq]
  simpa [strs_eq, T.enc_eq, encL_eq, F.enc_eq, encF_eq, Tk.enc_eq, encTk_eq, Gn.enc_eq, ints_eq] using h
theorem spSzV_md  : (spSzV).md = [false, false] := rfl
theorem spSzV_pre  (t : T) (l : Int) : (spSzV).pre [.d (.agg t.enc), .d (.one (.int .i64 l))] = (t.fit 140737488355328 ∧ 0 ≤ l ∧ l ≤ 1048576) := Spec.of_pre' spSzV_inj (t, l)
theorem spSzV_alts  : (spSzV).alts = none := rfl
theorem spSzV_res  (t : T) (l : Int) : (spSzV).res [.d (.agg t.enc), .d (.one (.int .i64 l))] = [.d (.one (.int .i64 (szT t l)))] := Spec.of_res spSzV_inj (t, l)
theorem spSzV_out  (t : T) (l : Int) : (spSzV).out [.d (.agg t.enc), .d (.one (.int .i64 l))] = [.gone, .gone] := Spec.of_out spSzV_inj (t, l)
theorem szV_sound : Sound Go.Proofs.Tryd.prog 23 spSzV := Sound.all (μ := fun i => SizeOf.sizeOf i.1) (fun k => (sz_all k).1)
end Go.Proofs.Pw
