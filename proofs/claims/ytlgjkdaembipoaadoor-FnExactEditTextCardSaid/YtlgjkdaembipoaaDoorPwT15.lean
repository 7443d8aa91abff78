/- Ways: which are, and one step. -/
import Derived.Test.YtlgjkdaembipoaaDoorPwT13
import Derived.Test.YtlgjkdaembipoaaDoorPwT14
import Derived.Test.YtlgjkdaembipoaaDoorPwT11
import Derived.Test.YtlgjkdaembipoaaDoorPwT10
import Derived.Test.YtlgjkdaembipoaaDoorProg
import Derived.KernelRfl
set_option linter.unusedSimpArgs false
set_option linter.unusedVariables false
set_option linter.unusedSimpArgs false
set_option maxRecDepth 20000
namespace Go.Proofs.Pw
set_option linter.unusedSectionVars false
variable [Globs]
def x_PathOkI : X := (.seq (.reg [⟨some 2, none, .mv (.k (.c (.bool false)))⟩] none [0]) (.seq (.seq (.reg [⟨some 5, none, .mv (.t 0)⟩, ⟨some 6, none, .len (.t 5) false⟩, ⟨some 7, none, .mv (.k (.c (.int .i64 0)))⟩] none [0, 5, 6, 7]) (.block 0 (.loop (.seq (.reg [⟨some 8, none, .bin false .lss (.t 7) (.t 6)⟩] none [0, 5, 6, 7, 8]) (.seq (.cond (.t 8) .skip (.exit 0)) (.seq (.block 1 (.seq (.reg [⟨some 9, none, .ia (.t 5) (.t 7) 3⟩, ⟨some 10, none, .load (.t 9) (some 3)⟩, ⟨some 4, none, .alloc [(.c (.bool false)), (.c (.str ⟨#[]⟩)), (.c (.int .i64 0))]⟩, ⟨none, none, .st (.t 4) (.t 10) (some 3)⟩] none [0, 4, 5, 6, 7]) (.seq (.reg [⟨some 11, none, .fa (.t 4) 0⟩, ⟨some 12, none, .load (.t 11) none⟩, ⟨some 13, none, .mv (.t 12)⟩, ⟨some 14, some (13, true), .fa (.t 4) 1⟩, ⟨some 15, some (13, true), .load (.t 14) none⟩, ⟨some 16, some (13, true), .call 61 [(.t 15)]⟩, ⟨some 17, some (13, true), .not (.t 16)⟩, ⟨some 18, some (13, true), .mv (.t 17)⟩, ⟨some 19, some (18, false), .fa (.t 4) 2⟩, ⟨some 20, some (18, false), .load (.t 19) none⟩, ⟨some 21, some (18, false), .bin false .neq (.t 20) (.k (.c (.int .i64 0)))⟩, ⟨some 22, some (13, true), .pick (.t 18) (.k (.c (.bool true))) (.t 21)⟩, ⟨some 23, none, .pick (.t 13) (.t 22) (.k (.c (.bool false)))⟩, ⟨some 24, none, .mv (.t 23)⟩, ⟨some 25, some (24, false), .fa (.t 4) 0⟩, ⟨some 26, some (24, false), .load (.t 25) none⟩, ⟨some 27, some (24, false), .not (.t 26)⟩, ⟨some 28, some (24, false), .mv (.t 27)⟩, ⟨some 29, some (28, true), .fa (.t 4) 1⟩, ⟨some 30, some (28, true), .load (.t 29) none⟩, ⟨some 31, some (28, true), .bin false .neq (.t 30) (.k (.c (.str ⟨#[]⟩)))⟩, ⟨some 32, some (28, true), .mv (.t 31)⟩, ⟨some 33, some (32, false), .fa (.t 4) 2⟩, ⟨some 34, some (32, false), .load (.t 33) none⟩, ⟨some 35, some (32, false), .call 62 [(.t 34), (.k (.c (.int .i64 (-60)))), (.k (.c (.int .i64 59)))]⟩, ⟨some 36, some (32, false), .not (.t 35)⟩, ⟨some 37, some (28, true), .pick (.t 32) (.k (.c (.bool true))) (.t 36)⟩, ⟨some 38, some (24, false), .pick (.t 28) (.t 37) (.k (.c (.bool false)))⟩, ⟨some 39, none, .pick (.t 24) (.k (.c (.bool true))) (.t 38)⟩] none [0, 5, 6, 7, 39]) (.cond (.t 39) (.seq (.reg [⟨some 2, none, .mv (.k (.c (.bool false)))⟩] none [2]) .ret) .skip)))) (.reg [⟨some 40, none, .bin false .add (.t 7) (.k (.c (.int .i64 1)))⟩, ⟨some 7, none, .mv (.t 40)⟩] none [0, 5, 6, 7]))))))) (.seq (.reg [⟨some 41, none, .mv (.t 0)⟩, ⟨some 42, none, .len (.t 41) false⟩, ⟨some 43, none, .bin false .leq (.t 42) (.k (.c (.int .i64 6)))⟩, ⟨some 2, none, .mv (.t 43)⟩] none [2]) .ret)))
theorem chk_PathOkI : chkX Go.Proofs.Tryd.prog 44 (Go.Proofs.Tryd.f40.body.getD .skip) x_PathOkI = true := by kernel_rfl
theorem rs_PathOkI : okRs Go.Proofs.Tryd.prog Go.Proofs.Tryd.f40.results.toList [.tmp 2] = true := by kernel_rfl
theorem call_PathOkI : okCallee Go.Proofs.Tryd.prog 40 = true := by kernel_rfl
def x_l3Step : X := (.seq (.reg [⟨some 1, none, .box (.t 0) (some 3)⟩, ⟨some 2, none, .mv (.k (.c (.bool false)))⟩] none [1]) (.seq (.seq (.reg [⟨some 3, none, .fa (.t 1) 0⟩, ⟨some 4, none, .load (.t 3) none⟩] none [1, 4]) (.cond (.t 4) (.seq (.reg [⟨some 5, none, .fa (.t 1) 1⟩, ⟨some 6, none, .load (.t 5) none⟩, ⟨some 7, none, .call 67 [(.t 6)]⟩, ⟨some 8, none, .mv (.t 7)⟩, ⟨some 9, some (8, true), .fa (.t 1) 2⟩, ⟨some 10, some (8, true), .load (.t 9) none⟩, ⟨some 11, some (8, true), .bin false .eql (.t 10) (.k (.c (.int .i64 0)))⟩, ⟨some 12, none, .pick (.t 8) (.t 11) (.k (.c (.bool false)))⟩, ⟨some 2, none, .mv (.t 12)⟩] none [2]) .ret) .skip)) (.seq (.reg [⟨some 13, none, .fa (.t 1) 1⟩, ⟨some 14, none, .load (.t 13) none⟩, ⟨some 15, none, .bin false .eql (.t 14) (.k (.c (.str ⟨#[]⟩)))⟩, ⟨some 16, none, .mv (.t 15)⟩, ⟨some 17, some (16, true), .fa (.t 1) 2⟩, ⟨some 18, some (16, true), .load (.t 17) none⟩, ⟨some 19, some (16, true), .bin false .geq (.t 18) (.k (.c (.int .i64 (-60))))⟩, ⟨some 20, none, .pick (.t 16) (.t 19) (.k (.c (.bool false)))⟩, ⟨some 21, none, .mv (.t 20)⟩, ⟨some 22, some (21, true), .fa (.t 1) 2⟩, ⟨some 23, some (21, true), .load (.t 22) none⟩, ⟨some 24, some (21, true), .bin false .lss (.t 23) (.k (.c (.int .i64 60)))⟩, ⟨some 25, none, .pick (.t 21) (.t 24) (.k (.c (.bool false)))⟩, ⟨some 2, none, .mv (.t 25)⟩] none [2]) .ret)))
theorem chk_l3Step : chkX Go.Proofs.Tryd.prog 26 (Go.Proofs.Tryd.f54.body.getD .skip) x_l3Step = true := by kernel_rfl
theorem rs_l3Step : okRs Go.Proofs.Tryd.prog Go.Proofs.Tryd.f54.results.toList [.tmp 2] = true := by kernel_rfl
theorem call_l3Step : okCallee Go.Proofs.Tryd.prog 54 = true := by kernel_rfl
def x_PathOk : X := (.seq (.reg [⟨some 2, none, .mv (.k (.c (.bool false)))⟩] none [0]) (.seq (.seq (.reg [⟨some 3, none, .mv (.k (.c (.int .i64 0)))⟩] none [0, 3]) (.block 0 (.loop (.seq (.seq (.reg [⟨some 4, none, .mv (.t 3)⟩, ⟨some 5, none, .mv (.t 0)⟩, ⟨some 6, none, .len (.t 5) false⟩, ⟨some 7, none, .bin false .lss (.t 4) (.t 6)⟩] none [0, 3, 7]) (.cond (.t 7) .skip (.exit 0))) (.seq (.block 1 (.seq (.reg [⟨some 10, none, .mv (.t 0)⟩, ⟨some 11, none, .mv (.t 3)⟩, ⟨some 12, none, .ia (.t 10) (.t 11) 3⟩, ⟨some 13, none, .load (.t 12) (some 3)⟩, ⟨some 14, none, .call 54 [(.t 13)]⟩, ⟨some 15, none, .not (.t 14)⟩] none [0, 3, 15]) (.cond (.t 15) (.seq (.reg [⟨some 2, none, .mv (.k (.c (.bool false)))⟩] none [2]) .ret) .skip))) (.reg [⟨some 8, none, .mv (.t 3)⟩, ⟨some 9, none, .bin false .add (.t 8) (.k (.c (.int .i64 1)))⟩, ⟨some 3, none, .mv (.t 9)⟩] none [0, 3])))))) (.seq (.reg [⟨some 16, none, .mv (.t 0)⟩, ⟨some 17, none, .len (.t 16) false⟩, ⟨some 18, none, .bin false .leq (.t 17) (.k (.c (.int .i64 6)))⟩, ⟨some 2, none, .mv (.t 18)⟩] none [2]) .ret)))
theorem chk_PathOk : chkX Go.Proofs.Tryd.prog 19 (Go.Proofs.Tryd.f34.body.getD .skip) x_PathOk = true := by kernel_rfl
theorem rs_PathOk : okRs Go.Proofs.Tryd.prog Go.Proofs.Tryd.f34.results.toList [.tmp 2] = true := by kernel_rfl
theorem call_PathOk : okCallee Go.Proofs.Tryd.prog 34 = true := by kernel_rfl
theorem wayOk_at {p : List Stp} {i : Nat} {s : Stp} (h : p[i]? = some s) (hn : ¬ stpOk s) : ¬ wayOk p := fun hw => hn (hw.1 s (List.mem_of_getElem? h))
theorem wayOk_all {p : List Stp} (h : ∀ s ∈ p.take p.length, stpOk s) : wayOk p ↔ p.length ≤ 6 := ⟨fun h => h.2, fun h6 => ⟨by simpa using h, h6⟩⟩
theorem take_all_step {p : List Stp} {i : Nat} {s : Stp} (h : p[i]? = some s) (ha : ∀ s ∈ p.take i, stpOk s) (hs : stpOk s) : ∀ s ∈ p.take (i + 1), stpOk s := by
  rw [List.take_add_one, h]
  intro x hx
  simp only [Option.toList_some, List.mem_append, List.mem_singleton] at hx
  rcases hx with hx | rfl
  · exact ha x hx
  · exact hs
noncomputable def spL3Step  : Spec := Spec.of (ι := Stp) [false] (fun i => [.d (.agg i.enc)]) (fun i => stpFit i) (fun i => [.d (.one (.bool (decide (stpOk i))))]) (fun _ => [.gone])
theorem spL3Step_inj : ∀ i j : Stp, (fun (i : Stp) => ([.d (.agg i.enc)] : List AV)) i = (fun (i : Stp) => ([.d (.agg i.enc)] : List AV)) j → i = j := by
  intro s s' h
  simpa [strs_eq, T.enc_eq, encL_eq, F.enc_eq, encF_eq, Tk.enc_eq, encTk_eq, Gn.enc_eq, ints_eq, encS_eq, Stp.enc_eq] using h
theorem spL3Step_md  : (spL3Step).md = [false] := rfl
theorem spL3Step_pre  (s : Stp) : (spL3Step).pre [.d (.agg s.enc)] = (stpFit s) := Spec.of_pre' spL3Step_inj s
theorem spL3Step_alts  : (spL3Step).alts = none := rfl
theorem spL3Step_res  (s : Stp) : (spL3Step).res [.d (.agg s.enc)] = [.d (.one (.bool (decide (stpOk s))))] := Spec.of_res spL3Step_inj s
theorem spL3Step_out  (s : Stp) : (spL3Step).out [.d (.agg s.enc)] = [.gone] := Spec.of_out spL3Step_inj s
theorem l3Step_sound : Sound Go.Proofs.Tryd.prog 54 spL3Step := by
  refine sound_fam (GOK.cons call_l1Str l1Str_sound GOK.nil) Go.Proofs.Tryd.func54 (c := Go.Proofs.Tryd.f54.body.getD .skip) rfl (n := 26) rfl chk_l3Step rs_l3Step (fun _ => by simp) ?_ ?_
  · exact spL3Step_inj
  · rintro ⟨m, key, a⟩ ⟨h1, h2⟩
    simp only at h1 h2
    cases m with
    | true =>
      have e : stpOk ⟨true, key, a⟩ = (okS key ∧ a = 0) := by simp [stpOk]
      simp only [x_l3Step, rg, go_sem, seval, Stp.enc, e, spOkS_md, spOkS_pre, spOkS_alts, spOkS_res, spOkS_out]
      repeat' (first | with_reducible assumption | with_reducible refine And.intro ?_ ?_ | intro _)
      all_goals first | omega | assumption | skip
    | false =>
      have e : stpOk ⟨false, key, a⟩ = (key = ⟨#[]⟩ ∧ -60 ≤ a ∧ a ≤ 59) := by simp [stpOk]
      simp only [x_l3Step, rg, go_sem, seval, Stp.enc, e, spOkS_md, spOkS_pre, spOkS_alts, spOkS_res, spOkS_out]
      repeat' (first | with_reducible assumption | with_reducible refine And.intro ?_ ?_ | intro _)
      all_goals first | omega | assumption | skip
      exact decide_eq_decide.2 ⟨fun h => ⟨⟨h.1, h.2.1⟩, by omega⟩, fun h => ⟨h.1.1, h.1.2, by omega⟩⟩
noncomputable def spPathOk  : Spec := Spec.of (ι := (List Stp)) [false] (fun i => [.d (.one (.row 3 (encS i)))]) (fun i => wayFit i) (fun i => [.d (.one (.bool (decide (wayOk i))))]) (fun _ => [.gone])
theorem spPathOk_inj : ∀ i j : (List Stp), (fun (i : (List Stp)) => ([.d (.one (.row 3 (encS i)))] : List AV)) i = (fun (i : (List Stp)) => ([.d (.one (.row 3 (encS i)))] : List AV)) j → i = j := by
  intro p p' h
  simpa [strs_eq, T.enc_eq, encL_eq, F.enc_eq, encF_eq, Tk.enc_eq, encTk_eq, Gn.enc_eq, ints_eq, encS_eq, Stp.enc_eq] using h
theorem spPathOk_md  : (spPathOk).md = [false] := rfl
theorem spPathOk_pre  (p : List Stp) : (spPathOk).pre [.d (.one (.row 3 (encS p)))] = (wayFit p) := Spec.of_pre' spPathOk_inj p
theorem spPathOk_alts  : (spPathOk).alts = none := rfl
theorem spPathOk_res  (p : List Stp) : (spPathOk).res [.d (.one (.row 3 (encS p)))] = [.d (.one (.bool (decide (wayOk p))))] := Spec.of_res spPathOk_inj p
theorem spPathOk_out  (p : List Stp) : (spPathOk).out [.d (.one (.row 3 (encS p)))] = [.gone] := Spec.of_out spPathOk_inj p
theorem PathOk_sound : Sound Go.Proofs.Tryd.prog 34 spPathOk := by
  refine sound_fam (GOK.cons call_l3Step l3Step_sound GOK.nil) Go.Proofs.Tryd.func34 (c := Go.Proofs.Tryd.f34.body.getD .skip) rfl (n := 19) rfl chk_PathOk rs_PathOk (fun _ => by simp) ?_ ?_
  · exact spPathOk_inj
  · intro p h1
    have h1' := h1.1
    simp only [x_PathOk, rg, go_sem, seval]
    repeat' (first | with_reducible assumption | with_reducible refine And.intro ?_ ?_ | intro _)
    all_goals first | omega | skip
    refine pw_loop (ι := Nat) (fun i => p.length - i) (fun i => i ≤ p.length ∧ ∀ s ∈ p.take i, stpOk s)
      (fun i => ⟨[(0, .q (.c (.row 3 (encS p)))), (3, .q (.c (.int .i64 i)))], [], []⟩) 0 ⟨Nat.zero_le _, by simp⟩ (Le.of_eq (by simp)) ?_
    rintro i ⟨hi, ha⟩
    rcases Nat.lt_or_ge i p.length with hlt | hge
    · obtain ⟨s, hs, _, _⟩ := drop_at hlt
      have b1 : ((i : Int) < (p.length : Int)) = True := eq_true (by omega)
      have a1 := encS_at hs
      have f1 := wayFit_at h1 hs
      have l3 := Stp.len3 s
      by_cases c : stpOk s
      · have c' : stpOk s = True := eq_true c
        simp only [rg, go_sem, seval, Prod.fst, b1, a1, c', l3, encS_len, spL3Step_md, spL3Step_pre, spL3Step_alts, spL3Step_res, spL3Step_out]
        repeat' (first | with_reducible assumption | with_reducible refine And.intro ?_ ?_ | intro _)
        all_goals first | omega | assumption | exact Nat.le_refl _ | skip
        exact ⟨i + 1, ⟨by omega, take_all_step hs ha c⟩, by omega, Le.of_eq (by simp)⟩
      · have c' : stpOk s = False := eq_false c
        have e : wayOk p = False := eq_false (wayOk_at hs c)
        simp only [rg, go_sem, seval, Prod.fst, b1, a1, c', e, l3, encS_len, spL3Step_md, spL3Step_pre, spL3Step_alts, spL3Step_res, spL3Step_out]
        repeat' (first | with_reducible assumption | with_reducible refine And.intro ?_ ?_ | intro _)
        all_goals first | omega | assumption | exact Nat.le_refl _ | skip
    · obtain rfl : i = p.length := by omega
      have b1 : ((p.length : Int) < (p.length : Int)) = False := eq_false (by omega)
      have e : decide (wayOk p) = decide ((p.length : Int) ≤ 6) := decide_eq_decide.2 ((wayOk_all ha).trans ⟨fun h => by omega, fun h => by omega⟩)
      simp only [rg, go_sem, seval, Prod.fst, b1, e, encS_len]
      repeat' (first | with_reducible assumption | with_reducible refine And.intro ?_ ?_ | intro _)
      all_goals first | omega | assumption | skip
noncomputable def spPathOkI  : Spec := Spec.of (ι := (List Stp)) [false] (fun i => [.d (.one (.row 3 (encS i)))]) (fun i => wayFit i) (fun i => [.d (.one (.bool (decide (wayOk i))))]) (fun _ => [.gone])
theorem spPathOkI_inj : ∀ i j : (List Stp), (fun (i : (List Stp)) => ([.d (.one (.row 3 (encS i)))] : List AV)) i = (fun (i : (List Stp)) => ([.d (.one (.row 3 (encS i)))] : List AV)) j → i = j := by
  intro p p' h
  simpa [strs_eq, T.enc_eq, encL_eq, F.enc_eq, encF_eq, Tk.enc_eq, encTk_eq, Gn.enc_eq, ints_eq, encS_eq, Stp.enc_eq] using h
theorem spPathOkI_md  : (spPathOkI).md = [false] := rfl
theorem spPathOkI_pre  (p : List Stp) : (spPathOkI).pre [.d (.one (.row 3 (encS p)))] = (wayFit p) := Spec.of_pre' spPathOkI_inj p
theorem spPathOkI_alts  : (spPathOkI).alts = none := rfl
theorem spPathOkI_res  (p : List Stp) : (spPathOkI).res [.d (.one (.row 3 (encS p)))] = [.d (.one (.bool (decide (wayOk p))))] := Spec.of_res spPathOkI_inj p
theorem spPathOkI_out  (p : List Stp) : (spPathOkI).out [.d (.one (.row 3 (encS p)))] = [.gone] := Spec.of_out spPathOkI_inj p
set_option maxHeartbeats 2000000 in
theorem PathOkI_sound : Sound Go.Proofs.Tryd.prog 40 spPathOkI := by
  refine sound_fam (GOK.cons (l := [(62, spWithin)]) call_textOk textOk_sound (GOK.cons call_within within_sound GOK.nil)) Go.Proofs.Tryd.func40 (c := Go.Proofs.Tryd.f40.body.getD .skip) rfl (n := 44) rfl chk_PathOkI rs_PathOkI (fun _ => by simp) ?_ ?_
  · exact spPathOkI_inj
  · intro p h1
    have h1' := h1.1
    simp only [x_PathOkI, rg, go_sem, seval, Prod.fst, encS_len]
    repeat' (first | with_reducible assumption | with_reducible refine And.intro ?_ ?_ | intro _)
    all_goals first | omega | skip
    refine pw_loop (ι := Nat) (fun i => p.length - i) (fun i => i ≤ p.length ∧ ∀ s ∈ p.take i, stpOk s)
      (fun i => ⟨[(0, .q (.c (.row 3 (encS p)))), (5, .q (.c (.row 3 (encS p)))), (6, .q (.c (.int .i64 p.length))), (7, .q (.c (.int .i64 i)))], [], []⟩) 0 ⟨Nat.zero_le _, by simp⟩ (Le.sub (by simp) (by simp) (by simp)) ?_
    rintro i ⟨hi, ha⟩
    rcases Nat.lt_or_ge i p.length with hlt | hge
    · obtain ⟨s, hs, _, _⟩ := drop_at hlt
      have b1 : ((i : Int) < (p.length : Int)) = True := eq_true (by omega)
      have a1 := encS_at hs
      obtain ⟨f1, f2⟩ := wayFit_at h1 hs
      by_cases c : stpOk s
      · have step' := take_all_step hs ha c
        obtain ⟨m, key, a⟩ := s
        simp only at f1 f2
        cases m with
        | true =>
          obtain ⟨c1, c2⟩ : okS key ∧ a = 0 := by simpa [stpOk] using c
          subst c2
          have c1' : okS key = True := eq_true c1
          simp only [rg, go_sem, seval, Prod.fst, b1, a1, Stp.enc, c1', encS_len, spTextOk_md, spTextOk_pre, spTextOk_alts, spTextOk_res, spTextOk_out, spWithin_md, spWithin_pre, spWithin_alts, spWithin_res, spWithin_out]
          repeat' (first | with_reducible assumption | with_reducible refine And.intro ?_ ?_ | intro _)
          all_goals first | omega | assumption | skip
          exact ⟨i + 1, ⟨by omega, step'⟩, by omega, Le.sub (by simp) (by simp) (by simp)⟩
        | false =>
          obtain ⟨c1, c2, c3⟩ : key = ⟨#[]⟩ ∧ -60 ≤ a ∧ a ≤ 59 := by simpa [stpOk] using c
          subst c1
          have c2' : (-60 ≤ a ∧ a ≤ 59) = True := eq_true ⟨c2, c3⟩
          simp only [rg, go_sem, seval, Prod.fst, b1, a1, Stp.enc, c2', encS_len, spTextOk_md, spTextOk_pre, spTextOk_alts, spTextOk_res, spTextOk_out, spWithin_md, spWithin_pre, spWithin_alts, spWithin_res, spWithin_out]
          repeat' (first | with_reducible assumption | with_reducible refine And.intro ?_ ?_ | intro _)
          all_goals first | omega | assumption | skip
          exact ⟨i + 1, ⟨by omega, step'⟩, by omega, Le.sub (by simp) (by simp) (by simp)⟩
      · have e : wayOk p = False := eq_false (wayOk_at hs c)
        obtain ⟨m, key, a⟩ := s
        simp only at f1 f2
        cases m with
        | true =>
          have c0 : ¬ (okS key ∧ a = 0) := by simpa [stpOk] using c
          by_cases c1 : okS key
          · have c1' : okS key = True := eq_true c1
            have c2' : (a = 0) = False := eq_false (fun h => c0 ⟨c1, h⟩)
            simp only [rg, go_sem, seval, Prod.fst, b1, a1, e, Stp.enc, c1', c2', encS_len, spTextOk_md, spTextOk_pre, spTextOk_alts, spTextOk_res, spTextOk_out, spWithin_md, spWithin_pre, spWithin_alts, spWithin_res, spWithin_out]
            repeat' (first | with_reducible assumption | with_reducible refine And.intro ?_ ?_ | intro _)
            all_goals first | omega | assumption | skip
          · have c1' : okS key = False := eq_false c1
            simp only [rg, go_sem, seval, Prod.fst, b1, a1, e, Stp.enc, c1', encS_len, spTextOk_md, spTextOk_pre, spTextOk_alts, spTextOk_res, spTextOk_out, spWithin_md, spWithin_pre, spWithin_alts, spWithin_res, spWithin_out]
            repeat' (first | with_reducible assumption | with_reducible refine And.intro ?_ ?_ | intro _)
            all_goals first | omega | assumption | skip
        | false =>
          have c0 : ¬ (key = ⟨#[]⟩ ∧ -60 ≤ a ∧ a ≤ 59) := by simpa [stpOk] using c
          by_cases c1 : key = ⟨#[]⟩
          · subst c1
            have c2' : (-60 ≤ a ∧ a ≤ 59) = False := eq_false (fun h => c0 ⟨rfl, h⟩)
            simp only [rg, go_sem, seval, Prod.fst, b1, a1, e, Stp.enc, c2', encS_len, spTextOk_md, spTextOk_pre, spTextOk_alts, spTextOk_res, spTextOk_out, spWithin_md, spWithin_pre, spWithin_alts, spWithin_res, spWithin_out]
            repeat' (first | with_reducible assumption | with_reducible refine And.intro ?_ ?_ | intro _)
            all_goals first | omega | assumption | skip
          · have c1' : (key = ⟨#[]⟩) = False := eq_false c1
            simp only [rg, go_sem, seval, Prod.fst, b1, a1, e, Stp.enc, c1', encS_len, spTextOk_md, spTextOk_pre, spTextOk_alts, spTextOk_res, spTextOk_out, spWithin_md, spWithin_pre, spWithin_alts, spWithin_res, spWithin_out]
            repeat' (first | with_reducible assumption | with_reducible refine And.intro ?_ ?_ | intro _)
            all_goals first | omega | assumption | skip
    · obtain rfl : i = p.length := by omega
      have b1 : ((p.length : Int) < (p.length : Int)) = False := eq_false (by omega)
      have e : decide (wayOk p) = decide ((p.length : Int) ≤ 6) := decide_eq_decide.2 ((wayOk_all ha).trans ⟨fun h => by omega, fun h => by omega⟩)
      simp only [rg, go_sem, seval, Prod.fst, b1, e, encS_len]
      repeat' (first | with_reducible assumption | with_reducible refine And.intro ?_ ?_ | intro _)
      all_goals first | omega | assumption | skip
end Go.Proofs.Pw
/- Texts of ways, of trees that may be none, and of edits: both programs. -/
set_option linter.unusedSimpArgs false
set_option maxRecDepth 20000
namespace Go.Proofs.Pw
set_option linter.unusedSectionVars false
variable [Globs]
def x_l3Text : X := (.seq (.reg [⟨some 1, none, .box (.t 0) (some 3)⟩, ⟨some 2, none, .mv (.k (.c (.str ⟨#[]⟩)))⟩] none [1]) (.seq (.seq (.reg [⟨some 3, none, .fa (.t 1) 0⟩, ⟨some 4, none, .load (.t 3) none⟩] none [1, 4]) (.cond (.t 4) (.seq (.reg [⟨some 5, none, .fa (.t 1) 1⟩, ⟨some 6, none, .load (.t 5) none⟩, ⟨some 7, none, .bin false .add (.k (.c (.str ⟨#[46]⟩))) (.t 6)⟩, ⟨some 2, none, .mv (.t 7)⟩] none [2]) .ret) .skip)) (.seq (.reg [⟨some 8, none, .fa (.t 1) 2⟩, ⟨some 9, none, .load (.t 8) none⟩, ⟨some 10, none, .call 55 [(.t 9)]⟩, ⟨some 11, none, .bin false .add (.k (.c (.str ⟨#[91]⟩))) (.t 10)⟩, ⟨some 12, none, .bin false .add (.t 11) (.k (.c (.str ⟨#[93]⟩)))⟩, ⟨some 2, none, .mv (.t 12)⟩] none [2]) .ret)))
theorem chk_l3Text : chkX Go.Proofs.Tryd.prog 13 (Go.Proofs.Tryd.f35.body.getD .skip) x_l3Text = true := by kernel_rfl
theorem rs_l3Text : okRs Go.Proofs.Tryd.prog Go.Proofs.Tryd.f35.results.toList [.tmp 2] = true := by kernel_rfl
theorem call_l3Text : okCallee Go.Proofs.Tryd.prog 35 = true := by kernel_rfl
def x_PathText : X := (.seq (.reg [⟨some 2, none, .mv (.k (.c (.str ⟨#[]⟩)))⟩] none [0]) (.seq (.seq (.reg [⟨some 5, none, .mv (.t 0)⟩, ⟨some 6, none, .call 34 [(.t 5)]⟩, ⟨some 7, none, .not (.t 6)⟩] none [0, 7]) (.cond (.t 7) (.seq (.reg [⟨some 2, none, .mv (.k (.c (.str ⟨#[]⟩)))⟩] none [2]) .ret) .skip)) (.seq (.reg [⟨some 3, none, .mv (.k (.c (.str ⟨#[36]⟩)))⟩] none [0, 3]) (.seq (.seq (.reg [⟨some 4, none, .mv (.k (.c (.int .i64 0)))⟩] none [0, 3, 4]) (.block 0 (.loop (.seq (.seq (.reg [⟨some 8, none, .mv (.t 4)⟩, ⟨some 9, none, .mv (.t 0)⟩, ⟨some 10, none, .len (.t 9) false⟩, ⟨some 11, none, .bin false .lss (.t 8) (.t 10)⟩] none [0, 3, 4, 11]) (.cond (.t 11) .skip (.exit 0))) (.seq (.block 1 (.reg [⟨some 14, none, .mv (.t 3)⟩, ⟨some 15, none, .mv (.t 0)⟩, ⟨some 16, none, .mv (.t 4)⟩, ⟨some 17, none, .ia (.t 15) (.t 16) 3⟩, ⟨some 18, none, .load (.t 17) (some 3)⟩, ⟨some 19, none, .call 35 [(.t 18)]⟩, ⟨some 20, none, .bin false .add (.t 14) (.t 19)⟩, ⟨some 3, none, .mv (.t 20)⟩] none [0, 3, 4])) (.reg [⟨some 12, none, .mv (.t 4)⟩, ⟨some 13, none, .bin false .add (.t 12) (.k (.c (.int .i64 1)))⟩, ⟨some 4, none, .mv (.t 13)⟩] none [0, 3, 4])))))) (.seq (.reg [⟨some 21, none, .mv (.t 3)⟩, ⟨some 2, none, .mv (.t 21)⟩] none [2]) .ret)))))
theorem chk_PathText : chkX Go.Proofs.Tryd.prog 22 (Go.Proofs.Tryd.f16.body.getD .skip) x_PathText = true := by kernel_rfl
theorem rs_PathText : okRs Go.Proofs.Tryd.prog Go.Proofs.Tryd.f16.results.toList [.tmp 2] = true := by kernel_rfl
theorem call_PathText : okCallee Go.Proofs.Tryd.prog 16 = true := by kernel_rfl
def x_PathTextI : X := (.seq (.reg [⟨some 2, none, .mv (.k (.c (.str ⟨#[]⟩)))⟩] none [0]) (.seq (.seq (.reg [⟨some 6, none, .mv (.t 0)⟩, ⟨some 7, none, .call 40 [(.t 6)]⟩, ⟨some 8, none, .not (.t 7)⟩] none [0, 8]) (.cond (.t 8) (.seq (.reg [⟨some 2, none, .mv (.k (.c (.str ⟨#[]⟩)))⟩] none [2]) .ret) .skip)) (.seq (.reg [⟨some 3, none, .mv (.k (.c (.str ⟨#[36]⟩)))⟩] none [0, 3]) (.seq (.seq (.reg [⟨some 9, none, .mv (.t 0)⟩, ⟨some 10, none, .len (.t 9) false⟩, ⟨some 11, none, .mv (.k (.c (.int .i64 0)))⟩] none [3, 9, 10, 11]) (.block 0 (.loop (.seq (.reg [⟨some 12, none, .bin false .lss (.t 11) (.t 10)⟩] none [3, 9, 10, 11, 12]) (.seq (.cond (.t 12) .skip (.exit 0)) (.seq (.block 1 (.seq (.reg [⟨some 13, none, .ia (.t 9) (.t 11) 3⟩, ⟨some 14, none, .load (.t 13) (some 3)⟩, ⟨some 5, none, .alloc [(.c (.bool false)), (.c (.str ⟨#[]⟩)), (.c (.int .i64 0))]⟩, ⟨none, none, .st (.t 5) (.t 14) (some 3)⟩] none [3, 5, 9, 10, 11]) (.seq (.reg [⟨some 15, none, .fa (.t 5) 0⟩, ⟨some 16, none, .load (.t 15) none⟩] none [3, 5, 9, 10, 11, 16]) (.cond (.t 16) (.reg [⟨some 17, none, .mv (.t 3)⟩, ⟨some 18, none, .fa (.t 5) 1⟩, ⟨some 19, none, .load (.t 18) none⟩, ⟨some 20, none, .bin false .add (.k (.c (.str ⟨#[46]⟩))) (.t 19)⟩, ⟨some 21, none, .bin false .add (.t 17) (.t 20)⟩, ⟨some 3, none, .mv (.t 21)⟩] none [3, 9, 10, 11]) (.reg [⟨some 22, none, .mv (.t 3)⟩, ⟨some 23, none, .fa (.t 5) 2⟩, ⟨some 24, none, .load (.t 23) none⟩, ⟨some 25, none, .call 41 [(.t 24)]⟩, ⟨some 26, none, .bin false .add (.k (.c (.str ⟨#[91]⟩))) (.t 25)⟩, ⟨some 27, none, .bin false .add (.t 26) (.k (.c (.str ⟨#[93]⟩)))⟩, ⟨some 28, none, .bin false .add (.t 22) (.t 27)⟩, ⟨some 3, none, .mv (.t 28)⟩] none [3, 9, 10, 11]))))) (.reg [⟨some 29, none, .bin false .add (.t 11) (.k (.c (.int .i64 1)))⟩, ⟨some 11, none, .mv (.t 29)⟩] none [3, 9, 10, 11]))))))) (.seq (.reg [⟨some 30, none, .mv (.t 3)⟩, ⟨some 2, none, .mv (.t 30)⟩] none [2]) .ret)))))
theorem chk_PathTextI : chkX Go.Proofs.Tryd.prog 31 (Go.Proofs.Tryd.f21.body.getD .skip) x_PathTextI = true := by kernel_rfl
theorem rs_PathTextI : okRs Go.Proofs.Tryd.prog Go.Proofs.Tryd.f21.results.toList [.tmp 2] = true := by kernel_rfl
theorem call_PathTextI : okCallee Go.Proofs.Tryd.prog 21 = true := by kernel_rfl
def x_ValText : X := (.seq (.reg [⟨some 1, none, .box (.t 0) (some 5)⟩, ⟨some 2, none, .mv (.k (.c (.str ⟨#[]⟩)))⟩] none [1]) (.seq (.seq (.reg [⟨some 3, none, .load (.t 1) (some 5)⟩, ⟨some 4, none, .call 56 [(.t 3)]⟩, ⟨some 5, none, .not (.t 4)⟩] none [1, 5]) (.cond (.t 5) (.seq (.reg [⟨some 2, none, .mv (.k (.c (.str ⟨#[]⟩)))⟩] none [2]) .ret) .skip)) (.seq (.reg [⟨some 6, none, .load (.t 1) (some 5)⟩, ⟨some 7, none, .call 57 [(.t 6)]⟩, ⟨some 2, none, .mv (.t 7)⟩] none [2]) .ret)))
theorem chk_ValText : chkX Go.Proofs.Tryd.prog 8 (Go.Proofs.Tryd.f36.body.getD .skip) x_ValText = true := by kernel_rfl
theorem rs_ValText : okRs Go.Proofs.Tryd.prog Go.Proofs.Tryd.f36.results.toList [.tmp 2] = true := by kernel_rfl
theorem call_ValText : okCallee Go.Proofs.Tryd.prog 36 = true := by kernel_rfl
def x_ValTextI : X := (.seq (.reg [⟨some 1, none, .box (.t 0) (some 5)⟩, ⟨some 2, none, .mv (.k (.c (.str ⟨#[]⟩)))⟩] none [1]) (.seq (.seq (.reg [⟨some 3, none, .load (.t 1) (some 5)⟩, ⟨some 4, none, .call 38 [(.t 3)]⟩, ⟨some 5, none, .not (.t 4)⟩] none [1, 5]) (.cond (.t 5) (.seq (.reg [⟨some 2, none, .mv (.k (.c (.str ⟨#[]⟩)))⟩] none [2]) .ret) .skip)) (.seq (.reg [⟨some 6, none, .load (.t 1) (some 5)⟩, ⟨some 7, none, .call 39 [(.t 6)]⟩, ⟨some 2, none, .mv (.t 7)⟩] none [2]) .ret)))
theorem chk_ValTextI : chkX Go.Proofs.Tryd.prog 8 (Go.Proofs.Tryd.f20.body.getD .skip) x_ValTextI = true := by kernel_rfl
theorem rs_ValTextI : okRs Go.Proofs.Tryd.prog Go.Proofs.Tryd.f20.results.toList [.tmp 2] = true := by kernel_rfl
theorem call_ValTextI : okCallee Go.Proofs.Tryd.prog 20 = true := by kernel_rfl
def x_l5Side : X := (.seq (.reg [⟨some 2, none, .box (.t 0) (some 5)⟩, ⟨some 4, none, .mv (.k (.c (.str ⟨#[]⟩)))⟩] none [1, 2]) (.seq (.seq (.reg [⟨some 5, none, .mv (.t 1)⟩, ⟨some 6, none, .not (.t 5)⟩] none [2, 6]) (.cond (.t 6) (.seq (.reg [⟨some 4, none, .mv (.k (.c (.str ⟨#[45]⟩)))⟩] none [4]) .ret) .skip)) (.seq (.reg [⟨some 7, none, .load (.t 2) (some 5)⟩, ⟨some 8, none, .call 36 [(.t 7)]⟩, ⟨some 4, none, .mv (.t 8)⟩] none [4]) .ret)))
theorem chk_l5Side : chkX Go.Proofs.Tryd.prog 9 (Go.Proofs.Tryd.f17.body.getD .skip) x_l5Side = true := by kernel_rfl
theorem rs_l5Side : okRs Go.Proofs.Tryd.prog Go.Proofs.Tryd.f17.results.toList [.tmp 4] = true := by kernel_rfl
theorem call_l5Side : okCallee Go.Proofs.Tryd.prog 17 = true := by kernel_rfl
def x_side : X := (.seq (.reg [⟨some 2, none, .box (.t 0) (some 5)⟩, ⟨some 4, none, .mv (.k (.c (.str ⟨#[]⟩)))⟩] none [1, 2]) (.seq (.seq (.reg [⟨some 5, none, .mv (.t 1)⟩, ⟨some 6, none, .not (.t 5)⟩] none [2, 6]) (.cond (.t 6) (.seq (.reg [⟨some 4, none, .mv (.k (.c (.str ⟨#[45]⟩)))⟩] none [4]) .ret) .skip)) (.seq (.reg [⟨some 7, none, .load (.t 2) (some 5)⟩, ⟨some 8, none, .call 20 [(.t 7)]⟩, ⟨some 4, none, .mv (.t 8)⟩] none [4]) .ret)))
theorem chk_side : chkX Go.Proofs.Tryd.prog 9 (Go.Proofs.Tryd.f19.body.getD .skip) x_side = true := by kernel_rfl
theorem rs_side : okRs Go.Proofs.Tryd.prog Go.Proofs.Tryd.f19.results.toList [.tmp 4] = true := by kernel_rfl
theorem call_side : okCallee Go.Proofs.Tryd.prog 19 = true := by kernel_rfl
def x_EditText : X := (.seq (.reg [⟨some 2, none, .mv (.k (.c (.str ⟨#[]⟩)))⟩] none [0]) (.seq (.reg [⟨some 3, none, .mv (.k (.c (.str ⟨#[]⟩)))⟩] none [0, 3]) (.seq (.seq (.reg [⟨some 4, none, .mv (.k (.c (.int .i64 0)))⟩] none [0, 3, 4]) (.block 0 (.loop (.seq (.seq (.reg [⟨some 5, none, .mv (.t 4)⟩, ⟨some 6, none, .mv (.t 0)⟩, ⟨some 7, none, .len (.t 6) false⟩, ⟨some 8, none, .bin false .lss (.t 5) (.t 7)⟩] none [0, 3, 4, 8]) (.cond (.t 8) .skip (.exit 0))) (.seq (.block 1 (.reg [⟨some 11, none, .mv (.t 3)⟩, ⟨some 12, none, .mv (.t 0)⟩, ⟨some 13, none, .mv (.t 4)⟩, ⟨some 14, none, .ia (.t 12) (.t 13) 13⟩, ⟨some 15, none, .fa (.t 14) 0⟩, ⟨some 16, none, .load (.t 15) none⟩, ⟨some 17, none, .call 16 [(.t 16)]⟩, ⟨some 18, none, .bin false .add (.t 11) (.t 17)⟩, ⟨some 19, none, .bin false .add (.t 18) (.k (.c (.str ⟨#[32]⟩)))⟩, ⟨some 20, none, .mv (.t 0)⟩, ⟨some 21, none, .mv (.t 4)⟩, ⟨some 22, none, .ia (.t 20) (.t 21) 13⟩, ⟨some 23, none, .fa (.t 22) 1⟩, ⟨some 24, none, .load (.t 23) (some 5)⟩, ⟨some 25, none, .mv (.t 0)⟩, ⟨some 26, none, .mv (.t 4)⟩, ⟨some 27, none, .ia (.t 25) (.t 26) 13⟩, ⟨some 28, none, .fa (.t 27) 6⟩, ⟨some 29, none, .load (.t 28) none⟩, ⟨some 30, none, .call 17 [(.t 24), (.t 29)]⟩, ⟨some 31, none, .bin false .add (.t 19) (.t 30)⟩, ⟨some 32, none, .bin false .add (.t 31) (.k (.c (.str ⟨#[32]⟩)))⟩, ⟨some 33, none, .mv (.t 0)⟩, ⟨some 34, none, .mv (.t 4)⟩, ⟨some 35, none, .ia (.t 33) (.t 34) 13⟩, ⟨some 36, none, .fa (.t 35) 7⟩, ⟨some 37, none, .load (.t 36) (some 5)⟩, ⟨some 38, none, .mv (.t 0)⟩, ⟨some 39, none, .mv (.t 4)⟩, ⟨some 40, none, .ia (.t 38) (.t 39) 13⟩, ⟨some 41, none, .fa (.t 40) 12⟩, ⟨some 42, none, .load (.t 41) none⟩, ⟨some 43, none, .call 17 [(.t 37), (.t 42)]⟩, ⟨some 44, none, .bin false .add (.t 32) (.t 43)⟩, ⟨some 45, none, .bin false .add (.t 44) (.k (.c (.str ⟨#[10]⟩)))⟩, ⟨some 3, none, .mv (.t 45)⟩] (some 33) [0, 3, 4])) (.reg [⟨some 9, none, .mv (.t 4)⟩, ⟨some 10, none, .bin false .add (.t 9) (.k (.c (.int .i64 1)))⟩, ⟨some 4, none, .mv (.t 10)⟩] none [0, 3, 4])))))) (.seq (.reg [⟨some 46, none, .mv (.t 3)⟩, ⟨some 2, none, .mv (.t 46)⟩] none [2]) .ret))))
theorem chk_EditText : chkX Go.Proofs.Tryd.prog 47 (Go.Proofs.Tryd.f6.body.getD .skip) x_EditText = true := by kernel_rfl
theorem rs_EditText : okRs Go.Proofs.Tryd.prog Go.Proofs.Tryd.f6.results.toList [.tmp 2] = true := by kernel_rfl
theorem call_EditText : okCallee Go.Proofs.Tryd.prog 6 = true := by kernel_rfl
def x_EditTextI : X := (.seq (.reg [⟨some 2, none, .mv (.k (.c (.str ⟨#[]⟩)))⟩] none [0]) (.seq (.reg [⟨some 3, none, .mv (.k (.c (.fn 19)))⟩] none [0, 3]) (.seq (.reg [⟨some 4, none, .mv (.k (.c (.str ⟨#[]⟩)))⟩] none [0, 3, 4]) (.seq (.seq (.reg [⟨some 7, none, .mv (.t 0)⟩, ⟨some 8, none, .len (.t 7) false⟩, ⟨some 9, none, .mv (.k (.c (.int .i64 0)))⟩] none [3, 4, 7, 8, 9]) (.block 0 (.loop (.seq (.reg [⟨some 10, none, .bin false .lss (.t 9) (.t 8)⟩] none [3, 4, 7, 8, 9, 10]) (.seq (.cond (.t 10) .skip (.exit 0)) (.seq (.block 1 (.seq (.reg [⟨some 11, none, .ia (.t 7) (.t 9) 13⟩, ⟨some 12, none, .load (.t 11) (some 13)⟩, ⟨some 6, none, .alloc [(.z 3), (.c (.int .i64 0)), (.c (.int .i64 0)), (.c (.str ⟨#[]⟩)), (.z 1), (.z 5), (.c (.bool false)), (.c (.int .i64 0)), (.c (.int .i64 0)), (.c (.str ⟨#[]⟩)), (.z 1), (.z 5), (.c (.bool false))]⟩, ⟨none, none, .st (.t 6) (.t 12) (some 13)⟩] none [3, 4, 6, 7, 8, 9]) (.reg [⟨some 13, none, .mv (.t 4)⟩, ⟨some 14, none, .fa (.t 6) 0⟩, ⟨some 15, none, .load (.t 14) none⟩, ⟨some 16, none, .call 21 [(.t 15)]⟩, ⟨some 17, none, .bin false .add (.t 16) (.k (.c (.str ⟨#[32]⟩)))⟩, ⟨some 18, none, .mv (.t 3)⟩, ⟨some 19, none, .fa (.t 6) 1⟩, ⟨some 20, none, .load (.t 19) (some 5)⟩, ⟨some 21, none, .fa (.t 6) 6⟩, ⟨some 22, none, .load (.t 21) none⟩, ⟨some 23, none, .calli (.t 18) [(.t 20), (.t 22)]⟩, ⟨some 24, none, .bin false .add (.t 17) (.t 23)⟩, ⟨some 25, none, .bin false .add (.t 24) (.k (.c (.str ⟨#[32]⟩)))⟩, ⟨some 26, none, .mv (.t 3)⟩, ⟨some 27, none, .fa (.t 6) 7⟩, ⟨some 28, none, .load (.t 27) (some 5)⟩, ⟨some 29, none, .fa (.t 6) 12⟩, ⟨some 30, none, .load (.t 29) none⟩, ⟨some 31, none, .calli (.t 26) [(.t 28), (.t 30)]⟩, ⟨some 32, none, .bin false .add (.t 25) (.t 31)⟩, ⟨some 33, none, .bin false .add (.t 32) (.k (.c (.str ⟨#[10]⟩)))⟩, ⟨some 34, none, .bin false .add (.t 13) (.t 33)⟩, ⟨some 4, none, .mv (.t 34)⟩] (some 21) [3, 4, 7, 8, 9]))) (.reg [⟨some 35, none, .bin false .add (.t 9) (.k (.c (.int .i64 1)))⟩, ⟨some 9, none, .mv (.t 35)⟩] none [3, 4, 7, 8, 9]))))))) (.seq (.reg [⟨some 36, none, .mv (.t 4)⟩, ⟨some 2, none, .mv (.t 36)⟩] none [2]) .ret)))))
theorem chk_EditTextI : chkX Go.Proofs.Tryd.prog 37 (Go.Proofs.Tryd.f8.body.getD .skip) x_EditTextI = true := by kernel_rfl
theorem rs_EditTextI : okRs Go.Proofs.Tryd.prog Go.Proofs.Tryd.f8.results.toList [.tmp 2] = true := by kernel_rfl
theorem call_EditTextI : okCallee Go.Proofs.Tryd.prog 8 = true := by kernel_rfl
theorem foldVal' (vk vn : Int) (vs : ByteArray) (vks : List ByteArray) (vl : List T) : DV.agg [C.int .i64 vk, C.int .i64 vn, C.str vs, C.row 1 (strs vks), C.row 5 (encL vl)] = DV.agg (T.mk vk vn vs vks vl).enc := rfl
theorem q46 : (ByteArray.mk #[46]).size = 1 := rfl
theorem q91 : (ByteArray.mk #[91]).size = 1 := rfl
theorem q93 : (ByteArray.mk #[93]).size = 1 := rfl
theorem q32' : (ByteArray.mk #[32]).size = 1 := rfl
theorem q10 : (ByteArray.mk #[10]).size = 1 := rfl
theorem stp_num {s : Stp} (h : stpOk s) (c : ¬ s.map = true) : -60 ≤ s.at' ∧ s.at' ≤ 59 := by
  unfold stpOk at h
  rw [if_neg c] at h; exact h.2
theorem stp_key {s : Stp} (h : stpOk s) : s.key.size ≤ 12 := by
  unfold stpOk at h
  split at h
  · exact h.1.2
  · rw [h.1]; decide
noncomputable def spL3Text  : Spec := Spec.of (ι := Stp) [false] (fun i => [.d (.agg i.enc)]) (fun i => stpOk i) (fun i => [.d (.one (.str (stepB i)))]) (fun _ => [.gone])
theorem spL3Text_inj : ∀ i j : Stp, (fun (i : Stp) => ([.d (.agg i.enc)] : List AV)) i = (fun (i : Stp) => ([.d (.agg i.enc)] : List AV)) j → i = j := by
  intro s s' h
  simpa [strs_eq, T.enc_eq, encL_eq, F.enc_eq, encF_eq, Tk.enc_eq, encTk_eq, Gn.enc_eq, ints_eq, encS_eq, encE_eq, Stp.enc_eq] using h
theorem spL3Text_md  : (spL3Text).md = [false] := rfl
theorem spL3Text_pre  (s : Stp) : (spL3Text).pre [.d (.agg s.enc)] = (stpOk s) := Spec.of_pre' spL3Text_inj s
theorem spL3Text_alts  : (spL3Text).alts = none := rfl
theorem spL3Text_res  (s : Stp) : (spL3Text).res [.d (.agg s.enc)] = [.d (.one (.str (stepB s)))] := Spec.of_res spL3Text_inj s
theorem spL3Text_out  (s : Stp) : (spL3Text).out [.d (.agg s.enc)] = [.gone] := Spec.of_out spL3Text_inj s
theorem l3Text_sound : Sound Go.Proofs.Tryd.prog 35 spL3Text := by
  refine sound_fam (GOK.cons call_l11Dec decV_sound GOK.nil) Go.Proofs.Tryd.func35 (c := Go.Proofs.Tryd.f35.body.getD .skip) rfl (n := 13) rfl chk_l3Text rs_l3Text (fun _ => by simp) ?_ ?_
  · exact spL3Text_inj
  · intro s h
    change stpOk s at h
    have hk := stp_key h
    have hn := stp_num h
    obtain ⟨m, k, n⟩ := s
    cases m with
    | true =>
      simp only at hk
      simp only [x_l3Text, rg, go_sem, seval, Prod.fst, Stp.enc, stepB, q46, if_true]
      repeat' (first | with_reducible assumption | with_reducible refine And.intro ?_ ?_ | intro _)
      all_goals first | omega | with_reducible assumption | skip
    | false =>
      have hn' := hn (by simp)
      simp only at hn' hk
      have z := itoaB_size (n := n) (by omega) (by omega)
      simp only [x_l3Text, rg, go_sem, seval, Prod.fst, Stp.enc, stepB, q91, q93, ByteArray.size_append, Bool.false_eq_true, if_false, spDecV_md, spDecV_pre, spDecV_alts, spDecV_res, spDecV_out]
      repeat' (first | with_reducible assumption | with_reducible refine And.intro ?_ ?_ | intro _)
      all_goals first | omega | with_reducible assumption | skip
noncomputable def spPathText  : Spec := Spec.of (ι := (List Stp)) [false] (fun i => [.d (.one (.row 3 (encS i)))]) (fun i => wayFit i) (fun i => [.d (.one (.str (pathText i)))]) (fun _ => [.gone])
theorem spPathText_inj : ∀ i j : (List Stp), (fun (i : (List Stp)) => ([.d (.one (.row 3 (encS i)))] : List AV)) i = (fun (i : (List Stp)) => ([.d (.one (.row 3 (encS i)))] : List AV)) j → i = j := by
  intro p p' h
  simpa [strs_eq, T.enc_eq, encL_eq, F.enc_eq, encF_eq, Tk.enc_eq, encTk_eq, Gn.enc_eq, ints_eq, encS_eq, encE_eq, Stp.enc_eq] using h
theorem spPathText_md  : (spPathText).md = [false] := rfl
theorem spPathText_pre  (p : List Stp) : (spPathText).pre [.d (.one (.row 3 (encS p)))] = (wayFit p) := Spec.of_pre' spPathText_inj p
theorem spPathText_alts  : (spPathText).alts = none := rfl
theorem spPathText_res  (p : List Stp) : (spPathText).res [.d (.one (.row 3 (encS p)))] = [.d (.one (.str (pathText p)))] := Spec.of_res spPathText_inj p
theorem spPathText_out  (p : List Stp) : (spPathText).out [.d (.one (.row 3 (encS p)))] = [.gone] := Spec.of_out spPathText_inj p
theorem pathText_sound : Sound Go.Proofs.Tryd.prog 16 spPathText := by
  refine sound_fam (GOK.cons (l := [(35, spL3Text)]) call_PathOk PathOk_sound (GOK.cons call_l3Text l3Text_sound GOK.nil)) Go.Proofs.Tryd.func16 (c := Go.Proofs.Tryd.f16.body.getD .skip) rfl (n := 22) rfl chk_PathText rs_PathText (fun _ => by simp) ?_ ?_
  · exact spPathText_inj
  · intro p h
    change wayFit p at h
    by_cases c : wayOk p
    · have hl := c.2
      have hz := fun i => stepsB_take_size c i
      have e1 : (ByteArray.mk #[36]).size = 1 := rfl
      simp only [x_PathText, rg, go_sem, seval, Prod.fst, c, encS_len, spPathOk_md, spPathOk_pre, spPathOk_alts, spPathOk_res, spPathOk_out]
      repeat' (first | with_reducible assumption | with_reducible refine And.intro ?_ ?_ | intro _)
      all_goals first | omega | with_reducible assumption | skip
      refine pw_loop (ι := Nat) (fun i => p.length - i) (fun i => i ≤ p.length)
        (fun i => ⟨[(0, .q (.c (.row 3 (encS p)))), (3, .q (.c (.str (⟨#[36]⟩ ++ stepsB (p.take i))))), (4, .q (.c (.int .i64 i)))], [], []⟩) 0 (Nat.zero_le _) (Le.of_eq (by simp [stepsB, ba_nil'])) ?_
      intro i hi
      rcases Nat.lt_or_ge i p.length with hlt | hge
      · obtain ⟨s, hs, _, hmem⟩ := drop_at hlt
        have a1 := encS_at hs
        have a2 : ((i : Int) < (p.length : Int)) = True := by simp; omega
        have a3 := c.1 s hmem
        have a4 := stepB_size a3
        have a5 := hz i
        have a6 : s.enc.length = 3 := rfl
        have a7 := stepsB_take hs
        simp only [rg, go_sem, seval, Prod.fst, a1, a2, a6, encS_len, e1, ByteArray.size_append, spL3Text_md, spL3Text_pre, spL3Text_alts, spL3Text_res, spL3Text_out]
        repeat' (first | with_reducible assumption | with_reducible refine And.intro ?_ ?_ | intro _)
        all_goals first | omega | with_reducible assumption | skip
        refine ⟨i + 1, hlt, by omega, Le.of_eq ?_⟩
        rw [a7]
        simp [ba_assoc]
      · have a2 : ((i : Int) < (p.length : Int)) = False := by simp; omega
        have a3 : p.take i = p := List.take_of_length_le hge
        simp only [rg, go_sem, seval, Prod.fst, a2, a3, encS_len, pathText, c, if_true]
    · simp only [x_PathText, rg, go_sem, seval, Prod.fst, c, encS_len, pathText, if_false, spPathOk_md, spPathOk_pre, spPathOk_alts, spPathOk_res, spPathOk_out]
      repeat' (first | with_reducible assumption | with_reducible refine And.intro ?_ ?_ | intro _)
      all_goals first | omega | with_reducible assumption | skip
theorem pathTextI_sound (hK : tabK) : Sound Go.Proofs.Tryd.prog 21 spPathText := by
  refine sound_fam (GOK.cons (l := [(41, spItoa)]) call_PathOkI PathOkI_sound (GOK.cons call_Itoa (itoa_sound hK) GOK.nil)) Go.Proofs.Tryd.func21 (c := Go.Proofs.Tryd.f21.body.getD .skip) rfl (n := 31) rfl chk_PathTextI rs_PathTextI (fun _ => by simp) ?_ ?_
  · exact spPathText_inj
  · intro p h
    change wayFit p at h
    by_cases c : wayOk p
    · have hl := c.2
      have hz := fun i => stepsB_take_size c i
      have e1 : (ByteArray.mk #[36]).size = 1 := rfl
      simp only [x_PathTextI, rg, go_sem, seval, Prod.fst, c, encS_len, spPathOkI_md, spPathOkI_pre, spPathOkI_alts, spPathOkI_res, spPathOkI_out]
      repeat' (first | with_reducible assumption | with_reducible refine And.intro ?_ ?_ | intro _)
      all_goals first | omega | with_reducible assumption | skip
      refine pw_loop (ι := Nat) (fun i => p.length - i) (fun i => i ≤ p.length)
        (fun i => ⟨[(3, .q (.c (.str (⟨#[36]⟩ ++ stepsB (p.take i))))), (9, .q (.c (.row 3 (encS p)))), (10, .q (.c (.int .i64 p.length))), (11, .q (.c (.int .i64 i)))], [], []⟩) 0 (Nat.zero_le _) (Le.of_eq (by simp [stepsB, ba_nil'])) ?_
      intro i hi
      rcases Nat.lt_or_ge i p.length with hlt | hge
      · obtain ⟨s, hs, _, hmem⟩ := drop_at hlt
        have a1 := encS_at hs
        have a2 : ((i : Int) < (p.length : Int)) = True := by simp; omega
        have a3 := c.1 s hmem
        have a4 := stepB_size a3
        have a5 := hz i
        have a7 := stepsB_take hs
        have hk := stp_key a3
        have hn := stp_num a3
        obtain ⟨m, k, n⟩ := s
        cases m with
        | true =>
          simp only at hk
          simp only [stepB, if_true] at a7
          simp only [rg, go_sem, seval, Prod.fst, a1, a2, encS_len, Stp.enc, e1, q46, ByteArray.size_append]
          repeat' (first | with_reducible assumption | with_reducible refine And.intro ?_ ?_ | intro _)
          all_goals first | omega | with_reducible assumption | skip
          refine ⟨i + 1, hlt, by omega, ?_⟩
          rw [a7]
          exact Le.sub (by simp [ba_assoc]) (by simp) (by simp)
        | false =>
          have hn' := hn (by simp)
          simp only at hn' hk
          have z := itoaB_size (n := n) (by omega) (by omega)
          have z2 : i64 n := by unfold i64; omega
          simp only [stepB, Bool.false_eq_true, if_false] at a7
          simp only [rg, go_sem, seval, Prod.fst, a1, a2, encS_len, Stp.enc, e1, q91, q93, ByteArray.size_append, spItoa_md, spItoa_pre, spItoa_alts, spItoa_res, spItoa_out]
          repeat' (first | with_reducible assumption | with_reducible refine And.intro ?_ ?_ | intro _)
          all_goals first | omega | with_reducible assumption | skip
          refine ⟨i + 1, hlt, by omega, ?_⟩
          rw [a7]
          exact Le.sub (by simp [ba_assoc]) (by simp) (by simp)
      · have a2 : ((i : Int) < (p.length : Int)) = False := by simp; omega
        have a3 : p.take i = p := List.take_of_length_le hge
        simp only [rg, go_sem, seval, Prod.fst, a2, a3, encS_len, pathText, c, if_true]
    · simp only [x_PathTextI, rg, go_sem, seval, Prod.fst, c, encS_len, pathText, if_false, spPathOkI_md, spPathOkI_pre, spPathOkI_alts, spPathOkI_res, spPathOkI_out]
      repeat' (first | with_reducible assumption | with_reducible refine And.intro ?_ ?_ | intro _)
      all_goals first | omega | with_reducible assumption | skip
noncomputable def spValText  : Spec := Spec.of (ι := T) [false] (fun i => [.d (.agg i.enc)]) (fun i => i.fit 140737488355328 ∧ sizeT i ≤ 1048577) (fun i => [.d (.one (.str (valText i)))]) (fun _ => [.gone])
theorem spValText_inj : ∀ i j : T, (fun (i : T) => ([.d (.agg i.enc)] : List AV)) i = (fun (i : T) => ([.d (.agg i.enc)] : List AV)) j → i = j := by
  intro t t' h
  simpa [strs_eq, T.enc_eq, encL_eq, F.enc_eq, encF_eq, Tk.enc_eq, encTk_eq, Gn.enc_eq, ints_eq, encS_eq, encE_eq, Stp.enc_eq] using h
theorem spValText_md  : (spValText).md = [false] := rfl
theorem spValText_pre  (t : T) : (spValText).pre [.d (.agg t.enc)] = (t.fit 140737488355328 ∧ sizeT t ≤ 1048577) := Spec.of_pre' spValText_inj t
theorem spValText_alts  : (spValText).alts = none := rfl
theorem spValText_res  (t : T) : (spValText).res [.d (.agg t.enc)] = [.d (.one (.str (valText t)))] := Spec.of_res spValText_inj t
theorem spValText_out  (t : T) : (spValText).out [.d (.agg t.enc)] = [.gone] := Spec.of_out spValText_inj t
theorem valText_sound : Sound Go.Proofs.Tryd.prog 36 spValText := by
  refine sound_fam (GOK.cons (l := [(57, spTxtV)]) call_ValOk sOkT_sound (GOK.cons call_l1Text txtV_sound GOK.nil)) Go.Proofs.Tryd.func36 (c := Go.Proofs.Tryd.f36.body.getD .skip) rfl (n := 8) rfl chk_ValText rs_ValText (fun _ => by simp) ?_ ?_
  · exact spValText_inj
  · rintro t ⟨h1, h2⟩
    by_cases c : okT t
    · have h4 := okTx_of c
      simp only [x_ValText, rg, go_sem, seval, Prod.fst, T.enc_len, c, valText, if_true, spOkT_md, spOkT_pre, spOkT_alts, spOkT_res, spOkT_out, spTxtV_md, spTxtV_pre, spTxtV_alts, spTxtV_res, spTxtV_out]
      repeat' (first | with_reducible assumption | with_reducible refine And.intro ?_ ?_ | intro _)
      all_goals first | omega | with_reducible assumption | skip
    · simp only [x_ValText, rg, go_sem, seval, Prod.fst, T.enc_len, c, valText, if_false, spOkT_md, spOkT_pre, spOkT_alts, spOkT_res, spOkT_out]
      repeat' (first | with_reducible assumption | with_reducible refine And.intro ?_ ?_ | intro _)
      all_goals first | omega | with_reducible assumption | skip
theorem valTextI_sound (hK : tabK) : Sound Go.Proofs.Tryd.prog 20 spValText := by
  refine sound_fam (GOK.cons (l := [(39, spTxtV)]) call_ValOkI valOkI_sound (GOK.cons call_textI (txtIV_sound hK) GOK.nil)) Go.Proofs.Tryd.func20 (c := Go.Proofs.Tryd.f20.body.getD .skip) rfl (n := 8) rfl chk_ValTextI rs_ValTextI (fun _ => by simp) ?_ ?_
  · exact spValText_inj
  · rintro t ⟨h1, h2⟩
    by_cases c : okT t
    · have h4 := okTx_of c
      have e : ((okI t 1 60).1 = true) = True := eq_true ((okI_iff t).2 c)
      simp only [x_ValTextI, rg, go_sem, seval, Prod.fst, T.enc_len, e, c, valText, if_true, spValOkI_md, spValOkI_pre, spValOkI_alts, spValOkI_res, spValOkI_out, spTxtV_md, spTxtV_pre, spTxtV_alts, spTxtV_res, spTxtV_out]
      repeat' (first | with_reducible assumption | with_reducible refine And.intro ?_ ?_ | intro _)
      all_goals first | omega | with_reducible assumption | skip
    · have e : ((okI t 1 60).1 = true) = False := eq_false (fun h => c ((okI_iff t).1 h))
      simp only [x_ValTextI, rg, go_sem, seval, Prod.fst, T.enc_len, e, c, valText, if_false, spValOkI_md, spValOkI_pre, spValOkI_alts, spValOkI_res, spValOkI_out]
      repeat' (first | with_reducible assumption | with_reducible refine And.intro ?_ ?_ | intro _)
      all_goals first | omega | with_reducible assumption | skip
noncomputable def spSide  : Spec := Spec.of (ι := T × Bool) [false, false] (fun i => [.d (.agg i.1.enc), .d (.one (.bool i.2))]) (fun i => i.1.fit 140737488355328 ∧ sizeT i.1 ≤ 1048577) (fun i => [.d (.one (.str (sideB i.1 i.2)))]) (fun _ => [.gone, .gone])
theorem spSide_inj : ∀ i j : T × Bool, (fun (i : T × Bool) => ([.d (.agg i.1.enc), .d (.one (.bool i.2))] : List AV)) i = (fun (i : T × Bool) => ([.d (.agg i.1.enc), .d (.one (.bool i.2))] : List AV)) j → i = j := by
  rintro ⟨t, b⟩ ⟨t', b'⟩ h
  simp only [Prod.mk.injEq]
  simpa [strs_eq, T.enc_eq, encL_eq, F.enc_eq, encF_eq, Tk.enc_eq, encTk_eq, Gn.enc_eq, ints_eq, encS_eq, encE_eq, Stp.enc_eq] using h
theorem spSide_md  : (spSide).md = [false, false] := rfl
theorem spSide_pre  (t : T) (b : Bool) : (spSide).pre [.d (.agg t.enc), .d (.one (.bool b))] = (t.fit 140737488355328 ∧ sizeT t ≤ 1048577) := Spec.of_pre' spSide_inj (t, b)
theorem spSide_alts  : (spSide).alts = none := rfl
theorem spSide_res  (t : T) (b : Bool) : (spSide).res [.d (.agg t.enc), .d (.one (.bool b))] = [.d (.one (.str (sideB t b)))] := Spec.of_res spSide_inj (t, b)
theorem spSide_out  (t : T) (b : Bool) : (spSide).out [.d (.agg t.enc), .d (.one (.bool b))] = [.gone, .gone] := Spec.of_out spSide_inj (t, b)
theorem l5Side_sound : Sound Go.Proofs.Tryd.prog 17 spSide := by
  refine sound_fam (GOK.cons call_ValText valText_sound GOK.nil) Go.Proofs.Tryd.func17 (c := Go.Proofs.Tryd.f17.body.getD .skip) rfl (n := 9) rfl chk_l5Side rs_l5Side (fun _ => by simp) ?_ ?_
  · exact spSide_inj
  · rintro ⟨t, b⟩ ⟨h1, h2⟩
    simp only at h1 h2
    cases b with
    | true =>
      simp only [x_l5Side, rg, go_sem, seval, Prod.fst, T.enc_len, sideB, if_true, spValText_md, spValText_pre, spValText_alts, spValText_res, spValText_out]
      repeat' (first | with_reducible assumption | with_reducible refine And.intro ?_ ?_ | intro _)
      all_goals first | omega | with_reducible assumption | skip
    | false =>
      simp only [x_l5Side, rg, go_sem, seval, Prod.fst, T.enc_len, sideB, Bool.false_eq_true, if_false]
      repeat' (first | with_reducible assumption | with_reducible refine And.intro ?_ ?_ | intro _)
      all_goals first | omega | with_reducible assumption | skip
theorem side_sound (hK : tabK) : Sound Go.Proofs.Tryd.prog 19 spSide := by
  refine sound_fam (GOK.cons call_ValTextI (valTextI_sound hK) GOK.nil) Go.Proofs.Tryd.func19 (c := Go.Proofs.Tryd.f19.body.getD .skip) rfl (n := 9) rfl chk_side rs_side (fun _ => by simp) ?_ ?_
  · exact spSide_inj
  · rintro ⟨t, b⟩ ⟨h1, h2⟩
    simp only at h1 h2
    cases b with
    | true =>
      simp only [x_side, rg, go_sem, seval, Prod.fst, T.enc_len, sideB, if_true, spValText_md, spValText_pre, spValText_alts, spValText_res, spValText_out]
      repeat' (first | with_reducible assumption | with_reducible refine And.intro ?_ ?_ | intro _)
      all_goals first | omega | with_reducible assumption | skip
    | false =>
      simp only [x_side, rg, go_sem, seval, Prod.fst, T.enc_len, sideB, Bool.false_eq_true, if_false]
      repeat' (first | with_reducible assumption | with_reducible refine And.intro ?_ ?_ | intro _)
      all_goals first | omega | with_reducible assumption | skip
noncomputable def spEditText  : Spec := Spec.of (ι := (List Ed)) [false] (fun i => [.d (.one (.row 13 (encE i)))]) (fun i => lenB 1048576 i.length ∧ fitEM i) (fun i => [.d (.one (.str (editsB i)))]) (fun _ => [.gone])
theorem spEditText_inj : ∀ i j : (List Ed), (fun (i : (List Ed)) => ([.d (.one (.row 13 (encE i)))] : List AV)) i = (fun (i : (List Ed)) => ([.d (.one (.row 13 (encE i)))] : List AV)) j → i = j := by
  intro l l' h
  simpa [strs_eq, T.enc_eq, encL_eq, F.enc_eq, encF_eq, Tk.enc_eq, encTk_eq, Gn.enc_eq, ints_eq, encS_eq, encE_eq, Stp.enc_eq] using h
theorem spEditText_md  : (spEditText).md = [false] := rfl
theorem spEditText_pre  (l : List Ed) : (spEditText).pre [.d (.one (.row 13 (encE l)))] = (lenB 1048576 l.length ∧ fitEM l) := Spec.of_pre' spEditText_inj l
theorem spEditText_alts  : (spEditText).alts = none := rfl
theorem spEditText_res  (l : List Ed) : (spEditText).res [.d (.one (.row 13 (encE l)))] = [.d (.one (.str (editsB l)))] := Spec.of_res spEditText_inj l
theorem spEditText_out  (l : List Ed) : (spEditText).out [.d (.one (.row 13 (encE l)))] = [.gone] := Spec.of_out spEditText_inj l
theorem ed_facts {e : Ed} (h : e.fitM) : wayFit e.path ∧ (e.was.fit 140737488355328 ∧ sizeT e.was ≤ 1048577) ∧ e.now.fit 140737488355328 ∧ sizeT e.now ≤ 1048577 :=
  ⟨h.2.1, ⟨T.fit_mono (by decide) h.2.2.1, h.2.2.2.2.1⟩, T.fit_mono (by decide) h.2.2.2.1, h.2.2.2.2.2⟩
set_option maxHeartbeats 2000000 in
theorem editText_sound : Sound Go.Proofs.Tryd.prog 6 spEditText := by
  refine sound_fam (GOK.cons (l := [(17, spSide)]) call_PathText pathText_sound (GOK.cons call_l5Side l5Side_sound GOK.nil)) Go.Proofs.Tryd.func6 (c := Go.Proofs.Tryd.f6.body.getD .skip) rfl (n := 47) rfl chk_EditText rs_EditText (fun _ => by simp) ?_ ?_
  · exact spEditText_inj
  · rintro l ⟨h1, h2⟩
    simp only [lenB] at h1
    simp only [x_EditText, rg, go_sem, seval, Prod.fst]
    refine pw_loop (ι := Nat) (fun i => l.length - i) (fun i => i ≤ l.length)
      (fun i => ⟨[(0, .q (.c (.row 13 (encE l)))), (3, .q (.c (.str (editsB (l.take i))))), (4, .q (.c (.int .i64 i)))], [], []⟩) 0 (Nat.zero_le _) (Le.of_eq (by simp [editsB])) ?_
    intro i hi
    rcases Nat.lt_or_ge i l.length with hlt | hge
    · obtain ⟨e, he, _, hmem⟩ := drop_at hlt
      have a1 := encE_at he
      have a2 : ((i : Int) < (l.length : Int)) = True := by simp; omega
      have a3 := ed_facts (h2 e hmem)
      have a5 := editsB_take he
      have a6 := editsB_size (l.take i)
      have a7 : (l.take i).length = i := by rw [List.length_take]; omega
      rw [a7] at a6
      obtain ⟨pt, ⟨wk, wn, ws, wks, wl⟩, hd, ⟨nk, nn, ns, nks, nl⟩, hs⟩ := e
      obtain ⟨b1, b2, b3⟩ := a3
      simp only at b1 b2 b3
      have c1 := pathText_size pt
      have c2 := sideB_size (T.mk wk wn ws wks wl) hd
      have c3 := sideB_size (T.mk nk nn ns nks nl) hs
      simp only [Ed.enc, T.enc, List.cons_append, List.nil_append] at a1
      simp only [rg, go_sem, seval, Prod.fst, a1, a2, encE_len, foldVal', q32', q10, ByteArray.size_append, spPathText_md, spPathText_pre, spPathText_alts, spPathText_res, spPathText_out, spSide_md, spSide_pre, spSide_alts, spSide_res, spSide_out]
      repeat' (first | with_reducible assumption | with_reducible refine And.intro ?_ ?_ | intro _)
      all_goals first | omega | with_reducible assumption | skip
      refine ⟨i + 1, hlt, by omega, Le.of_eq ?_⟩
      rw [a5]
      simp [editB, ba_assoc]
    · have a2 : ((i : Int) < (l.length : Int)) = False := by simp; omega
      have a3 : l.take i = l := List.take_of_length_le hge
      simp only [rg, go_sem, seval, Prod.fst, a2, a3, encE_len]
set_option maxHeartbeats 2000000 in
theorem editTextI_sound (hK : tabK) : Sound Go.Proofs.Tryd.prog 8 spEditText := by
  refine sound_fam (GOK.cons (l := [(19, spSide)]) call_PathTextI (pathTextI_sound hK) (GOK.cons call_side (side_sound hK) GOK.nil)) Go.Proofs.Tryd.func8 (c := Go.Proofs.Tryd.f8.body.getD .skip) rfl (n := 37) rfl chk_EditTextI rs_EditTextI (fun _ => by simp) ?_ ?_
  · exact spEditText_inj
  · rintro l ⟨h1, h2⟩
    simp only [lenB] at h1
    simp only [x_EditTextI, rg, go_sem, seval, Prod.fst, encE_len]
    repeat' (first | with_reducible assumption | with_reducible refine And.intro ?_ ?_ | intro _)
    all_goals first | omega | with_reducible assumption | skip
    refine pw_loop (ι := Nat) (fun i => l.length - i) (fun i => i ≤ l.length)
      (fun i => ⟨[(3, .q (.c (.fn 19))), (4, .q (.c (.str (editsB (l.take i))))), (7, .q (.c (.row 13 (encE l)))), (8, .q (.c (.int .i64 l.length))), (9, .q (.c (.int .i64 i)))], [], []⟩) 0 (Nat.zero_le _) (Le.of_eq (by simp [editsB])) ?_
    intro i hi
    rcases Nat.lt_or_ge i l.length with hlt | hge
    · obtain ⟨e, he, _, hmem⟩ := drop_at hlt
      have a1 := encE_at he
      have a2 : ((i : Int) < (l.length : Int)) = True := by simp; omega
      have a3 := ed_facts (h2 e hmem)
      have a5 := editsB_take he
      have a6 := editsB_size (l.take i)
      have a7 : (l.take i).length = i := by rw [List.length_take]; omega
      rw [a7] at a6
      obtain ⟨pt, ⟨wk, wn, ws, wks, wl⟩, hd, ⟨nk, nn, ns, nks, nl⟩, hs⟩ := e
      obtain ⟨b1, b2, b3⟩ := a3
      simp only at b1 b2 b3
      have c1 := pathText_size pt
      have c2 := sideB_size (T.mk wk wn ws wks wl) hd
      have c3 := sideB_size (T.mk nk nn ns nks nl) hs
      simp only [Ed.enc, T.enc, List.cons_append, List.nil_append] at a1
      simp only [rg, go_sem, seval, Prod.fst, a1, a2, encE_len, foldVal', q32', q10, ByteArray.size_append, spPathText_md, spPathText_pre, spPathText_alts, spPathText_res, spPathText_out, spSide_md, spSide_pre, spSide_alts, spSide_res, spSide_out]
      repeat' (first | with_reducible assumption | with_reducible refine And.intro ?_ ?_ | intro _)
      all_goals first | omega | with_reducible assumption | skip
      refine ⟨i + 1, hlt, by omega, ?_⟩
      rw [a5]
      exact Le.sub (by simp [editB, ba_assoc]) (by simp) (by simp)
    · have a2 : ((i : Int) < (l.length : Int)) = False := by simp; omega
      have a3 : l.take i = l := List.take_of_length_le hge
      simp only [rg, go_sem, seval, Prod.fst, a2, a3, encE_len]
end Go.Proofs.Pw
/- Marks: the functions that write them, and that look for them. -/

set_option linter.unusedSimpArgs false
set_option maxRecDepth 20000
namespace Go.Proofs.Pw
set_option linter.unusedSectionVars false
attribute [go_sem] flatP flatS flatC bytesL callM agPts agOwn agPut Q.killL finAg agFin initAg List.mem_singleton List.mem_cons List.not_mem_nil List.set_cons_succ List.set_cons_zero
variable [Globs]
end Go.Proofs.Pw
