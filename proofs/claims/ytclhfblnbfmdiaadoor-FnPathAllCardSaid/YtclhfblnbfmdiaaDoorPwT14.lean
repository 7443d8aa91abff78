/- Ways: which are, and one step. -/
import Derived.Test.YtclhfblnbfmdiaaDoorPwT12
import Derived.Test.YtclhfblnbfmdiaaDoorPwT13
import Derived.Test.YtclhfblnbfmdiaaDoorPwT11
set_option linter.unusedSimpArgs false
set_option linter.unusedVariables false
set_option linter.unusedSimpArgs false
set_option maxRecDepth 20000
namespace Go.Proofs.Pw
set_option linter.unusedSectionVars false
variable [Globs]
def x_PathOkI : X := (.seq (.reg [⟨some 2, none, .mv (.k (.c (.bool false)))⟩] none [0]) (.seq (.seq (.reg [⟨some 5, none, .mv (.t 0)⟩, ⟨some 6, none, .len (.t 5) false⟩, ⟨some 7, none, .mv (.k (.c (.int .i64 0)))⟩] none [0, 5, 6, 7]) (.block 0 (.loop (.seq (.reg [⟨some 8, none, .bin false .lss (.t 7) (.t 6)⟩] none [0, 5, 6, 7, 8]) (.seq (.cond (.t 8) .skip (.exit 0)) (.seq (.block 1 (.seq (.reg [⟨some 9, none, .ia (.t 5) (.t 7) 3⟩, ⟨some 10, none, .load (.t 9) (some 3)⟩, ⟨some 4, none, .alloc [(.c (.bool false)), (.c (.str ⟨#[]⟩)), (.c (.int .i64 0))]⟩, ⟨none, none, .st (.t 4) (.t 10) (some 3)⟩] none [0, 4, 5, 6, 7]) (.seq (.reg [⟨some 11, none, .fa (.t 4) 0⟩, ⟨some 12, none, .load (.t 11) none⟩, ⟨some 13, none, .mv (.t 12)⟩, ⟨some 14, some (13, true), .fa (.t 4) 1⟩, ⟨some 15, some (13, true), .load (.t 14) none⟩, ⟨some 16, some (13, true), .call 38 [(.t 15)]⟩, ⟨some 17, some (13, true), .not (.t 16)⟩, ⟨some 18, some (13, true), .mv (.t 17)⟩, ⟨some 19, some (18, false), .fa (.t 4) 2⟩, ⟨some 20, some (18, false), .load (.t 19) none⟩, ⟨some 21, some (18, false), .bin false .neq (.t 20) (.k (.c (.int .i64 0)))⟩, ⟨some 22, some (13, true), .pick (.t 18) (.k (.c (.bool true))) (.t 21)⟩, ⟨some 23, none, .pick (.t 13) (.t 22) (.k (.c (.bool false)))⟩, ⟨some 24, none, .mv (.t 23)⟩, ⟨some 25, some (24, false), .fa (.t 4) 0⟩, ⟨some 26, some (24, false), .load (.t 25) none⟩, ⟨some 27, some (24, false), .not (.t 26)⟩, ⟨some 28, some (24, false), .mv (.t 27)⟩, ⟨some 29, some (28, true), .fa (.t 4) 1⟩, ⟨some 30, some (28, true), .load (.t 29) none⟩, ⟨some 31, some (28, true), .bin false .neq (.t 30) (.k (.c (.str ⟨#[]⟩)))⟩, ⟨some 32, some (28, true), .mv (.t 31)⟩, ⟨some 33, some (32, false), .fa (.t 4) 2⟩, ⟨some 34, some (32, false), .load (.t 33) none⟩, ⟨some 35, some (32, false), .call 39 [(.t 34), (.k (.c (.int .i64 (-60)))), (.k (.c (.int .i64 59)))]⟩, ⟨some 36, some (32, false), .not (.t 35)⟩, ⟨some 37, some (28, true), .pick (.t 32) (.k (.c (.bool true))) (.t 36)⟩, ⟨some 38, some (24, false), .pick (.t 28) (.t 37) (.k (.c (.bool false)))⟩, ⟨some 39, none, .pick (.t 24) (.k (.c (.bool true))) (.t 38)⟩] none [0, 5, 6, 7, 39]) (.cond (.t 39) (.seq (.reg [⟨some 2, none, .mv (.k (.c (.bool false)))⟩] none [2]) .ret) .skip)))) (.reg [⟨some 40, none, .bin false .add (.t 7) (.k (.c (.int .i64 1)))⟩, ⟨some 7, none, .mv (.t 40)⟩] none [0, 5, 6, 7]))))))) (.seq (.reg [⟨some 41, none, .mv (.t 0)⟩, ⟨some 42, none, .len (.t 41) false⟩, ⟨some 43, none, .bin false .leq (.t 42) (.k (.c (.int .i64 6)))⟩, ⟨some 2, none, .mv (.t 43)⟩] none [2]) .ret)))
theorem chk_PathOkI : chkX Go.Proofs.Tryd.prog 44 (Go.Proofs.Tryd.f20.body.getD .skip) x_PathOkI = true := by kernel_rfl
theorem rs_PathOkI : okRs Go.Proofs.Tryd.prog Go.Proofs.Tryd.f20.results.toList [.tmp 2] = true := by kernel_rfl
theorem call_PathOkI : okCallee Go.Proofs.Tryd.prog 20 = true := by kernel_rfl
def x_l3Step : X := (.seq (.reg [⟨some 1, none, .box (.t 0) (some 3)⟩, ⟨some 2, none, .mv (.k (.c (.bool false)))⟩] none [1]) (.seq (.seq (.reg [⟨some 3, none, .fa (.t 1) 0⟩, ⟨some 4, none, .load (.t 3) none⟩] none [1, 4]) (.cond (.t 4) (.seq (.reg [⟨some 5, none, .fa (.t 1) 1⟩, ⟨some 6, none, .load (.t 5) none⟩, ⟨some 7, none, .call 50 [(.t 6)]⟩, ⟨some 8, none, .mv (.t 7)⟩, ⟨some 9, some (8, true), .fa (.t 1) 2⟩, ⟨some 10, some (8, true), .load (.t 9) none⟩, ⟨some 11, some (8, true), .bin false .eql (.t 10) (.k (.c (.int .i64 0)))⟩, ⟨some 12, none, .pick (.t 8) (.t 11) (.k (.c (.bool false)))⟩, ⟨some 2, none, .mv (.t 12)⟩] none [2]) .ret) .skip)) (.seq (.reg [⟨some 13, none, .fa (.t 1) 1⟩, ⟨some 14, none, .load (.t 13) none⟩, ⟨some 15, none, .bin false .eql (.t 14) (.k (.c (.str ⟨#[]⟩)))⟩, ⟨some 16, none, .mv (.t 15)⟩, ⟨some 17, some (16, true), .fa (.t 1) 2⟩, ⟨some 18, some (16, true), .load (.t 17) none⟩, ⟨some 19, some (16, true), .bin false .geq (.t 18) (.k (.c (.int .i64 (-60))))⟩, ⟨some 20, none, .pick (.t 16) (.t 19) (.k (.c (.bool false)))⟩, ⟨some 21, none, .mv (.t 20)⟩, ⟨some 22, some (21, true), .fa (.t 1) 2⟩, ⟨some 23, some (21, true), .load (.t 22) none⟩, ⟨some 24, some (21, true), .bin false .lss (.t 23) (.k (.c (.int .i64 60)))⟩, ⟨some 25, none, .pick (.t 21) (.t 24) (.k (.c (.bool false)))⟩, ⟨some 2, none, .mv (.t 25)⟩] none [2]) .ret)))
theorem chk_l3Step : chkX Go.Proofs.Tryd.prog 26 (Go.Proofs.Tryd.f41.body.getD .skip) x_l3Step = true := by kernel_rfl
theorem rs_l3Step : okRs Go.Proofs.Tryd.prog Go.Proofs.Tryd.f41.results.toList [.tmp 2] = true := by kernel_rfl
theorem call_l3Step : okCallee Go.Proofs.Tryd.prog 41 = true := by kernel_rfl
def x_PathOk : X := (.seq (.reg [⟨some 2, none, .mv (.k (.c (.bool false)))⟩] none [0]) (.seq (.seq (.reg [⟨some 3, none, .mv (.k (.c (.int .i64 0)))⟩] none [0, 3]) (.block 0 (.loop (.seq (.seq (.reg [⟨some 4, none, .mv (.t 3)⟩, ⟨some 5, none, .mv (.t 0)⟩, ⟨some 6, none, .len (.t 5) false⟩, ⟨some 7, none, .bin false .lss (.t 4) (.t 6)⟩] none [0, 3, 7]) (.cond (.t 7) .skip (.exit 0))) (.seq (.block 1 (.seq (.reg [⟨some 10, none, .mv (.t 0)⟩, ⟨some 11, none, .mv (.t 3)⟩, ⟨some 12, none, .ia (.t 10) (.t 11) 3⟩, ⟨some 13, none, .load (.t 12) (some 3)⟩, ⟨some 14, none, .call 41 [(.t 13)]⟩, ⟨some 15, none, .not (.t 14)⟩] none [0, 3, 15]) (.cond (.t 15) (.seq (.reg [⟨some 2, none, .mv (.k (.c (.bool false)))⟩] none [2]) .ret) .skip))) (.reg [⟨some 8, none, .mv (.t 3)⟩, ⟨some 9, none, .bin false .add (.t 8) (.k (.c (.int .i64 1)))⟩, ⟨some 3, none, .mv (.t 9)⟩] none [0, 3])))))) (.seq (.reg [⟨some 16, none, .mv (.t 0)⟩, ⟨some 17, none, .len (.t 16) false⟩, ⟨some 18, none, .bin false .leq (.t 17) (.k (.c (.int .i64 6)))⟩, ⟨some 2, none, .mv (.t 18)⟩] none [2]) .ret)))
theorem chk_PathOk : chkX Go.Proofs.Tryd.prog 19 (Go.Proofs.Tryd.f22.body.getD .skip) x_PathOk = true := by kernel_rfl
theorem rs_PathOk : okRs Go.Proofs.Tryd.prog Go.Proofs.Tryd.f22.results.toList [.tmp 2] = true := by kernel_rfl
theorem call_PathOk : okCallee Go.Proofs.Tryd.prog 22 = true := by kernel_rfl
def x_place : X := (.seq (.reg [⟨some 2, none, .box (.t 0) (some 5)⟩, ⟨some 4, none, .mv (.k (.c (.int .i64 0)))⟩] none [1, 2]) (.seq (.seq (.reg [⟨some 5, none, .mv (.t 1)⟩, ⟨some 6, none, .bin false .lss (.t 5) (.k (.c (.int .i64 0)))⟩] none [1, 2, 6]) (.cond (.t 6) (.reg [⟨some 7, none, .mv (.t 1)⟩, ⟨some 8, none, .fa (.t 2) 4⟩, ⟨some 9, none, .load (.t 8) none⟩, ⟨some 10, none, .len (.t 9) false⟩, ⟨some 11, none, .bin false .add (.t 7) (.t 10)⟩, ⟨some 1, none, .mv (.t 11)⟩] none [1, 2]) .skip)) (.seq (.seq (.reg [⟨some 12, none, .mv (.t 1)⟩, ⟨some 13, none, .fa (.t 2) 4⟩, ⟨some 14, none, .load (.t 13) none⟩, ⟨some 15, none, .len (.t 14) false⟩, ⟨some 16, none, .bin false .sub (.t 15) (.k (.c (.int .i64 1)))⟩, ⟨some 17, none, .call 39 [(.t 12), (.k (.c (.int .i64 0))), (.t 16)]⟩, ⟨some 18, none, .not (.t 17)⟩] none [1, 18]) (.cond (.t 18) (.seq (.reg [⟨some 4, none, .mv (.k (.c (.int .i64 (-1))))⟩] none [4]) .ret) .skip)) (.seq (.reg [⟨some 19, none, .mv (.t 1)⟩, ⟨some 4, none, .mv (.t 19)⟩] none [4]) .ret))))
theorem chk_place : chkX Go.Proofs.Tryd.prog 20 (Go.Proofs.Tryd.f54.body.getD .skip) x_place = true := by kernel_rfl
theorem rs_place : okRs Go.Proofs.Tryd.prog Go.Proofs.Tryd.f54.results.toList [.tmp 4] = true := by kernel_rfl
theorem call_place : okCallee Go.Proofs.Tryd.prog 54 = true := by kernel_rfl
def x_at : X := (.seq (.reg [⟨some 2, none, .box (.t 0) (some 5)⟩, ⟨some 4, none, .alloc [(.c (.int .i64 0)), (.c (.int .i64 0)), (.c (.str ⟨#[]⟩)), (.z 1), (.z 5)]⟩, ⟨some 5, none, .mv (.k (.c (.bool false)))⟩] none [1, 2, 4]) (.seq (.seq (.reg [⟨some 7, none, .fa (.t 2) 0⟩, ⟨some 8, none, .load (.t 7) none⟩, ⟨some 9, none, .bin false .eql (.t 8) (.k (.c (.int .i64 5)))⟩] none [1, 2, 4, 9]) (.cond (.t 9) (.seq (.reg [⟨some 10, none, .load (.t 2) (some 5)⟩, ⟨some 11, none, .mv (.t 1)⟩, ⟨some 12, none, .call 54 [(.t 10), (.t 11)]⟩, ⟨some 6, none, .mv (.t 12)⟩] none [2, 4, 6]) (.seq (.reg [⟨some 13, none, .mv (.t 6)⟩, ⟨some 14, none, .bin false .geq (.t 13) (.k (.c (.int .i64 0)))⟩] none [2, 4, 6, 14]) (.cond (.t 14) (.seq (.reg [⟨some 15, none, .fa (.t 2) 4⟩, ⟨some 16, none, .load (.t 15) none⟩, ⟨some 17, none, .mv (.t 6)⟩, ⟨some 18, none, .ia (.t 16) (.t 17) 5⟩, ⟨some 19, none, .load (.t 18) (some 5)⟩, ⟨none, none, .st (.t 4) (.t 19) (some 5)⟩, ⟨some 5, none, .mv (.k (.c (.bool true)))⟩] none [4, 5]) .ret) .skip))) .skip)) (.seq (.mix [⟨some 20, none, .build [(.c (.int .i64 0)), (.c (.int .i64 0)), (.c (.str ⟨#[]⟩)), (.z 1), (.z 5)] []⟩, ⟨some 21, none, .fa (.t 2) 0⟩, ⟨some 22, none, .load (.t 21) none⟩, ⟨some 23, none, .bin false .eql (.t 22) (.k (.c (.int .i64 5)))⟩, ⟨some 24, none, .mv (.t 23)⟩, ⟨some 25, some (24, false), .fa (.t 2) 0⟩, ⟨some 26, some (24, false), .load (.t 25) none⟩, ⟨some 27, some (24, false), .bin false .eql (.t 26) (.k (.c (.int .i64 0)))⟩, ⟨some 28, none, .pick (.t 24) (.k (.c (.bool true))) (.t 27)⟩, ⟨none, none, .st (.t 4) (.t 20) (some 5)⟩] [⟨some 5, none, .mv (.t 28)⟩] [[], [], [], [], [], [], [], [], [], [6]] [4, 5]) .ret)))
theorem chk_at : chkX Go.Proofs.Tryd.prog 29 (Go.Proofs.Tryd.f44.body.getD .skip) x_at = true := by kernel_rfl
theorem rs_at : okRs Go.Proofs.Tryd.prog Go.Proofs.Tryd.f44.results.toList [.cell 4 (some 5), .tmp 5] = true := by kernel_rfl
theorem call_at : okCallee Go.Proofs.Tryd.prog 44 = true := by kernel_rfl
def x_vstep : X := (.seq (.reg [⟨some 2, none, .box (.t 0) (some 5)⟩, ⟨some 3, none, .box (.t 1) (some 3)⟩, ⟨some 4, none, .alloc [(.c (.int .i64 0)), (.c (.int .i64 0)), (.c (.str ⟨#[]⟩)), (.z 1), (.z 5)]⟩, ⟨some 5, none, .mv (.k (.c (.bool false)))⟩] none [2, 3, 4]) (.seq (.seq (.reg [⟨some 6, none, .fa (.t 3) 0⟩, ⟨some 7, none, .load (.t 6) none⟩] none [2, 3, 4, 7]) (.cond (.t 7) (.seq (.reg [⟨some 8, none, .load (.t 2) (some 5)⟩, ⟨some 9, none, .fa (.t 3) 1⟩, ⟨some 10, none, .load (.t 9) none⟩, ⟨some 11, none, .call 43 [(.t 8), (.t 10)]⟩, ⟨some 12, none, .ext (.t 11) 0⟩, ⟨some 13, none, .ext (.t 11) 1⟩, ⟨none, none, .st (.t 4) (.t 12) (some 5)⟩, ⟨some 5, none, .mv (.t 13)⟩] none [4, 5]) .ret) .skip)) (.seq (.reg [⟨some 14, none, .load (.t 2) (some 5)⟩, ⟨some 15, none, .fa (.t 3) 2⟩, ⟨some 16, none, .load (.t 15) none⟩, ⟨some 17, none, .call 44 [(.t 14), (.t 16)]⟩, ⟨some 18, none, .ext (.t 17) 0⟩, ⟨some 19, none, .ext (.t 17) 1⟩, ⟨none, none, .st (.t 4) (.t 18) (some 5)⟩, ⟨some 5, none, .mv (.t 19)⟩] none [4, 5]) .ret)))
theorem chk_vstep : chkX Go.Proofs.Tryd.prog 20 (Go.Proofs.Tryd.f24.body.getD .skip) x_vstep = true := by kernel_rfl
theorem rs_vstep : okRs Go.Proofs.Tryd.prog Go.Proofs.Tryd.f24.results.toList [.cell 4 (some 5), .tmp 5] = true := by kernel_rfl
theorem call_vstep : okCallee Go.Proofs.Tryd.prog 24 = true := by kernel_rfl
theorem wayOk_at {p : List Stp} {i : Nat} {s : Stp} (h : p[i]? = some s) (hn : ¬ stpOk s) : ¬ wayOk p := fun hw => hn (hw.1 s (List.mem_of_getElem? h))
theorem wayOk_all {p : List Stp} (h : ∀ s ∈ p.take p.length, stpOk s) : wayOk p ↔ p.length ≤ 6 := ⟨fun h => h.2, fun h6 => ⟨by simpa using h, h6⟩⟩
theorem take_all_step {p : List Stp} {i : Nat} {s : Stp} (h : p[i]? = some s) (ha : ∀ s ∈ p.take i, stpOk s) (hs : stpOk s) : ∀ s ∈ p.take (i + 1), stpOk s := by
  rw [List.take_add_one, h]
  intro x hx
  simp only [Option.toList_some, List.mem_append, List.mem_singleton] at hx
  rcases hx with hx | rfl
  · exact ha x hx
  · exact hs
noncomputable def spL3Step  : Spec := Spec.of (ι := Stp) [false] (fun i => [.d (.agg i.enc)]) (fun i => stpFit i) (fun i => [.d (.one (.bool (decide (stpOk i))))]) (fun _ => [.gone])
theorem spL3Step_inj : ∀ i j : Stp, (fun (i : Stp) => ([.d (.agg i.enc)] : List AV)) i = (fun (i : Stp) => ([.d (.agg i.enc)] : List AV)) j → i = j := by
  intro s s' h
  simpa [strs_eq, T.enc_eq, encL_eq, F.enc_eq, encF_eq, Tk.enc_eq, encTk_eq, Gn.enc_eq, ints_eq, encS_eq, Stp.enc_eq] using h
theorem spL3Step_md  : (spL3Step).md = [false] := rfl
theorem spL3Step_pre  (s : Stp) : (spL3Step).pre [.d (.agg s.enc)] = (stpFit s) := Spec.of_pre' spL3Step_inj s
theorem spL3Step_alts  : (spL3Step).alts = none := rfl
theorem spL3Step_res  (s : Stp) : (spL3Step).res [.d (.agg s.enc)] = [.d (.one (.bool (decide (stpOk s))))] := Spec.of_res spL3Step_inj s
theorem spL3Step_out  (s : Stp) : (spL3Step).out [.d (.agg s.enc)] = [.gone] := Spec.of_out spL3Step_inj s
theorem l3Step_sound : Sound Go.Proofs.Tryd.prog 41 spL3Step := by
  refine sound_fam (GOK.cons call_l1Str l1Str_sound GOK.nil) Go.Proofs.Tryd.func41 (c := Go.Proofs.Tryd.f41.body.getD .skip) rfl (n := 26) rfl chk_l3Step rs_l3Step (fun _ => by simp) ?_ ?_
  · exact spL3Step_inj
  · rintro ⟨m, key, a⟩ ⟨h1, h2⟩
    simp only at h1 h2
    cases m with
    | true =>
      have e : stpOk ⟨true, key, a⟩ = (okS key ∧ a = 0) := by simp [stpOk]
      simp only [x_l3Step, rg, go_sem, seval, Stp.enc, e, spOkS_md, spOkS_pre, spOkS_alts, spOkS_res, spOkS_out]
      repeat' (first | with_reducible assumption | with_reducible refine And.intro ?_ ?_ | intro _)
      all_goals first | omega | assumption | skip
    | false =>
      have e : stpOk ⟨false, key, a⟩ = (key = ⟨#[]⟩ ∧ -60 ≤ a ∧ a ≤ 59) := by simp [stpOk]
      simp only [x_l3Step, rg, go_sem, seval, Stp.enc, e, spOkS_md, spOkS_pre, spOkS_alts, spOkS_res, spOkS_out]
      repeat' (first | with_reducible assumption | with_reducible refine And.intro ?_ ?_ | intro _)
      all_goals first | omega | assumption | skip
      exact decide_eq_decide.2 ⟨fun h => ⟨⟨h.1, h.2.1⟩, by omega⟩, fun h => ⟨h.1.1, h.1.2, by omega⟩⟩
noncomputable def spPathOk  : Spec := Spec.of (ι := (List Stp)) [false] (fun i => [.d (.one (.row 3 (encS i)))]) (fun i => wayFit i) (fun i => [.d (.one (.bool (decide (wayOk i))))]) (fun _ => [.gone])
theorem spPathOk_inj : ∀ i j : (List Stp), (fun (i : (List Stp)) => ([.d (.one (.row 3 (encS i)))] : List AV)) i = (fun (i : (List Stp)) => ([.d (.one (.row 3 (encS i)))] : List AV)) j → i = j := by
  intro p p' h
  simpa [strs_eq, T.enc_eq, encL_eq, F.enc_eq, encF_eq, Tk.enc_eq, encTk_eq, Gn.enc_eq, ints_eq, encS_eq, Stp.enc_eq] using h
theorem spPathOk_md  : (spPathOk).md = [false] := rfl
theorem spPathOk_pre  (p : List Stp) : (spPathOk).pre [.d (.one (.row 3 (encS p)))] = (wayFit p) := Spec.of_pre' spPathOk_inj p
theorem spPathOk_alts  : (spPathOk).alts = none := rfl
theorem spPathOk_res  (p : List Stp) : (spPathOk).res [.d (.one (.row 3 (encS p)))] = [.d (.one (.bool (decide (wayOk p))))] := Spec.of_res spPathOk_inj p
theorem spPathOk_out  (p : List Stp) : (spPathOk).out [.d (.one (.row 3 (encS p)))] = [.gone] := Spec.of_out spPathOk_inj p
theorem PathOk_sound : Sound Go.Proofs.Tryd.prog 22 spPathOk := by
  refine sound_fam (GOK.cons call_l3Step l3Step_sound GOK.nil) Go.Proofs.Tryd.func22 (c := Go.Proofs.Tryd.f22.body.getD .skip) rfl (n := 19) rfl chk_PathOk rs_PathOk (fun _ => by simp) ?_ ?_
  · exact spPathOk_inj
  · intro p h1
    have h1' := h1.1
    simp only [x_PathOk, rg, go_sem, seval]
    repeat' (first | with_reducible assumption | with_reducible refine And.intro ?_ ?_ | intro _)
    all_goals first | omega | skip
    refine pw_loop (ι := Nat) (fun i => p.length - i) (fun i => i ≤ p.length ∧ ∀ s ∈ p.take i, stpOk s)
      (fun i => ⟨[(0, .q (.c (.row 3 (encS p)))), (3, .q (.c (.int .i64 i)))], [], []⟩) 0 ⟨Nat.zero_le _, by simp⟩ (Le.of_eq (by simp)) ?_
    rintro i ⟨hi, ha⟩
    rcases Nat.lt_or_ge i p.length with hlt | hge
    · obtain ⟨s, hs, _, _⟩ := drop_at hlt
      have b1 : ((i : Int) < (p.length : Int)) = True := eq_true (by omega)
      have a1 := encS_at hs
      have f1 := wayFit_at h1 hs
      have l3 := Stp.len3 s
      by_cases c : stpOk s
      · have c' : stpOk s = True := eq_true c
        simp only [rg, go_sem, seval, Prod.fst, b1, a1, c', l3, encS_len, spL3Step_md, spL3Step_pre, spL3Step_alts, spL3Step_res, spL3Step_out]
        repeat' (first | with_reducible assumption | with_reducible refine And.intro ?_ ?_ | intro _)
        all_goals first | omega | assumption | exact Nat.le_refl _ | skip
        exact ⟨i + 1, ⟨by omega, take_all_step hs ha c⟩, by omega, Le.of_eq (by simp)⟩
      · have c' : stpOk s = False := eq_false c
        have e : wayOk p = False := eq_false (wayOk_at hs c)
        simp only [rg, go_sem, seval, Prod.fst, b1, a1, c', e, l3, encS_len, spL3Step_md, spL3Step_pre, spL3Step_alts, spL3Step_res, spL3Step_out]
        repeat' (first | with_reducible assumption | with_reducible refine And.intro ?_ ?_ | intro _)
        all_goals first | omega | assumption | exact Nat.le_refl _ | skip
    · obtain rfl : i = p.length := by omega
      have b1 : ((p.length : Int) < (p.length : Int)) = False := eq_false (by omega)
      have e : decide (wayOk p) = decide ((p.length : Int) ≤ 6) := decide_eq_decide.2 ((wayOk_all ha).trans ⟨fun h => by omega, fun h => by omega⟩)
      simp only [rg, go_sem, seval, Prod.fst, b1, e, encS_len]
      repeat' (first | with_reducible assumption | with_reducible refine And.intro ?_ ?_ | intro _)
      all_goals first | omega | assumption | skip
noncomputable def spPathOkI  : Spec := Spec.of (ι := (List Stp)) [false] (fun i => [.d (.one (.row 3 (encS i)))]) (fun i => wayFit i) (fun i => [.d (.one (.bool (decide (wayOk i))))]) (fun _ => [.gone])
theorem spPathOkI_inj : ∀ i j : (List Stp), (fun (i : (List Stp)) => ([.d (.one (.row 3 (encS i)))] : List AV)) i = (fun (i : (List Stp)) => ([.d (.one (.row 3 (encS i)))] : List AV)) j → i = j := by
  intro p p' h
  simpa [strs_eq, T.enc_eq, encL_eq, F.enc_eq, encF_eq, Tk.enc_eq, encTk_eq, Gn.enc_eq, ints_eq, encS_eq, Stp.enc_eq] using h
theorem spPathOkI_md  : (spPathOkI).md = [false] := rfl
theorem spPathOkI_pre  (p : List Stp) : (spPathOkI).pre [.d (.one (.row 3 (encS p)))] = (wayFit p) := Spec.of_pre' spPathOkI_inj p
theorem spPathOkI_alts  : (spPathOkI).alts = none := rfl
theorem spPathOkI_res  (p : List Stp) : (spPathOkI).res [.d (.one (.row 3 (encS p)))] = [.d (.one (.bool (decide (wayOk p))))] := Spec.of_res spPathOkI_inj p
theorem spPathOkI_out  (p : List Stp) : (spPathOkI).out [.d (.one (.row 3 (encS p)))] = [.gone] := Spec.of_out spPathOkI_inj p
set_option maxHeartbeats 2000000 in
theorem PathOkI_sound : Sound Go.Proofs.Tryd.prog 20 spPathOkI := by
  refine sound_fam (GOK.cons (l := [(39, spWithin)]) call_textOk textOk_sound (GOK.cons call_within within_sound GOK.nil)) Go.Proofs.Tryd.func20 (c := Go.Proofs.Tryd.f20.body.getD .skip) rfl (n := 44) rfl chk_PathOkI rs_PathOkI (fun _ => by simp) ?_ ?_
  · exact spPathOkI_inj
  · intro p h1
    have h1' := h1.1
    simp only [x_PathOkI, rg, go_sem, seval, Prod.fst, encS_len]
    repeat' (first | with_reducible assumption | with_reducible refine And.intro ?_ ?_ | intro _)
    all_goals first | omega | skip
    refine pw_loop (ι := Nat) (fun i => p.length - i) (fun i => i ≤ p.length ∧ ∀ s ∈ p.take i, stpOk s)
      (fun i => ⟨[(0, .q (.c (.row 3 (encS p)))), (5, .q (.c (.row 3 (encS p)))), (6, .q (.c (.int .i64 p.length))), (7, .q (.c (.int .i64 i)))], [], []⟩) 0 ⟨Nat.zero_le _, by simp⟩ (Le.sub (by simp) (by simp) (by simp)) ?_
    rintro i ⟨hi, ha⟩
    rcases Nat.lt_or_ge i p.length with hlt | hge
    · obtain ⟨s, hs, _, _⟩ := drop_at hlt
      have b1 : ((i : Int) < (p.length : Int)) = True := eq_true (by omega)
      have a1 := encS_at hs
      obtain ⟨f1, f2⟩ := wayFit_at h1 hs
      by_cases c : stpOk s
      · have step' := take_all_step hs ha c
        obtain ⟨m, key, a⟩ := s
        simp only at f1 f2
        cases m with
        | true =>
          obtain ⟨c1, c2⟩ : okS key ∧ a = 0 := by simpa [stpOk] using c
          subst c2
          have c1' : okS key = True := eq_true c1
          simp only [rg, go_sem, seval, Prod.fst, b1, a1, Stp.enc, c1', encS_len, spTextOk_md, spTextOk_pre, spTextOk_alts, spTextOk_res, spTextOk_out, spWithin_md, spWithin_pre, spWithin_alts, spWithin_res, spWithin_out]
          repeat' (first | with_reducible assumption | with_reducible refine And.intro ?_ ?_ | intro _)
          all_goals first | omega | assumption | skip
          exact ⟨i + 1, ⟨by omega, step'⟩, by omega, Le.sub (by simp) (by simp) (by simp)⟩
        | false =>
          obtain ⟨c1, c2, c3⟩ : key = ⟨#[]⟩ ∧ -60 ≤ a ∧ a ≤ 59 := by simpa [stpOk] using c
          subst c1
          have c2' : (-60 ≤ a ∧ a ≤ 59) = True := eq_true ⟨c2, c3⟩
          simp only [rg, go_sem, seval, Prod.fst, b1, a1, Stp.enc, c2', encS_len, spTextOk_md, spTextOk_pre, spTextOk_alts, spTextOk_res, spTextOk_out, spWithin_md, spWithin_pre, spWithin_alts, spWithin_res, spWithin_out]
          repeat' (first | with_reducible assumption | with_reducible refine And.intro ?_ ?_ | intro _)
          all_goals first | omega | assumption | skip
          exact ⟨i + 1, ⟨by omega, step'⟩, by omega, Le.sub (by simp) (by simp) (by simp)⟩
      · have e : wayOk p = False := eq_false (wayOk_at hs c)
        obtain ⟨m, key, a⟩ := s
        simp only at f1 f2
        cases m with
        | true =>
          have c0 : ¬ (okS key ∧ a = 0) := by simpa [stpOk] using c
          by_cases c1 : okS key
          · have c1' : okS key = True := eq_true c1
            have c2' : (a = 0) = False := eq_false (fun h => c0 ⟨c1, h⟩)
            simp only [rg, go_sem, seval, Prod.fst, b1, a1, e, Stp.enc, c1', c2', encS_len, spTextOk_md, spTextOk_pre, spTextOk_alts, spTextOk_res, spTextOk_out, spWithin_md, spWithin_pre, spWithin_alts, spWithin_res, spWithin_out]
            repeat' (first | with_reducible assumption | with_reducible refine And.intro ?_ ?_ | intro _)
            all_goals first | omega | assumption | skip
          · have c1' : okS key = False := eq_false c1
            simp only [rg, go_sem, seval, Prod.fst, b1, a1, e, Stp.enc, c1', encS_len, spTextOk_md, spTextOk_pre, spTextOk_alts, spTextOk_res, spTextOk_out, spWithin_md, spWithin_pre, spWithin_alts, spWithin_res, spWithin_out]
            repeat' (first | with_reducible assumption | with_reducible refine And.intro ?_ ?_ | intro _)
            all_goals first | omega | assumption | skip
        | false =>
          have c0 : ¬ (key = ⟨#[]⟩ ∧ -60 ≤ a ∧ a ≤ 59) := by simpa [stpOk] using c
          by_cases c1 : key = ⟨#[]⟩
          · subst c1
            have c2' : (-60 ≤ a ∧ a ≤ 59) = False := eq_false (fun h => c0 ⟨rfl, h⟩)
            simp only [rg, go_sem, seval, Prod.fst, b1, a1, e, Stp.enc, c2', encS_len, spTextOk_md, spTextOk_pre, spTextOk_alts, spTextOk_res, spTextOk_out, spWithin_md, spWithin_pre, spWithin_alts, spWithin_res, spWithin_out]
            repeat' (first | with_reducible assumption | with_reducible refine And.intro ?_ ?_ | intro _)
            all_goals first | omega | assumption | skip
          · have c1' : (key = ⟨#[]⟩) = False := eq_false c1
            simp only [rg, go_sem, seval, Prod.fst, b1, a1, e, Stp.enc, c1', encS_len, spTextOk_md, spTextOk_pre, spTextOk_alts, spTextOk_res, spTextOk_out, spWithin_md, spWithin_pre, spWithin_alts, spWithin_res, spWithin_out]
            repeat' (first | with_reducible assumption | with_reducible refine And.intro ?_ ?_ | intro _)
            all_goals first | omega | assumption | skip
    · obtain rfl : i = p.length := by omega
      have b1 : ((p.length : Int) < (p.length : Int)) = False := eq_false (by omega)
      have e : decide (wayOk p) = decide ((p.length : Int) ≤ 6) := decide_eq_decide.2 ((wayOk_all ha).trans ⟨fun h => by omega, fun h => by omega⟩)
      simp only [rg, go_sem, seval, Prod.fst, b1, e, encS_len]
      repeat' (first | with_reducible assumption | with_reducible refine And.intro ?_ ?_ | intro _)
      all_goals first | omega | assumption | skip
noncomputable def spPlace  : Spec := Spec.of (ι := T × Int) [false, false] (fun i => [.d (.agg i.1.enc), .d (.one (.int .i64 i.2))]) (fun i => i.1.fit 140737488355328 ∧ -4611686018427387904 ≤ i.2 ∧ i.2 ≤ 4611686018427387904) (fun i => [.d (.one (.int .i64 (placeI i.1.list.length i.2)))]) (fun _ => [.gone, .gone])
theorem spPlace_inj : ∀ i j : T × Int, (fun (i : T × Int) => ([.d (.agg i.1.enc), .d (.one (.int .i64 i.2))] : List AV)) i = (fun (i : T × Int) => ([.d (.agg i.1.enc), .d (.one (.int .i64 i.2))] : List AV)) j → i = j := by
  rintro ⟨v, n⟩ ⟨v', n'⟩ h
  simp only [Prod.mk.injEq]
  simpa [strs_eq, T.enc_eq, encL_eq, F.enc_eq, encF_eq, Tk.enc_eq, encTk_eq, Gn.enc_eq, ints_eq, encS_eq, Stp.enc_eq] using h
theorem spPlace_md  : (spPlace).md = [false, false] := rfl
theorem spPlace_pre  (v : T) (n : Int) : (spPlace).pre [.d (.agg v.enc), .d (.one (.int .i64 n))] = (v.fit 140737488355328 ∧ -4611686018427387904 ≤ n ∧ n ≤ 4611686018427387904) := Spec.of_pre' spPlace_inj (v, n)
theorem spPlace_alts  : (spPlace).alts = none := rfl
theorem spPlace_res  (v : T) (n : Int) : (spPlace).res [.d (.agg v.enc), .d (.one (.int .i64 n))] = [.d (.one (.int .i64 (placeI v.list.length n)))] := Spec.of_res spPlace_inj (v, n)
theorem spPlace_out  (v : T) (n : Int) : (spPlace).out [.d (.agg v.enc), .d (.one (.int .i64 n))] = [.gone, .gone] := Spec.of_out spPlace_inj (v, n)
theorem place_sound : Sound Go.Proofs.Tryd.prog 54 spPlace := by
  refine sound_fam (GOK.cons call_within within_sound GOK.nil) Go.Proofs.Tryd.func54 (c := Go.Proofs.Tryd.f54.body.getD .skip) rfl (n := 20) rfl chk_place rs_place (fun _ => by simp) ?_ ?_
  · exact spPlace_inj
  · rintro ⟨v, n⟩ ⟨h1, h2, h3⟩
    have h4 : (v.list.length : Int) ≤ 140737488355328 := by obtain ⟨k, m, s, ks, l⟩ := v; exact h1.2.2.2.2.1
    have f0 := T.enc_len v
    obtain ⟨k, m, s, ks, l⟩ := v
    simp only [T.list] at h2 h3 h4
    by_cases c : n < 0
    · have c1 : (n < 0) = True := eq_true c
      by_cases d : 0 ≤ n + l.length ∧ n + l.length ≤ (l.length : Int) - 1
      · have e : placeI l.length n = n + l.length := by unfold placeI; simp [c, d]
        have d1 := eq_true d
        simp only [x_place, rg, go_sem, seval, Prod.fst, T.enc, T.list, c1, d1, e, encL_len, spWithin_md, spWithin_pre, spWithin_alts, spWithin_res, spWithin_out]
        repeat' (first | with_reducible assumption | with_reducible refine And.intro ?_ ?_ | intro _)
        all_goals first | omega | skip
      · have e : placeI l.length n = -1 := by unfold placeI; simp only [c, if_true]; rw [if_neg d]
        have d1 := eq_false d
        simp only [x_place, rg, go_sem, seval, Prod.fst, T.enc, T.list, c1, d1, e, encL_len, spWithin_md, spWithin_pre, spWithin_alts, spWithin_res, spWithin_out]
        repeat' (first | with_reducible assumption | with_reducible refine And.intro ?_ ?_ | intro _)
        all_goals first | omega | skip
    · have c1 : (n < 0) = False := eq_false c
      by_cases d : 0 ≤ n ∧ n ≤ (l.length : Int) - 1
      · have e : placeI l.length n = n := by unfold placeI; simp [c, d]
        have d1 := eq_true d
        simp only [x_place, rg, go_sem, seval, Prod.fst, T.enc, T.list, c1, d1, e, encL_len, spWithin_md, spWithin_pre, spWithin_alts, spWithin_res, spWithin_out]
        repeat' (first | with_reducible assumption | with_reducible refine And.intro ?_ ?_ | intro _)
        all_goals first | omega | skip
      · have e : placeI l.length n = -1 := by unfold placeI; simp only [c, if_false]; rw [if_neg d]
        have d1 := eq_false d
        simp only [x_place, rg, go_sem, seval, Prod.fst, T.enc, T.list, c1, d1, e, encL_len, spWithin_md, spWithin_pre, spWithin_alts, spWithin_res, spWithin_out]
        repeat' (first | with_reducible assumption | with_reducible refine And.intro ?_ ?_ | intro _)
        all_goals first | omega | skip
noncomputable def spAt  : Spec := Spec.of (ι := T × Int) [false, false] (fun i => [.d (.agg i.1.enc), .d (.one (.int .i64 i.2))]) (fun i => i.1.fit 140737488355328 ∧ -4611686018427387904 ≤ i.2 ∧ i.2 ≤ 4611686018427387904) (fun i => [.d (.agg (atT i.2 i.1).enc), .d (.one (.bool (decide (atOk i.1))))]) (fun _ => [.gone, .gone])
theorem spAt_inj : ∀ i j : T × Int, (fun (i : T × Int) => ([.d (.agg i.1.enc), .d (.one (.int .i64 i.2))] : List AV)) i = (fun (i : T × Int) => ([.d (.agg i.1.enc), .d (.one (.int .i64 i.2))] : List AV)) j → i = j := by
  rintro ⟨v, n⟩ ⟨v', n'⟩ h
  simp only [Prod.mk.injEq]
  simpa [strs_eq, T.enc_eq, encL_eq, F.enc_eq, encF_eq, Tk.enc_eq, encTk_eq, Gn.enc_eq, ints_eq, encS_eq, Stp.enc_eq] using h
theorem spAt_md  : (spAt).md = [false, false] := rfl
theorem spAt_pre  (v : T) (n : Int) : (spAt).pre [.d (.agg v.enc), .d (.one (.int .i64 n))] = (v.fit 140737488355328 ∧ -4611686018427387904 ≤ n ∧ n ≤ 4611686018427387904) := Spec.of_pre' spAt_inj (v, n)
theorem spAt_alts  : (spAt).alts = none := rfl
theorem spAt_res  (v : T) (n : Int) : (spAt).res [.d (.agg v.enc), .d (.one (.int .i64 n))] = [.d (.agg (atT n v).enc), .d (.one (.bool (decide (atOk v))))] := Spec.of_res spAt_inj (v, n)
theorem spAt_out  (v : T) (n : Int) : (spAt).out [.d (.agg v.enc), .d (.one (.int .i64 n))] = [.gone, .gone] := Spec.of_out spAt_inj (v, n)
theorem at_sound : Sound Go.Proofs.Tryd.prog 44 spAt := by
  refine sound_fam (GOK.cons call_place place_sound GOK.nil) Go.Proofs.Tryd.func44 (c := Go.Proofs.Tryd.f44.body.getD .skip) rfl (n := 29) rfl chk_at rs_at (fun _ => by simp) ?_ ?_
  · exact spAt_inj
  · rintro ⟨v, n⟩ ⟨h1, h2, h3⟩
    simp only at h1 h2 h3
    have f0 := T.enc_len v
    obtain ⟨k, m, s, ks, l⟩ := v
    have p1 := spPlace_pre (T.mk k m s ks l) n
    have p2 := spPlace_res (T.mk k m s ks l) n
    have p3 := spPlace_out (T.mk k m s ks l) n
    simp only [T.list] at p2
    have lt := @placeI_lt l.length n
    by_cases c : k = 5
    · subst c
      have eo : atOk (T.mk 5 m s ks l) = True := eq_true (.inl rfl)
      by_cases d : 0 ≤ placeI l.length n
      · have d1 : (placeI l.length n ≥ 0) = True := eq_true d
        obtain ⟨y, hy, _, _⟩ := drop_at (l := l) (i := (placeI l.length n).toNat) (by have := lt d; omega)
        have a1 := encL_at hy
        have f1 := T.enc_len y
        have e : atT n (T.mk 5 m s ks l) = y := by
          unfold atT; rw [if_pos ⟨rfl, d⟩]; simp [T.list, List.getD_eq_getElem?_getD, hy]
        have d2 := lt d
        simp only [x_at, rg, go_sem, seval, Prod.fst, T.enc, foldT, e, eo, d1, a1, f1, encL_len, spPlace_md, spPlace_alts, p1, p2, p3]
        repeat' (first | with_reducible assumption | with_reducible refine And.intro ?_ ?_ | intro _)
        all_goals first | omega | assumption | skip
      · have d1 : (placeI l.length n ≥ 0) = False := eq_false d
        have e : atT n (T.mk 5 m s ks l) = T.zero := by unfold atT; rw [if_neg (fun h => d h.2)]
        simp only [x_at, rg, go_sem, seval, Prod.fst, T.enc, foldT, e, eo, d1, encL_len, T.zero_enc, spPlace_md, spPlace_alts, p1, p2, p3]
        repeat' (first | with_reducible assumption | with_reducible refine And.intro ?_ ?_ | intro _)
        all_goals first | omega | assumption | skip
    · have c1 : (k = 5) = False := eq_false c
      have e : atT n (T.mk k m s ks l) = T.zero := by unfold atT; rw [if_neg (fun h => c h.1)]
      have eo : atOk (T.mk k m s ks l) = (k = 0) := propext ⟨fun h => h.resolve_left c, .inr⟩
      simp only [x_at, rg, go_sem, seval, Prod.fst, T.enc, foldT, e, eo, c1, T.zero_enc]
      repeat' (first | with_reducible assumption | with_reducible refine And.intro ?_ ?_ | intro _)
      all_goals first | omega | assumption | skip
noncomputable def spStep  : Spec := Spec.of (ι := T × Stp) [false, false] (fun i => [.d (.agg i.1.enc), .d (.agg i.2.enc)]) (fun i => i.1.fit 140737488355328 ∧ okT i.1 ∧ stpOk i.2) (fun i => [.d (.agg (oneT i.2 i.1).enc), .d (.one (.bool (decide (canGo i.2 i.1))))]) (fun _ => [.gone, .gone])
theorem spStep_inj : ∀ i j : T × Stp, (fun (i : T × Stp) => ([.d (.agg i.1.enc), .d (.agg i.2.enc)] : List AV)) i = (fun (i : T × Stp) => ([.d (.agg i.1.enc), .d (.agg i.2.enc)] : List AV)) j → i = j := by
  rintro ⟨v, s⟩ ⟨v', s'⟩ h
  simp only [Prod.mk.injEq]
  simpa [strs_eq, T.enc_eq, encL_eq, F.enc_eq, encF_eq, Tk.enc_eq, encTk_eq, Gn.enc_eq, ints_eq, encS_eq, Stp.enc_eq] using h
theorem spStep_md  : (spStep).md = [false, false] := rfl
theorem spStep_pre  (v : T) (s : Stp) : (spStep).pre [.d (.agg v.enc), .d (.agg s.enc)] = (v.fit 140737488355328 ∧ okT v ∧ stpOk s) := Spec.of_pre' spStep_inj (v, s)
theorem spStep_alts  : (spStep).alts = none := rfl
theorem spStep_res  (v : T) (s : Stp) : (spStep).res [.d (.agg v.enc), .d (.agg s.enc)] = [.d (.agg (oneT s v).enc), .d (.one (.bool (decide (canGo s v))))] := Spec.of_res spStep_inj (v, s)
theorem spStep_out  (v : T) (s : Stp) : (spStep).out [.d (.agg v.enc), .d (.agg s.enc)] = [.gone, .gone] := Spec.of_out spStep_inj (v, s)
theorem vstep_sound : Sound Go.Proofs.Tryd.prog 24 spStep := by
  refine sound_fam (GOK.cons (l := [(44, spAt)]) call_get get_sound (GOK.cons call_at at_sound GOK.nil)) Go.Proofs.Tryd.func24 (c := Go.Proofs.Tryd.f24.body.getD .skip) rfl (n := 20) rfl chk_vstep rs_vstep (fun _ => by simp) ?_ ?_
  · exact spStep_inj
  · rintro ⟨v, ⟨m, key, a⟩⟩ ⟨h1, h2, h3⟩
    simp only at h1 h2 h3
    have f0 := T.enc_len v
    cases m with
    | true =>
      have e : oneT ⟨true, key, a⟩ v = getT key v := by simp [oneT]
      have eo : canGo ⟨true, key, a⟩ v = getOk v := by simp [canGo]
      have f1 := T.enc_len (getT key v)
      simp only [x_vstep, rg, go_sem, seval, Prod.fst, Stp.enc, e, eo, f0, f1, spGet_md, spGet_pre, spGet_alts, spGet_res, spGet_out]
      repeat' (first | with_reducible assumption | with_reducible refine And.intro ?_ ?_ | intro _)
      all_goals first | omega | assumption | skip
    | false =>
      obtain ⟨c1, c2, c3⟩ : key = ⟨#[]⟩ ∧ -60 ≤ a ∧ a ≤ 59 := by simpa [stpOk] using h3
      have e : oneT ⟨false, key, a⟩ v = atT a v := by simp [oneT]
      have eo : canGo ⟨false, key, a⟩ v = atOk v := by simp [canGo]
      have f1 := T.enc_len (atT a v)
      simp only [x_vstep, rg, go_sem, seval, Prod.fst, Stp.enc, e, eo, f0, f1, spAt_md, spAt_pre, spAt_alts, spAt_res, spAt_out]
      repeat' (first | with_reducible assumption | with_reducible refine And.intro ?_ ?_ | intro _)
      all_goals first | omega | assumption | skip
end Go.Proofs.Pw
/- Rows turned round. -/
set_option linter.unusedSimpArgs false
set_option maxRecDepth 20000
namespace Go.Proofs.Pw
set_option linter.unusedSectionVars false
variable [Globs]
theorem getD_some {l : List T} {k : Nat} (hk : k < l.length) : l[k]? = some (l.getD k T.zero) := by simp [List.getD_eq_getElem?_getD, hk]
end Go.Proofs.Pw
/- Rows one behind the other in a new row. -/
set_option linter.unusedSimpArgs false
set_option maxRecDepth 20000
namespace Go.Proofs.Pw
set_option linter.unusedSectionVars false
variable [Globs]
end Go.Proofs.Pw
/- slices.Insert. -/
set_option linter.unusedSimpArgs false
set_option maxRecDepth 20000
namespace Go.Proofs.Pw
set_option linter.unusedSectionVars false
variable [Globs]
def x_InsS : X := (.gh (.seq (.reg [⟨some 6, none, .mv (.k (.z 1))⟩] none [0, 1, 2]) (.seq (.reg [⟨some 10, none, .mv (.t 0)⟩, ⟨some 11, none, .mv (.t 1)⟩, ⟨some 12, none, .sub (.t 10) (some (.t 11)) none 1⟩] none [0, 1, 2]) (.seq (.reg [⟨some 13, none, .mv (.t 2)⟩, ⟨some 14, none, .len (.t 13) false⟩, ⟨some 7, none, .mv (.t 14)⟩] none [0, 1, 2, 7]) (.seq (.seq (.reg [⟨some 15, none, .mv (.t 7)⟩, ⟨some 16, none, .bin false .eql (.t 15) (.k (.c (.int .i64 0)))⟩] none [0, 1, 2, 7, 16]) (.cond (.t 16) (.seq (.reg [⟨some 17, none, .mv (.t 0)⟩, ⟨some 6, none, .mv (.t 17)⟩] none [6]) (.gh .ret)) .skip)) (.seq (.reg [⟨some 18, none, .mv (.t 0)⟩, ⟨some 19, none, .len (.t 18) false⟩, ⟨some 8, none, .mv (.t 19)⟩] none [0, 1, 2, 7, 8]) (.seq (.seq (.reg [⟨some 20, none, .mv (.t 1)⟩, ⟨some 21, none, .mv (.t 8)⟩, ⟨some 22, none, .bin false .eql (.t 20) (.t 21)⟩] none [0, 1, 2, 7, 8, 22]) (.cond (.t 22) (.seq (.reg [⟨some 23, none, .mv (.t 0)⟩, ⟨some 24, none, .mv (.t 2)⟩, ⟨some 25, none, .app (.t 23) (.t 24) 1 16 []⟩, ⟨some 6, none, .mv (.t 25)⟩] none [6]) (.gh .ret)) .skip)) (.seq (.seq (.reg [⟨some 26, none, .mv (.t 8)⟩, ⟨some 27, none, .mv (.t 7)⟩, ⟨some 28, none, .bin false .add (.t 26) (.t 27)⟩, ⟨some 29, none, .mv (.t 0)⟩, ⟨some 30, none, .capr (.t 29)⟩, ⟨some 31, none, .bin false .gtr (.t 28) (.t 30)⟩] none [0, 1, 2, 7, 8, 31]) (.cond (.t 31) (.seq (.reg [⟨some 32, none, .mv (.t 0)⟩, ⟨some 33, none, .mv (.t 1)⟩, ⟨some 34, none, .sub (.t 32) none (some (.t 33)) 1⟩, ⟨some 35, none, .mv (.t 8)⟩, ⟨some 36, none, .mv (.t 7)⟩, ⟨some 37, none, .bin false .add (.t 35) (.t 36)⟩, ⟨some 38, none, .mv (.t 1)⟩, ⟨some 39, none, .bin false .sub (.t 37) (.t 38)⟩, ⟨some 40, none, .apn (.t 34) (.t 39) [(.str ⟨#[]⟩)] 16⟩, ⟨some 9, none, .mv (.t 40)⟩] none [0, 1, 2, 7, 9]) (.seq (.reg [⟨some 41, none, .mv (.t 9)⟩, ⟨some 42, none, .mv (.t 1)⟩, ⟨some 43, none, .sub (.t 41) (some (.t 42)) none 1⟩, ⟨some 44, none, .mv (.t 2)⟩, ⟨some 45, none, .cpy (.t 43) (.t 44) 1⟩] none [0, 1, 7, 9]) (.seq (.reg [⟨some 46, none, .mv (.t 9)⟩, ⟨some 47, none, .mv (.t 1)⟩, ⟨some 48, none, .mv (.t 7)⟩, ⟨some 49, none, .bin false .add (.t 47) (.t 48)⟩, ⟨some 50, none, .sub (.t 46) (some (.t 49)) none 1⟩, ⟨some 51, none, .mv (.t 0)⟩, ⟨some 52, none, .mv (.t 1)⟩, ⟨some 53, none, .sub (.t 51) (some (.t 52)) none 1⟩, ⟨some 54, none, .cpy (.t 50) (.t 53) 1⟩] (some 8) [9]) (.seq (.reg [⟨some 55, none, .mv (.t 9)⟩, ⟨some 6, none, .mv (.t 55)⟩] none [6]) (.gh .ret))))) .skip)) (.seq (.reg [⟨some 56, none, .mv (.t 0)⟩, ⟨some 57, none, .mv (.t 8)⟩, ⟨some 58, none, .mv (.t 7)⟩, ⟨some 59, none, .bin false .add (.t 57) (.t 58)⟩, ⟨some 60, none, .sub (.t 56) none (some (.t 59)) 1⟩, ⟨some 0, none, .mv (.t 60)⟩] none [0, 1, 2, 7, 8]) (.seq (.seq (.reg [⟨some 61, none, .mv (.t 2)⟩, ⟨some 62, none, .mv (.t 0)⟩, ⟨some 63, none, .mv (.t 1)⟩, ⟨some 64, none, .mv (.t 7)⟩, ⟨some 65, none, .bin false .add (.t 63) (.t 64)⟩, ⟨some 66, none, .sub (.t 62) (some (.t 65)) none 1⟩, ⟨some 67, none, .ovl (.t 61) (.t 66)⟩, ⟨some 68, none, .not (.t 67)⟩] none [0, 1, 2, 7, 8, 68]) (.cond (.t 68) (.seq (.reg [⟨some 69, none, .mv (.t 0)⟩, ⟨some 70, none, .mv (.t 1)⟩, ⟨some 71, none, .mv (.t 7)⟩, ⟨some 72, none, .bin false .add (.t 70) (.t 71)⟩, ⟨some 73, none, .sub (.t 69) (some (.t 72)) none 1⟩, ⟨some 74, none, .mv (.t 0)⟩, ⟨some 75, none, .mv (.t 1)⟩, ⟨some 76, none, .sub (.t 74) (some (.t 75)) none 1⟩, ⟨some 77, none, .cpy (.t 73) (.t 76) 1⟩] (some 8) [0, 1, 2]) (.seq (.reg [⟨some 78, none, .mv (.t 0)⟩, ⟨some 79, none, .mv (.t 1)⟩, ⟨some 80, none, .sub (.t 78) (some (.t 79)) none 1⟩, ⟨some 81, none, .mv (.t 2)⟩, ⟨some 82, none, .cpy (.t 80) (.t 81) 1⟩] none [0]) (.seq (.reg [⟨some 83, none, .mv (.t 0)⟩, ⟨some 6, none, .mv (.t 83)⟩] none [6]) (.gh .ret)))) .skip)) (.seq (.reg [⟨some 84, none, .mv (.t 0)⟩, ⟨some 85, none, .mv (.t 8)⟩, ⟨some 86, none, .sub (.t 84) (some (.t 85)) none 1⟩, ⟨some 87, none, .mv (.t 2)⟩, ⟨some 88, none, .cpy (.t 86) (.t 87) 1⟩] none [0, 1, 7]) (.seq (.reg [⟨some 89, none, .mv (.t 0)⟩, ⟨some 90, none, .mv (.t 1)⟩, ⟨some 91, none, .sub (.t 89) (some (.t 90)) none 1⟩, ⟨some 92, none, .mv (.t 7)⟩, ⟨some 93, none, .call 74 [(.t 91), (.t 92)]⟩] none [0]) (.seq (.reg [⟨some 94, none, .mv (.t 0)⟩, ⟨some 6, none, .mv (.t 94)⟩] none [6]) (.gh .ret))))))))))))))
theorem chk_InsS : chkX Go.Proofs.Tryd.prog 95 (Go.Proofs.Tryd.f64.body.getD .skip) x_InsS = true := by kernel_rfl
theorem rs_InsS : okRs Go.Proofs.Tryd.prog Go.Proofs.Tryd.f64.results.toList [.tmp 6] = true := by kernel_rfl
theorem call_InsS : okCallee Go.Proofs.Tryd.prog 64 = true := by kernel_rfl
def x_InsV : X := (.gh (.seq (.reg [⟨some 6, none, .mv (.k (.z 5))⟩] none [0, 1, 2]) (.seq (.reg [⟨some 10, none, .mv (.t 0)⟩, ⟨some 11, none, .mv (.t 1)⟩, ⟨some 12, none, .sub (.t 10) (some (.t 11)) none 5⟩] none [0, 1, 2]) (.seq (.reg [⟨some 13, none, .mv (.t 2)⟩, ⟨some 14, none, .len (.t 13) false⟩, ⟨some 7, none, .mv (.t 14)⟩] none [0, 1, 2, 7]) (.seq (.seq (.reg [⟨some 15, none, .mv (.t 7)⟩, ⟨some 16, none, .bin false .eql (.t 15) (.k (.c (.int .i64 0)))⟩] none [0, 1, 2, 7, 16]) (.cond (.t 16) (.seq (.reg [⟨some 17, none, .mv (.t 0)⟩, ⟨some 6, none, .mv (.t 17)⟩] none [6]) (.gh .ret)) .skip)) (.seq (.reg [⟨some 18, none, .mv (.t 0)⟩, ⟨some 19, none, .len (.t 18) false⟩, ⟨some 8, none, .mv (.t 19)⟩] none [0, 1, 2, 7, 8]) (.seq (.seq (.reg [⟨some 20, none, .mv (.t 1)⟩, ⟨some 21, none, .mv (.t 8)⟩, ⟨some 22, none, .bin false .eql (.t 20) (.t 21)⟩] none [0, 1, 2, 7, 8, 22]) (.cond (.t 22) (.seq (.reg [⟨some 23, none, .mv (.t 0)⟩, ⟨some 24, none, .mv (.t 2)⟩, ⟨some 25, none, .app (.t 23) (.t 24) 5 80 []⟩, ⟨some 6, none, .mv (.t 25)⟩] none [6]) (.gh .ret)) .skip)) (.seq (.seq (.reg [⟨some 26, none, .mv (.t 8)⟩, ⟨some 27, none, .mv (.t 7)⟩, ⟨some 28, none, .bin false .add (.t 26) (.t 27)⟩, ⟨some 29, none, .mv (.t 0)⟩, ⟨some 30, none, .capr (.t 29)⟩, ⟨some 31, none, .bin false .gtr (.t 28) (.t 30)⟩] none [0, 1, 2, 7, 8, 31]) (.cond (.t 31) (.seq (.reg [⟨some 32, none, .mv (.t 0)⟩, ⟨some 33, none, .mv (.t 1)⟩, ⟨some 34, none, .sub (.t 32) none (some (.t 33)) 5⟩, ⟨some 35, none, .mv (.t 8)⟩, ⟨some 36, none, .mv (.t 7)⟩, ⟨some 37, none, .bin false .add (.t 35) (.t 36)⟩, ⟨some 38, none, .mv (.t 1)⟩, ⟨some 39, none, .bin false .sub (.t 37) (.t 38)⟩, ⟨some 40, none, .apn (.t 34) (.t 39) [(.int .i64 0), (.int .i64 0), (.str ⟨#[]⟩), (.row 1 []), (.row 5 [])] 80⟩, ⟨some 9, none, .mv (.t 40)⟩] none [0, 1, 2, 7, 9]) (.seq (.reg [⟨some 41, none, .mv (.t 9)⟩, ⟨some 42, none, .mv (.t 1)⟩, ⟨some 43, none, .sub (.t 41) (some (.t 42)) none 5⟩, ⟨some 44, none, .mv (.t 2)⟩, ⟨some 45, none, .cpy (.t 43) (.t 44) 5⟩] none [0, 1, 7, 9]) (.seq (.reg [⟨some 46, none, .mv (.t 9)⟩, ⟨some 47, none, .mv (.t 1)⟩, ⟨some 48, none, .mv (.t 7)⟩, ⟨some 49, none, .bin false .add (.t 47) (.t 48)⟩, ⟨some 50, none, .sub (.t 46) (some (.t 49)) none 5⟩, ⟨some 51, none, .mv (.t 0)⟩, ⟨some 52, none, .mv (.t 1)⟩, ⟨some 53, none, .sub (.t 51) (some (.t 52)) none 5⟩, ⟨some 54, none, .cpy (.t 50) (.t 53) 5⟩] (some 8) [9]) (.seq (.reg [⟨some 55, none, .mv (.t 9)⟩, ⟨some 6, none, .mv (.t 55)⟩] none [6]) (.gh .ret))))) .skip)) (.seq (.reg [⟨some 56, none, .mv (.t 0)⟩, ⟨some 57, none, .mv (.t 8)⟩, ⟨some 58, none, .mv (.t 7)⟩, ⟨some 59, none, .bin false .add (.t 57) (.t 58)⟩, ⟨some 60, none, .sub (.t 56) none (some (.t 59)) 5⟩, ⟨some 0, none, .mv (.t 60)⟩] none [0, 1, 2, 7, 8]) (.seq (.seq (.reg [⟨some 61, none, .mv (.t 2)⟩, ⟨some 62, none, .mv (.t 0)⟩, ⟨some 63, none, .mv (.t 1)⟩, ⟨some 64, none, .mv (.t 7)⟩, ⟨some 65, none, .bin false .add (.t 63) (.t 64)⟩, ⟨some 66, none, .sub (.t 62) (some (.t 65)) none 5⟩, ⟨some 67, none, .ovl (.t 61) (.t 66)⟩, ⟨some 68, none, .not (.t 67)⟩] none [0, 1, 2, 7, 8, 68]) (.cond (.t 68) (.seq (.reg [⟨some 69, none, .mv (.t 0)⟩, ⟨some 70, none, .mv (.t 1)⟩, ⟨some 71, none, .mv (.t 7)⟩, ⟨some 72, none, .bin false .add (.t 70) (.t 71)⟩, ⟨some 73, none, .sub (.t 69) (some (.t 72)) none 5⟩, ⟨some 74, none, .mv (.t 0)⟩, ⟨some 75, none, .mv (.t 1)⟩, ⟨some 76, none, .sub (.t 74) (some (.t 75)) none 5⟩, ⟨some 77, none, .cpy (.t 73) (.t 76) 5⟩] (some 8) [0, 1, 2]) (.seq (.reg [⟨some 78, none, .mv (.t 0)⟩, ⟨some 79, none, .mv (.t 1)⟩, ⟨some 80, none, .sub (.t 78) (some (.t 79)) none 5⟩, ⟨some 81, none, .mv (.t 2)⟩, ⟨some 82, none, .cpy (.t 80) (.t 81) 5⟩] none [0]) (.seq (.reg [⟨some 83, none, .mv (.t 0)⟩, ⟨some 6, none, .mv (.t 83)⟩] none [6]) (.gh .ret)))) .skip)) (.seq (.reg [⟨some 84, none, .mv (.t 0)⟩, ⟨some 85, none, .mv (.t 8)⟩, ⟨some 86, none, .sub (.t 84) (some (.t 85)) none 5⟩, ⟨some 87, none, .mv (.t 2)⟩, ⟨some 88, none, .cpy (.t 86) (.t 87) 5⟩] none [0, 1, 7]) (.seq (.reg [⟨some 89, none, .mv (.t 0)⟩, ⟨some 90, none, .mv (.t 1)⟩, ⟨some 91, none, .sub (.t 89) (some (.t 90)) none 5⟩, ⟨some 92, none, .mv (.t 7)⟩, ⟨some 93, none, .call 76 [(.t 91), (.t 92)]⟩] none [0]) (.seq (.reg [⟨some 94, none, .mv (.t 0)⟩, ⟨some 6, none, .mv (.t 94)⟩] none [6]) (.gh .ret))))))))))))))
theorem chk_InsV : chkX Go.Proofs.Tryd.prog 95 (Go.Proofs.Tryd.f65.body.getD .skip) x_InsV = true := by kernel_rfl
theorem rs_InsV : okRs Go.Proofs.Tryd.prog Go.Proofs.Tryd.f65.results.toList [.tmp 6] = true := by kernel_rfl
theorem call_InsV : okCallee Go.Proofs.Tryd.prog 65 = true := by kernel_rfl
noncomputable def spInsS  : Spec := Spec.of (ι := (List ByteArray) × Nat × ByteArray) [true, false, false] (fun i => [.own 1 (strs i.1), .d (.one (.int .i64 i.2.1)), .d (.one (.row 1 (strs [i.2.2])))]) (fun i => i.2.1 ≤ i.1.length ∧ lenB 1000000 i.1.length) (fun i => [.own 1 (strs (i.1.take i.2.1 ++ i.2.2 :: i.1.drop i.2.1))]) (fun _ => [.gone, .gone, .gone])
theorem spInsS_inj : ∀ i j : (List ByteArray) × Nat × ByteArray, (fun (i : (List ByteArray) × Nat × ByteArray) => ([.own 1 (strs i.1), .d (.one (.int .i64 i.2.1)), .d (.one (.row 1 (strs [i.2.2])))] : List AV)) i = (fun (i : (List ByteArray) × Nat × ByteArray) => ([.own 1 (strs i.1), .d (.one (.int .i64 i.2.1)), .d (.one (.row 1 (strs [i.2.2])))] : List AV)) j → i = j := by
  rintro ⟨ks, i, s⟩ ⟨ks', i', s'⟩ h
  simp only [Prod.mk.injEq]
  simpa [strs_eq, T.enc_eq, encL_eq, F.enc_eq, encF_eq, Tk.enc_eq, encTk_eq, Gn.enc_eq, ints_eq, Int.natCast_inj] using h
theorem spInsS_md  : (spInsS).md = [true, false, false] := rfl
theorem spInsS_pre  (ks : List ByteArray) (i : Nat) (s : ByteArray) : (spInsS).pre [.own 1 (strs ks), .d (.one (.int .i64 i)), .d (.one (.row 1 (strs [s])))] = (i ≤ ks.length ∧ lenB 1000000 ks.length) := Spec.of_pre' spInsS_inj (ks, i, s)
theorem spInsS_alts  : (spInsS).alts = none := rfl
theorem spInsS_res  (ks : List ByteArray) (i : Nat) (s : ByteArray) : (spInsS).res [.own 1 (strs ks), .d (.one (.int .i64 i)), .d (.one (.row 1 (strs [s])))] = [.own 1 (strs (ks.take i ++ s :: ks.drop i))] := Spec.of_res spInsS_inj (ks, i, s)
theorem spInsS_out  (ks : List ByteArray) (i : Nat) (s : ByteArray) : (spInsS).out [.own 1 (strs ks), .d (.one (.int .i64 i)), .d (.one (.row 1 (strs [s])))] = [.gone, .gone, .gone] := Spec.of_out spInsS_inj (ks, i, s)
theorem InsS_sound : Sound Go.Proofs.Tryd.prog 64 spInsS := by
  refine sound_fam GOK.nil Go.Proofs.Tryd.func64 (c := Go.Proofs.Tryd.f64.body.getD .skip) rfl (n := 95) rfl chk_InsS rs_InsS (fun _ => by simp) ?_ ?_
  · exact spInsS_inj
  · rintro ⟨ks, i, s⟩ ⟨h1, h2⟩
    simp only [lenB] at h1 h2
    simp only [x_InsS]
    refine gh_skip ?_
    have sl : (strs ks).length = ks.length := by simp [strs]
    have s1 : (strs [s]).length = 1 := rfl
    by_cases c : i = ks.length
    · have b1 : ((i : Int) = (ks.length : Int)) = True := eq_true (by omega)
      have e1 : strs ks ++ strs [s] = strs (ks.take i ++ s :: ks.drop i) := by rw [c, List.take_length, List.drop_length]; simp [strs]
      simp only [rg, go_sem, seval, Prod.fst, sl, s1, b1]
      repeat' (first | with_reducible assumption | with_reducible refine And.intro ?_ ?_ | intro _)
      all_goals first | (show _ ≤ (_ : Int); omega) | (show _ < (_ : Int); omega) | (show _ ≤ (_ : Nat); omega) | skip
      refine gh_skip ?_
      simp only [rg, go_sem, seval, Prod.fst, e1]
    · have b1 : ((i : Int) = (ks.length : Int)) = False := eq_false (by omega)
      simp only [rg, go_sem, seval, Prod.fst, sl, s1, b1, capR, Q.toVc]
      repeat' (first | with_reducible assumption | with_reducible refine And.intro ?_ ?_ | intro _)
      all_goals first | (show _ ≤ (_ : Int); omega) | (show _ < (_ : Int); omega) | (show False; omega) | skip
      · -- no room: a new row
        have e2 : ((ks.length : Int) + 1 - i).toNat = ks.length + 1 - i := by omega
        rw [e2] at *
        obtain ⟨A, hA⟩ : ∃ A, List.take i (strs ks) ++ List.replicate (ks.length + 1 - i) [C.str ⟨#[]⟩] = A := ⟨_, rfl⟩
        have hAl : A.length = ks.length + 1 := by rw [← hA, List.length_append, List.length_take, List.length_replicate, sl]; omega
        rw [hA, hAl] at *
        omega
      · have e2 : ((ks.length : Int) + 1 - i).toNat = ks.length + 1 - i := by omega
        rw [e2] at *
        obtain ⟨A, hA⟩ : ∃ A, List.take i (strs ks) ++ List.replicate (ks.length + 1 - i) [C.str ⟨#[]⟩] = A := ⟨_, rfl⟩
        have hAl : A.length = ks.length + 1 := by rw [← hA, List.length_append, List.length_take, List.length_replicate, sl]; omega
        have hAt : A.take i = (strs ks).take i := by rw [← hA]; exact List.take_left' (by rw [List.length_take, sl]; omega)
        rw [hA]
        clear hA
        obtain ⟨B, hB⟩ : ∃ B, List.take i A ++ List.take 1 (strs [s]) ++ List.drop (i + 1) A = B := ⟨_, rfl⟩
        have hBl : B.length = ks.length + 1 := by rw [← hB]; simp only [List.length_append, List.length_take, List.length_drop, hAl, s1]; omega
        have hD : List.take (i + 1) B ++ List.take (ks.length - i) (List.drop i (strs ks)) ++ List.drop (i + 1 + (ks.length - i)) B = strs (ks.take i ++ s :: ks.drop i) := by
          rw [List.drop_of_length_le (l := B) (by omega), List.append_nil, List.take_of_length_le (l := List.drop i (strs ks)) (by rw [List.length_drop, sl]; omega), ← hB, hAt]
          rw [List.take_left' (by simp only [List.length_append, List.length_take, s1, sl]; omega)]
          simp [strs, List.map_take, List.map_drop]
        have m1 : min (ks.length + 1 - i) 1 = 1 := by omega
        have m3 : (i + 1 ≤ ks.length + 1) = True := eq_true (by omega)
        have m4 : (i + 1 + (ks.length - i) ≤ ks.length + 1) = True := eq_true (by omega)
        have m5 : ((i : Int) + 1).toNat = i + 1 := by omega
        simp only [rg, go_sem, seval, Prod.fst, Q.vwOf, PV.srcB, hAl, hB, hBl, hD, m1, m3, m4, m5, sl, s1, Nat.min_self]
        repeat' (first | with_reducible assumption | with_reducible refine And.intro ?_ ?_ | intro _)
        all_goals first | (show _ ≤ (_ : Int); omega) | (show _ < (_ : Int); omega) | (show _ ≤ (_ : Nat); omega) | (show False; omega) | skip
        · rw [List.length_drop, sl]; exact Nat.le_refl _
        refine gh_skip ?_
        simp only [rg, go_sem, seval, Prod.fst]
      · -- room: in place
        have e2 : ((ks.length : Int) + 1).toNat = ks.length + 1 := by omega
        obtain ⟨B, hB⟩ : ∃ B, List.take (i + 1) (strs ks) ++ List.take (ks.length - i) (List.drop i (strs ks)) = B := ⟨_, rfl⟩
        have hBl : B.length = ks.length + 1 := by rw [← hB]; simp only [List.length_append, List.length_take, List.length_drop, sl]; omega
        have hD : List.take i B ++ List.take 1 (strs [s]) ++ List.drop (i + 1) B = strs (ks.take i ++ s :: ks.drop i) := by
          rw [← hB, List.drop_left' (by rw [List.length_take, sl]; omega), List.take_append_of_le_length (by rw [List.length_take, sl]; omega), List.take_take, Nat.min_eq_left (by omega), List.take_of_length_le (l := List.drop i (strs ks)) (by rw [List.length_drop, sl]; exact Nat.le_refl _)]
          simp [strs, List.map_take, List.map_drop]
        have m1 : min (ks.length - i) (ks.length + 1 - i) = ks.length - i := by omega
        have m2 : min (ks.length + 1 - i) 1 = 1 := by omega
        have m3 : (i + 1 + (ks.length - i) ≤ ks.length) = False := eq_false (by omega)
        have m4 : (i + 1 ≤ ks.length + 1) = True := eq_true (by omega)
        have m5 : ((i : Int) + 1).toNat = i + 1 := by omega
        have m6 : (30 < 1000000000) = True := by decide
        simp only [rg, go_sem, seval, Prod.fst, Q.vwOf, PV.srcB, Q.killW, hB, hBl, hD, e2, m1, m2, m3, m4, m5, m6, sl, s1]
        repeat' (first | with_reducible assumption | with_reducible refine And.intro ?_ ?_ | intro _)
        all_goals first | (show _ ≤ (_ : Int); omega) | (show _ < (_ : Int); omega) | (show _ ≤ (_ : Nat); omega) | (show False; omega) | skip
        · rw [List.length_drop, sl]; exact Nat.le_refl _
        have hL : (strs (ks.take i ++ s :: ks.drop i)).length = ks.length + 1 := by rw [← hD]; simp only [List.length_append, List.length_take, List.length_drop, hBl, s1]; omega
        have hT : (strs (ks.take i ++ s :: ks.drop i)).take (ks.length + 1) = strs (ks.take i ++ s :: ks.drop i) := List.take_of_length_le (Nat.le_of_eq hL)
        refine gh_le (Le.cutC (t := 6) (r := 30) (d := 77) (sz := 1) (n := ks.length + 1) rfl rfl (by rw [hL]; exact Nat.le_refl _) (by decide)) ?_
        simp only [rg, go_sem, seval, Prod.fst, hT]
noncomputable def spInsV  : Spec := Spec.of (ι := (List T) × Nat × T) [true, false, false] (fun i => [.own 5 (encL i.1), .d (.one (.int .i64 i.2.1)), .d (.one (.row 5 (encL [i.2.2])))]) (fun i => i.2.1 ≤ i.1.length ∧ lenB 1000000 i.1.length) (fun i => [.own 5 (encL (i.1.take i.2.1 ++ i.2.2 :: i.1.drop i.2.1))]) (fun _ => [.gone, .gone, .gone])
theorem spInsV_inj : ∀ i j : (List T) × Nat × T, (fun (i : (List T) × Nat × T) => ([.own 5 (encL i.1), .d (.one (.int .i64 i.2.1)), .d (.one (.row 5 (encL [i.2.2])))] : List AV)) i = (fun (i : (List T) × Nat × T) => ([.own 5 (encL i.1), .d (.one (.int .i64 i.2.1)), .d (.one (.row 5 (encL [i.2.2])))] : List AV)) j → i = j := by
  rintro ⟨ks, i, s⟩ ⟨ks', i', s'⟩ h
  simp only [Prod.mk.injEq]
  simpa [strs_eq, T.enc_eq, encL_eq, F.enc_eq, encF_eq, Tk.enc_eq, encTk_eq, Gn.enc_eq, ints_eq, Int.natCast_inj] using h
theorem spInsV_md  : (spInsV).md = [true, false, false] := rfl
theorem spInsV_pre  (ks : List T) (i : Nat) (s : T) : (spInsV).pre [.own 5 (encL ks), .d (.one (.int .i64 i)), .d (.one (.row 5 (encL [s])))] = (i ≤ ks.length ∧ lenB 1000000 ks.length) := Spec.of_pre' spInsV_inj (ks, i, s)
theorem spInsV_alts  : (spInsV).alts = none := rfl
theorem spInsV_res  (ks : List T) (i : Nat) (s : T) : (spInsV).res [.own 5 (encL ks), .d (.one (.int .i64 i)), .d (.one (.row 5 (encL [s])))] = [.own 5 (encL (ks.take i ++ s :: ks.drop i))] := Spec.of_res spInsV_inj (ks, i, s)
theorem spInsV_out  (ks : List T) (i : Nat) (s : T) : (spInsV).out [.own 5 (encL ks), .d (.one (.int .i64 i)), .d (.one (.row 5 (encL [s])))] = [.gone, .gone, .gone] := Spec.of_out spInsV_inj (ks, i, s)
theorem InsV_sound : Sound Go.Proofs.Tryd.prog 65 spInsV := by
  refine sound_fam GOK.nil Go.Proofs.Tryd.func65 (c := Go.Proofs.Tryd.f65.body.getD .skip) rfl (n := 95) rfl chk_InsV rs_InsV (fun _ => by simp) ?_ ?_
  · exact spInsV_inj
  · rintro ⟨ks, i, s⟩ ⟨h1, h2⟩
    simp only [lenB] at h1 h2
    simp only [x_InsV]
    refine gh_skip ?_
    have sl : (encL ks).length = ks.length := encL_len ks
    have s1 : (encL [s]).length = 1 := rfl
    by_cases c : i = ks.length
    · have b1 : ((i : Int) = (ks.length : Int)) = True := eq_true (by omega)
      have e1 : encL ks ++ encL [s] = encL (ks.take i ++ s :: ks.drop i) := by rw [c, List.take_length, List.drop_length]; simp [encL_map]
      simp only [rg, go_sem, seval, Prod.fst, sl, s1, b1]
      repeat' (first | with_reducible assumption | with_reducible refine And.intro ?_ ?_ | intro _)
      all_goals first | (show _ ≤ (_ : Int); omega) | (show _ < (_ : Int); omega) | (show _ ≤ (_ : Nat); omega) | skip
      refine gh_skip ?_
      simp only [rg, go_sem, seval, Prod.fst, e1]
    · have b1 : ((i : Int) = (ks.length : Int)) = False := eq_false (by omega)
      simp only [rg, go_sem, seval, Prod.fst, sl, s1, b1, capR, Q.toVc]
      repeat' (first | with_reducible assumption | with_reducible refine And.intro ?_ ?_ | intro _)
      all_goals first | (show _ ≤ (_ : Int); omega) | (show _ < (_ : Int); omega) | (show False; omega) | skip
      · -- no room: a new row
        have e2 : ((ks.length : Int) + 1 - i).toNat = ks.length + 1 - i := by omega
        rw [e2] at *
        obtain ⟨A, hA⟩ : ∃ A, List.take i (encL ks) ++ List.replicate (ks.length + 1 - i) [C.int .i64 0, C.int .i64 0, C.str ⟨#[]⟩, C.row 1 [], C.row 5 []] = A := ⟨_, rfl⟩
        have hAl : A.length = ks.length + 1 := by rw [← hA, List.length_append, List.length_take, List.length_replicate, sl]; omega
        rw [hA, hAl] at *
        omega
      · have e2 : ((ks.length : Int) + 1 - i).toNat = ks.length + 1 - i := by omega
        rw [e2] at *
        obtain ⟨A, hA⟩ : ∃ A, List.take i (encL ks) ++ List.replicate (ks.length + 1 - i) [C.int .i64 0, C.int .i64 0, C.str ⟨#[]⟩, C.row 1 [], C.row 5 []] = A := ⟨_, rfl⟩
        have hAl : A.length = ks.length + 1 := by rw [← hA, List.length_append, List.length_take, List.length_replicate, sl]; omega
        have hAt : A.take i = (encL ks).take i := by rw [← hA]; exact List.take_left' (by rw [List.length_take, sl]; omega)
        rw [hA]
        clear hA
        obtain ⟨B, hB⟩ : ∃ B, List.take i A ++ List.take 1 (encL [s]) ++ List.drop (i + 1) A = B := ⟨_, rfl⟩
        have hBl : B.length = ks.length + 1 := by rw [← hB]; simp only [List.length_append, List.length_take, List.length_drop, hAl, s1]; omega
        have hD : List.take (i + 1) B ++ List.take (ks.length - i) (List.drop i (encL ks)) ++ List.drop (i + 1 + (ks.length - i)) B = encL (ks.take i ++ s :: ks.drop i) := by
          rw [List.drop_of_length_le (l := B) (by omega), List.append_nil, List.take_of_length_le (l := List.drop i (encL ks)) (by rw [List.length_drop, sl]; omega), ← hB, hAt]
          rw [List.take_left' (by simp only [List.length_append, List.length_take, s1, sl]; omega)]
          simp [encL_map, List.map_take, List.map_drop]
        have m1 : min (ks.length + 1 - i) 1 = 1 := by omega
        have m3 : (i + 1 ≤ ks.length + 1) = True := eq_true (by omega)
        have m4 : (i + 1 + (ks.length - i) ≤ ks.length + 1) = True := eq_true (by omega)
        have m5 : ((i : Int) + 1).toNat = i + 1 := by omega
        simp only [rg, go_sem, seval, Prod.fst, Q.vwOf, PV.srcB, hAl, hB, hBl, hD, m1, m3, m4, m5, sl, s1, Nat.min_self]
        repeat' (first | with_reducible assumption | with_reducible refine And.intro ?_ ?_ | intro _)
        all_goals first | (show _ ≤ (_ : Int); omega) | (show _ < (_ : Int); omega) | (show _ ≤ (_ : Nat); omega) | (show False; omega) | skip
        · rw [List.length_drop, sl]; exact Nat.le_refl _
        refine gh_skip ?_
        simp only [rg, go_sem, seval, Prod.fst]
      · -- room: in place
        have e2 : ((ks.length : Int) + 1).toNat = ks.length + 1 := by omega
        obtain ⟨B, hB⟩ : ∃ B, List.take (i + 1) (encL ks) ++ List.take (ks.length - i) (List.drop i (encL ks)) = B := ⟨_, rfl⟩
        have hBl : B.length = ks.length + 1 := by rw [← hB]; simp only [List.length_append, List.length_take, List.length_drop, sl]; omega
        have hD : List.take i B ++ List.take 1 (encL [s]) ++ List.drop (i + 1) B = encL (ks.take i ++ s :: ks.drop i) := by
          rw [← hB, List.drop_left' (by rw [List.length_take, sl]; omega), List.take_append_of_le_length (by rw [List.length_take, sl]; omega), List.take_take, Nat.min_eq_left (by omega), List.take_of_length_le (l := List.drop i (encL ks)) (by rw [List.length_drop, sl]; exact Nat.le_refl _)]
          simp [encL_map, List.map_take, List.map_drop]
        have m1 : min (ks.length - i) (ks.length + 1 - i) = ks.length - i := by omega
        have m2 : min (ks.length + 1 - i) 1 = 1 := by omega
        have m3 : (i + 1 + (ks.length - i) ≤ ks.length) = False := eq_false (by omega)
        have m4 : (i + 1 ≤ ks.length + 1) = True := eq_true (by omega)
        have m5 : ((i : Int) + 1).toNat = i + 1 := by omega
        have m6 : (30 < 1000000000) = True := by decide
        simp only [rg, go_sem, seval, Prod.fst, Q.vwOf, PV.srcB, Q.killW, hB, hBl, hD, e2, m1, m2, m3, m4, m5, m6, sl, s1]
        repeat' (first | with_reducible assumption | with_reducible refine And.intro ?_ ?_ | intro _)
        all_goals first | (show _ ≤ (_ : Int); omega) | (show _ < (_ : Int); omega) | (show _ ≤ (_ : Nat); omega) | (show False; omega) | skip
        · rw [List.length_drop, sl]; exact Nat.le_refl _
        have hL : (encL (ks.take i ++ s :: ks.drop i)).length = ks.length + 1 := by rw [← hD]; simp only [List.length_append, List.length_take, List.length_drop, hBl, s1]; omega
        have hT : (encL (ks.take i ++ s :: ks.drop i)).take (ks.length + 1) = encL (ks.take i ++ s :: ks.drop i) := List.take_of_length_le (Nat.le_of_eq hL)
        refine gh_le (Le.cutC (t := 6) (r := 30) (d := 77) (sz := 5) (n := ks.length + 1) rfl rfl (by rw [hL]; exact Nat.le_refl _) (by decide)) ?_
        simp only [rg, go_sem, seval, Prod.fst, hT]
end Go.Proofs.Pw
/- What is drawn: rows of trees by keys. -/
set_option linter.unusedSimpArgs false
set_option maxRecDepth 20000
namespace Go.Proofs.Pw
set_option linter.unusedSectionVars false
variable [Globs]
noncomputable def putT (v : T) (key : ByteArray) (x : T) : T := .mk 6 0 ⟨#[]⟩ (putS key x false v.keys v.list).1 (putS key x false v.keys v.list).2
structure goodM (m : Nat) (z : Int) (v : T) : Prop where
  f : v.fit 1000
  e : v.keys.length = v.list.length
  m : v.keys.length ≤ m
  z : sizeT v ≤ z
end Go.Proofs.Pw
