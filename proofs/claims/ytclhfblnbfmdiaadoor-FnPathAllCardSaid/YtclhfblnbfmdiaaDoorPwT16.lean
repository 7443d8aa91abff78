/- A copy is one's own: its rows are nobody else's. -/
import Derived.Test.YtclhfblnbfmdiaaDoorPwT15
import Derived.Test.YtclhfblnbfmdiaaDoorPwT10
import Derived.Test.YtclhfblnbfmdiaaDoorPwT9
import Derived.Test.YtclhfblnbfmdiaaDoorPwT12
import Derived.Test.YtclhfblnbfmdiaaDoorPwT11
import Derived.Lib.ItoaLen
import Derived.Lib.Join
set_option linter.unusedSimpArgs false
set_option linter.unusedVariables false
set_option linter.unusedSimpArgs false
set_option maxRecDepth 20000
namespace Go.Proofs.Pw
set_option linter.unusedSectionVars false
variable [Globs]
end Go.Proofs.Pw
/- Trees added: the reference's. -/
set_option linter.unusedSimpArgs false
set_option maxRecDepth 20000
namespace Go.Proofs.Pw
set_option linter.unusedSectionVars false
variable [Globs]
end Go.Proofs.Pw
/- Ways: something is put at their end. -/
set_option linter.unusedSimpArgs false
set_option maxRecDepth 20000
namespace Go.Proofs.Pw
set_option linter.unusedSectionVars false
variable [Globs]
def x_pathPut : X := (.seq (.reg [⟨some 3, none, .box (.t 0) (some 5)⟩, ⟨some 5, none, .box (.t 2) (some 5)⟩, ⟨some 6, none, .alloc [(.c (.int .i64 0)), (.c (.int .i64 0)), (.c (.str ⟨#[]⟩)), (.z 1), (.z 5)]⟩, ⟨some 7, none, .mv (.k (.c (.bool false)))⟩] none [1, 3, 5, 6]) (.seq (.seq (.reg [⟨some 12, none, .mv (.t 1)⟩, ⟨some 13, none, .len (.t 12) false⟩, ⟨some 14, none, .bin false .eql (.t 13) (.k (.c (.int .i64 0)))⟩] none [1, 3, 5, 6, 14]) (.cond (.t 14) (.seq (.reg [⟨some 15, none, .load (.t 5) (some 5)⟩, ⟨none, none, .st (.t 6) (.t 15) (some 5)⟩, ⟨some 7, none, .mv (.k (.c (.bool true)))⟩] none [6, 7]) .ret) .skip)) (.seq (.mix [⟨some 17, none, .load (.t 3) (some 5)⟩, ⟨some 18, none, .mv (.t 1)⟩, ⟨some 19, none, .ia (.t 18) (.k (.c (.int .i64 0))) 3⟩, ⟨some 20, none, .load (.t 19) (some 3)⟩, ⟨some 21, none, .call 24 [(.t 17), (.t 20)]⟩, ⟨some 16, none, .mv (.t 21)⟩, ⟨some 22, none, .ext (.t 16) 0⟩, ⟨some 23, none, .ext (.t 16) 1⟩, ⟨some 8, none, .alloc [(.c (.int .i64 0)), (.c (.int .i64 0)), (.c (.str ⟨#[]⟩)), (.z 1), (.z 5)]⟩, ⟨none, none, .st (.t 8) (.t 22) (some 5)⟩] [⟨some 9, none, .mv (.t 23)⟩] [[], [], [], [], [], [], [], [], [0, 1, 2, 3, 5, 6, 7], []] [1, 3, 5, 6, 8, 9]) (.seq (.seq (.reg [⟨some 24, none, .mv (.t 9)⟩, ⟨some 25, none, .not (.t 24)⟩] none [1, 3, 5, 6, 8, 25]) (.cond (.t 25) (.seq (.reg [⟨some 26, none, .build [(.c (.int .i64 0)), (.c (.int .i64 0)), (.c (.str ⟨#[]⟩)), (.z 1), (.z 5)] []⟩, ⟨none, none, .st (.t 6) (.t 26) (some 5)⟩, ⟨some 7, none, .mv (.k (.c (.bool false)))⟩] none [6, 7]) .ret) .skip)) (.seq (.mix [⟨some 28, none, .load (.t 8) (some 5)⟩, ⟨some 29, none, .mv (.t 1)⟩, ⟨some 30, none, .sub (.t 29) (some (.k (.c (.int .i64 1)))) none 3⟩, ⟨some 31, none, .load (.t 5) (some 5)⟩, ⟨some 32, none, .call 26 [(.t 28), (.t 30), (.t 31)]⟩, ⟨some 27, none, .mv (.t 32)⟩, ⟨some 33, none, .ext (.t 27) 0⟩, ⟨some 34, none, .ext (.t 27) 1⟩, ⟨some 10, none, .alloc [(.c (.int .i64 0)), (.c (.int .i64 0)), (.c (.str ⟨#[]⟩)), (.z 1), (.z 5)]⟩, ⟨none, none, .st (.t 10) (.t 33) (some 5)⟩] [⟨some 11, none, .mv (.t 34)⟩] [[], [], [], [], [], [], [], [], [0, 1, 2, 3, 5, 6, 7], []] [1, 3, 6, 10, 11]) (.seq (.seq (.reg [⟨some 35, none, .mv (.t 11)⟩, ⟨some 36, none, .not (.t 35)⟩] none [1, 3, 6, 10, 36]) (.cond (.t 36) (.seq (.reg [⟨some 37, none, .build [(.c (.int .i64 0)), (.c (.int .i64 0)), (.c (.str ⟨#[]⟩)), (.z 1), (.z 5)] []⟩, ⟨none, none, .st (.t 6) (.t 37) (some 5)⟩, ⟨some 7, none, .mv (.k (.c (.bool false)))⟩] none [6, 7]) .ret) .skip)) (.seq (.seq (.reg [⟨some 38, none, .mv (.t 1)⟩, ⟨some 39, none, .ia (.t 38) (.k (.c (.int .i64 0))) 3⟩, ⟨some 40, none, .fa (.t 39) 0⟩, ⟨some 41, none, .load (.t 40) none⟩] none [1, 3, 6, 10, 41]) (.cond (.t 41) (.seq (.reg [⟨some 42, none, .load (.t 3) (some 5)⟩, ⟨some 43, none, .mv (.t 1)⟩, ⟨some 44, none, .ia (.t 43) (.k (.c (.int .i64 0))) 3⟩, ⟨some 45, none, .fa (.t 44) 1⟩, ⟨some 46, none, .load (.t 45) none⟩, ⟨some 47, none, .load (.t 10) (some 5)⟩, ⟨some 48, none, .call 46 [(.t 42), (.t 46), (.t 47)]⟩, ⟨some 49, none, .ext (.t 48) 0⟩, ⟨some 50, none, .ext (.t 48) 1⟩, ⟨none, none, .st (.t 6) (.t 49) (some 5)⟩, ⟨some 7, none, .mv (.t 50)⟩] (some 9) [6, 7]) .ret) .skip)) (.seq (.reg [⟨some 51, none, .load (.t 3) (some 5)⟩, ⟨some 52, none, .mv (.t 1)⟩, ⟨some 53, none, .ia (.t 52) (.k (.c (.int .i64 0))) 3⟩, ⟨some 54, none, .fa (.t 53) 2⟩, ⟨some 55, none, .load (.t 54) none⟩, ⟨some 56, none, .load (.t 10) (some 5)⟩, ⟨some 57, none, .call 47 [(.t 51), (.t 55), (.t 56)]⟩, ⟨some 58, none, .ext (.t 57) 0⟩, ⟨some 59, none, .ext (.t 57) 1⟩, ⟨none, none, .st (.t 6) (.t 58) (some 5)⟩, ⟨some 7, none, .mv (.t 59)⟩] (some 9) [6, 7]) .ret))))))))
theorem chk_pathPut : chkX Go.Proofs.Tryd.prog 60 (Go.Proofs.Tryd.f26.body.getD .skip) x_pathPut = true := by kernel_rfl
theorem rs_pathPut : okRs Go.Proofs.Tryd.prog Go.Proofs.Tryd.f26.results.toList [.cell 6 (some 5), .tmp 7] = true := by kernel_rfl
theorem call_pathPut : okCallee Go.Proofs.Tryd.prog 26 = true := by kernel_rfl
theorem encS_take (p : List Stp) : List.take p.length (encS p) = encS p := List.take_of_length_le (by simp [encS])
theorem encS_cons (s : Stp) (p : List Stp) : encS (s :: p) = s.enc :: encS p := rfl
theorem wputO_cons {s : Stp} {p : List Stp} {v x : T} : wputO v (s :: p) x = if canGo s v then (match wputO (oneT s v) p x with
    | some y => partO s v y
    | none => none) else none := rfl
noncomputable def spPthPut (k:Nat) : Spec := Spec.of (ι := T × (List Stp) × T) [false, false, false] (fun i => [.d (.agg i.1.enc), .d (.one (.row 3 (encS i.2.1))), .d (.agg i.2.2.enc)]) (fun i => (okT i.1 ∧ okT i.2.2 ∧ ∀ s ∈ i.2.1, stpOk s) ∧ i.2.1.length < k) (fun i => [.d (.agg (optT (wputO i.1 i.2.1 i.2.2)).enc), .d (.one (.bool (decide ((wputO i.1 i.2.1 i.2.2).isSome = true))))]) (fun _ => [.gone, .gone, .gone])
theorem spPthPut_inj : ∀ i j : T × (List Stp) × T, (fun (i : T × (List Stp) × T) => ([.d (.agg i.1.enc), .d (.one (.row 3 (encS i.2.1))), .d (.agg i.2.2.enc)] : List AV)) i = (fun (i : T × (List Stp) × T) => ([.d (.agg i.1.enc), .d (.one (.row 3 (encS i.2.1))), .d (.agg i.2.2.enc)] : List AV)) j → i = j := by
  rintro ⟨v, p, x⟩ ⟨v', p', x'⟩ h
  simp only [Prod.mk.injEq]
  simpa [strs_eq, T.enc_eq, encL_eq, F.enc_eq, encF_eq, Tk.enc_eq, encTk_eq, Gn.enc_eq, ints_eq, encS_eq] using h
theorem spPthPut_md (k:Nat) : (spPthPut k).md = [false, false, false] := rfl
theorem spPthPut_pre (k:Nat) (v : T) (p : List Stp) (x : T) : (spPthPut k).pre [.d (.agg v.enc), .d (.one (.row 3 (encS p))), .d (.agg x.enc)] = ((okT v ∧ okT x ∧ ∀ s ∈ p, stpOk s) ∧ p.length < k) := Spec.of_pre' spPthPut_inj (v, p, x)
theorem spPthPut_alts (k:Nat) : (spPthPut k).alts = none := rfl
theorem spPthPut_res (k:Nat) (v : T) (p : List Stp) (x : T) : (spPthPut k).res [.d (.agg v.enc), .d (.one (.row 3 (encS p))), .d (.agg x.enc)] = [.d (.agg (optT (wputO v p x)).enc), .d (.one (.bool (decide ((wputO v p x).isSome = true))))] := Spec.of_res spPthPut_inj (v, p, x)
theorem spPthPut_out (k:Nat) (v : T) (p : List Stp) (x : T) : (spPthPut k).out [.d (.agg v.enc), .d (.one (.row 3 (encS p))), .d (.agg x.enc)] = [.gone, .gone, .gone] := Spec.of_out spPthPut_inj (v, p, x)
set_option maxHeartbeats 2000000 in
theorem pthPut_sound (k : Nat) (hS : Sound Go.Proofs.Tryd.prog 26 (spPthPut k)) : Sound Go.Proofs.Tryd.prog 26 (spPthPut (k + 1)) := by
  refine sound_fam (GOK.cons (l := [(26, spPthPut k), (46, spPartPutI), (47, spPartSetI)]) call_vstep vstep_sound (GOK.cons call_pathPut hS (GOK.cons call_PartPutI PartPutI_sound (GOK.cons call_PartSetI PartSetI_sound GOK.nil)))) Go.Proofs.Tryd.func26 (c := Go.Proofs.Tryd.f26.body.getD .skip) rfl (n := 60) rfl chk_pathPut rs_pathPut (fun _ => by simp) ?_ ?_
  · exact spPthPut_inj
  · rintro ⟨v, p, x⟩ ⟨⟨h1, h2, h3⟩, h4⟩
    simp only at h1 h2 h3
    have h4' : p.length < k + 1 := h4
    have f0 := T.enc_len v
    have fx := T.enc_len x
    have g1 := T.fit_mono (B := 140737488355328) (by decide) (okT_fit h1)
    cases p with
    | nil =>
      have e : wputO v [] x = some x := by cases v; rfl
      simp only [x_pathPut, rg, go_sem, seval, Prod.fst, f0, fx, e, encS, optT, Option.getD_some, Option.isSome_some, decide_true]
      repeat' (first | with_reducible assumption | with_reducible refine And.intro ?_ ?_ | intro _)
      all_goals first | omega | assumption | skip
    | cons s p =>
      have n1 : (((p.length + 1 : Nat) : Int) = 0) = False := eq_false (by omega)
      have h6 : p.length < k := by simp only [List.length_cons] at h4'; omega
      have hs := h3 s (.head _)
      have hp : ∀ t ∈ p, stpOk t := fun t ht => h3 t (.tail _ ht)
      have l3 := Stp.len3 s
      have f1 := T.enc_len (oneT s v)
      by_cases c : canGo s v
      · have c' := eq_true c
        have h5 := oneT_ok (s := s) h1
        cases hw : wputO (oneT s v) p x with
        | none =>
          have e : wputO v (s :: p) x = none := by rw [wputO_cons, if_pos c, hw]
          simp only [x_pathPut, rg, go_sem, seval, Prod.fst, f0, f1, fx, e, c', hw, encS_cons, encS_take, l3, n1, List.length_cons, encS_len, optT, Option.getD_none, Option.isSome_none, T.zero_enc, spStep_md, spStep_pre, spStep_alts, spStep_res, spStep_out, spPthPut_md, spPthPut_alts, spPthPut_pre, spPthPut_res, spPthPut_out]
          repeat' (first | with_reducible assumption | with_reducible refine And.intro ?_ ?_ | intro _)
          all_goals first | omega | assumption | skip
        | some y =>
          have e : wputO v (s :: p) x = partO s v y := by rw [wputO_cons, if_pos c, hw]
          have oy := wputO_ok h2 hw
          have oy' := eq_true oy
          have zy := okT_size oy
          have g2 := T.fit_mono (B := 140737488355328) (by decide) (okT_fit oy)
          have fy := T.enc_len y
          have w1 : (optT (some y)).enc = y.enc := rfl
          have w2 : ((some y).isSome = true) = True := by simp
          obtain ⟨m, key, a⟩ := s
          cases m with
          | true =>
            obtain ⟨c1, c2⟩ : okS key ∧ a = 0 := by simpa [stpOk] using hs
            have r1 := spStep_res v ⟨true, key, a⟩
            have r2 := spStep_pre v ⟨true, key, a⟩
            have r3 := spStep_out v ⟨true, key, a⟩
            simp only [Stp.enc] at r1 r2 r3
            have e2 : partO ⟨true, key, a⟩ v y = partPutO v key y := rfl
            have f2 := T.enc_len (optT (partPutO v key y))
            rw [e2] at e
            simp only [x_pathPut, rg, go_sem, seval, Prod.fst, f0, f1, f2, fx, fy, e, c', oy', hw, encS_cons, encS_take, Stp.enc, n1, List.length_cons, encS_len, r1, r2, r3, spStep_md, spStep_alts, spPartPutI_md, spPartPutI_pre, spPartPutI_alts, spPartPutI_res, spPartPutI_out, spPthPut_md, spPthPut_alts, spPthPut_pre, spPthPut_res, spPthPut_out, w1, w2]
            repeat' (first | with_reducible assumption | with_reducible refine And.intro ?_ ?_ | intro _)
            all_goals first | omega | assumption | skip
          | false =>
            obtain ⟨c1, c2, c3⟩ : key = ⟨#[]⟩ ∧ -60 ≤ a ∧ a ≤ 59 := by simpa [stpOk] using hs
            have r1 := spStep_res v ⟨false, key, a⟩
            have r2 := spStep_pre v ⟨false, key, a⟩
            have r3 := spStep_out v ⟨false, key, a⟩
            simp only [Stp.enc] at r1 r2 r3
            have e2 : partO ⟨false, key, a⟩ v y = partSetO v a y := rfl
            have f2 := T.enc_len (optT (partSetO v a y))
            rw [e2] at e
            simp only [x_pathPut, rg, go_sem, seval, Prod.fst, f0, f1, f2, fx, fy, e, c', oy', hw, encS_cons, encS_take, Stp.enc, n1, List.length_cons, encS_len, r1, r2, r3, spStep_md, spStep_alts, spPartSetI_md, spPartSetI_pre, spPartSetI_alts, spPartSetI_res, spPartSetI_out, spPthPut_md, spPthPut_alts, spPthPut_pre, spPthPut_res, spPthPut_out, w1, w2]
            repeat' (first | with_reducible assumption | with_reducible refine And.intro ?_ ?_ | intro _)
            all_goals first | omega | assumption | skip
      · have c' := eq_false c
        have e : wputO v (s :: p) x = none := by rw [wputO_cons, if_neg c]
        simp only [x_pathPut, rg, go_sem, seval, Prod.fst, f0, f1, fx, e, c', encS_cons, encS_take, l3, n1, List.length_cons, encS_len, optT, Option.getD_none, Option.isSome_none, T.zero_enc, spStep_md, spStep_pre, spStep_alts, spStep_res, spStep_out]
        repeat' (first | with_reducible assumption | with_reducible refine And.intro ?_ ?_ | intro _)
        all_goals first | omega | assumption | skip
theorem pthPut_all (k : Nat) : Sound Go.Proofs.Tryd.prog 26 (spPthPut k) := by
  induction k with
  | zero => exact Sound.none
  | succ k ih => exact pthPut_sound k ih
noncomputable def spPthPutT  : Spec := Spec.of (ι := T × (List Stp) × T) [false, false, false] (fun i => [.d (.agg i.1.enc), .d (.one (.row 3 (encS i.2.1))), .d (.agg i.2.2.enc)]) (fun i => okT i.1 ∧ okT i.2.2 ∧ ∀ s ∈ i.2.1, stpOk s) (fun i => [.d (.agg (optT (wputO i.1 i.2.1 i.2.2)).enc), .d (.one (.bool (decide ((wputO i.1 i.2.1 i.2.2).isSome = true))))]) (fun _ => [.gone, .gone, .gone])
theorem spPthPutT_inj : ∀ i j : T × (List Stp) × T, (fun (i : T × (List Stp) × T) => ([.d (.agg i.1.enc), .d (.one (.row 3 (encS i.2.1))), .d (.agg i.2.2.enc)] : List AV)) i = (fun (i : T × (List Stp) × T) => ([.d (.agg i.1.enc), .d (.one (.row 3 (encS i.2.1))), .d (.agg i.2.2.enc)] : List AV)) j → i = j := by
  rintro ⟨v, p, x⟩ ⟨v', p', x'⟩ h
  simp only [Prod.mk.injEq]
  simpa [strs_eq, T.enc_eq, encL_eq, F.enc_eq, encF_eq, Tk.enc_eq, encTk_eq, Gn.enc_eq, ints_eq, encS_eq] using h
theorem spPthPutT_md  : (spPthPutT).md = [false, false, false] := rfl
theorem spPthPutT_pre  (v : T) (p : List Stp) (x : T) : (spPthPutT).pre [.d (.agg v.enc), .d (.one (.row 3 (encS p))), .d (.agg x.enc)] = (okT v ∧ okT x ∧ ∀ s ∈ p, stpOk s) := Spec.of_pre' spPthPutT_inj (v, p, x)
theorem spPthPutT_alts  : (spPthPutT).alts = none := rfl
theorem spPthPutT_res  (v : T) (p : List Stp) (x : T) : (spPthPutT).res [.d (.agg v.enc), .d (.one (.row 3 (encS p))), .d (.agg x.enc)] = [.d (.agg (optT (wputO v p x)).enc), .d (.one (.bool (decide ((wputO v p x).isSome = true))))] := Spec.of_res spPthPutT_inj (v, p, x)
theorem spPthPutT_out  (v : T) (p : List Stp) (x : T) : (spPthPutT).out [.d (.agg v.enc), .d (.one (.row 3 (encS p))), .d (.agg x.enc)] = [.gone, .gone, .gone] := Spec.of_out spPthPutT_inj (v, p, x)
theorem pthPutT_sound : Sound Go.Proofs.Tryd.prog 26 spPthPutT := Sound.all (μ := fun i => i.2.1.length) pthPut_all
end Go.Proofs.Pw
/- Ways: both programs' PathPut. -/
set_option linter.unusedSimpArgs false
set_option maxRecDepth 20000
namespace Go.Proofs.Pw
set_option linter.unusedSectionVars false
variable [Globs]
def x_PathPutI : X := (.seq (.reg [⟨some 3, none, .box (.t 0) (some 5)⟩, ⟨some 5, none, .box (.t 2) (some 5)⟩, ⟨some 6, none, .alloc [(.c (.int .i64 0)), (.c (.int .i64 0)), (.c (.str ⟨#[]⟩)), (.z 1), (.z 5)]⟩, ⟨some 7, none, .mv (.k (.c (.bool false)))⟩] none [1, 3, 5, 6]) (.seq (.seq (.reg [⟨some 8, none, .load (.t 3) (some 5)⟩, ⟨some 9, none, .call 15 [(.t 8)]⟩, ⟨some 10, none, .not (.t 9)⟩, ⟨some 11, none, .mv (.t 10)⟩, ⟨some 12, some (11, false), .mv (.t 1)⟩, ⟨some 13, some (11, false), .call 20 [(.t 12)]⟩, ⟨some 14, some (11, false), .not (.t 13)⟩, ⟨some 15, none, .pick (.t 11) (.k (.c (.bool true))) (.t 14)⟩, ⟨some 16, none, .mv (.t 15)⟩, ⟨some 17, some (16, false), .load (.t 5) (some 5)⟩, ⟨some 18, some (16, false), .call 15 [(.t 17)]⟩, ⟨some 19, some (16, false), .not (.t 18)⟩, ⟨some 20, none, .pick (.t 16) (.k (.c (.bool true))) (.t 19)⟩] none [1, 3, 5, 6, 20]) (.cond (.t 20) (.seq (.reg [⟨some 21, none, .build [(.c (.int .i64 0)), (.c (.int .i64 0)), (.c (.str ⟨#[]⟩)), (.z 1), (.z 5)] []⟩, ⟨none, none, .st (.t 6) (.t 21) (some 5)⟩, ⟨some 7, none, .mv (.k (.c (.bool false)))⟩] none [6, 7]) .ret) .skip)) (.seq (.reg [⟨some 22, none, .load (.t 3) (some 5)⟩, ⟨some 23, none, .mv (.t 1)⟩, ⟨some 24, none, .load (.t 5) (some 5)⟩, ⟨some 25, none, .call 26 [(.t 22), (.t 23), (.t 24)]⟩, ⟨some 26, none, .ext (.t 25) 0⟩, ⟨some 27, none, .ext (.t 25) 1⟩, ⟨some 28, none, .call 25 [(.t 26), (.t 27)]⟩, ⟨some 29, none, .ext (.t 28) 0⟩, ⟨some 30, none, .ext (.t 28) 1⟩, ⟨none, none, .st (.t 6) (.t 29) (some 5)⟩, ⟨some 7, none, .mv (.t 30)⟩] none [6, 7]) .ret)))
theorem chk_PathPutI : chkX Go.Proofs.Tryd.prog 31 (Go.Proofs.Tryd.f11.body.getD .skip) x_PathPutI = true := by kernel_rfl
theorem rs_PathPutI : okRs Go.Proofs.Tryd.prog Go.Proofs.Tryd.f11.results.toList [.cell 6 (some 5), .tmp 7] = true := by kernel_rfl
theorem call_PathPutI : okCallee Go.Proofs.Tryd.prog 11 = true := by kernel_rfl
theorem pathPutO_not {v x : T} {p : List Stp} (h : ¬ (okT v ∧ wayOk p ∧ okT x)) : pathPutO v p x = none := if_neg h
theorem pathPutO_ok2 {v x : T} {p : List Stp} (h1 : okT v) (h2 : wayOk p) (h3 : okT x) : pathPutO v p x = wputO v p x := if_pos ⟨h1, h2, h3⟩
theorem toldT_wput {v x : T} {p : List Stp} (hx : okT x) : toldT (decide ((wputO v p x).isSome = true)) (optT (wputO v p x)) = optT (wputO v p x) := by
  cases h : wputO v p x with
  | none => simp [toldT, optT]
  | some y => have := wputO_ok hx h; simp [toldT, optT, this]
end Go.Proofs.Pw
/- Ways: what lies at their end, in the given program. -/
set_option linter.unusedSimpArgs false
set_option maxRecDepth 20000
namespace Go.Proofs.Pw
set_option linter.unusedSectionVars false
variable [Globs]
def x_PathGetI : X := (.seq (.reg [⟨some 2, none, .box (.t 0) (some 5)⟩, ⟨some 4, none, .alloc [(.c (.int .i64 0)), (.c (.int .i64 0)), (.c (.str ⟨#[]⟩)), (.z 1), (.z 5)]⟩, ⟨some 5, none, .mv (.k (.c (.bool false)))⟩] none [1, 2, 4]) (.seq (.seq (.reg [⟨some 10, none, .load (.t 2) (some 5)⟩, ⟨some 11, none, .call 15 [(.t 10)]⟩, ⟨some 12, none, .not (.t 11)⟩, ⟨some 13, none, .mv (.t 12)⟩, ⟨some 14, some (13, false), .mv (.t 1)⟩, ⟨some 15, some (13, false), .call 20 [(.t 14)]⟩, ⟨some 16, some (13, false), .not (.t 15)⟩, ⟨some 17, none, .pick (.t 13) (.k (.c (.bool true))) (.t 16)⟩] none [1, 2, 4, 17]) (.cond (.t 17) (.seq (.reg [⟨some 18, none, .build [(.c (.int .i64 0)), (.c (.int .i64 0)), (.c (.str ⟨#[]⟩)), (.z 1), (.z 5)] []⟩, ⟨none, none, .st (.t 4) (.t 18) (some 5)⟩, ⟨some 5, none, .mv (.k (.c (.bool false)))⟩] none [4, 5]) .ret) .skip)) (.seq (.seq (.reg [⟨some 19, none, .mv (.t 1)⟩, ⟨some 20, none, .len (.t 19) false⟩, ⟨some 21, none, .mv (.k (.c (.int .i64 0)))⟩] none [2, 4, 19, 20, 21]) (.block 0 (.loop (.seq (.reg [⟨some 22, none, .bin false .lss (.t 21) (.t 20)⟩] none [2, 4, 19, 20, 21, 22]) (.seq (.cond (.t 22) .skip (.exit 0)) (.seq (.block 1 (.seq (.reg [⟨some 23, none, .ia (.t 19) (.t 21) 3⟩, ⟨some 24, none, .load (.t 23) (some 3)⟩, ⟨some 7, none, .alloc [(.c (.bool false)), (.c (.str ⟨#[]⟩)), (.c (.int .i64 0))]⟩, ⟨none, none, .st (.t 7) (.t 24) (some 3)⟩] none [2, 4, 7, 19, 20, 21]) (.seq (.reg [⟨some 26, none, .load (.t 2) (some 5)⟩, ⟨some 27, none, .load (.t 7) (some 3)⟩, ⟨some 28, none, .call 24 [(.t 26), (.t 27)]⟩, ⟨some 25, none, .mv (.t 28)⟩, ⟨some 29, none, .ext (.t 25) 0⟩, ⟨some 30, none, .ext (.t 25) 1⟩, ⟨some 8, none, .alloc [(.c (.int .i64 0)), (.c (.int .i64 0)), (.c (.str ⟨#[]⟩)), (.z 1), (.z 5)]⟩, ⟨none, none, .st (.t 8) (.t 29) (some 5)⟩, ⟨some 9, none, .mv (.t 30)⟩] none [2, 4, 8, 9, 19, 20, 21]) (.seq (.seq (.reg [⟨some 31, none, .mv (.t 9)⟩, ⟨some 32, none, .not (.t 31)⟩] none [2, 4, 8, 19, 20, 21, 32]) (.cond (.t 32) (.seq (.reg [⟨some 33, none, .build [(.c (.int .i64 0)), (.c (.int .i64 0)), (.c (.str ⟨#[]⟩)), (.z 1), (.z 5)] []⟩, ⟨none, none, .st (.t 4) (.t 33) (some 5)⟩, ⟨some 5, none, .mv (.k (.c (.bool false)))⟩] none [4, 5]) .ret) .skip)) (.reg [⟨some 34, none, .load (.t 8) (some 5)⟩, ⟨none, none, .st (.t 2) (.t 34) (some 5)⟩] none [2, 4, 19, 20, 21]))))) (.reg [⟨some 35, none, .bin false .add (.t 21) (.k (.c (.int .i64 1)))⟩, ⟨some 21, none, .mv (.t 35)⟩] none [2, 4, 19, 20, 21]))))))) (.seq (.reg [⟨some 36, none, .load (.t 2) (some 5)⟩, ⟨some 37, none, .call 25 [(.t 36), (.k (.c (.bool true)))]⟩, ⟨some 38, none, .ext (.t 37) 0⟩, ⟨some 39, none, .ext (.t 37) 1⟩, ⟨none, none, .st (.t 4) (.t 38) (some 5)⟩, ⟨some 5, none, .mv (.t 39)⟩] none [4, 5]) .ret))))
theorem chk_PathGetI : chkX Go.Proofs.Tryd.prog 40 (Go.Proofs.Tryd.f10.body.getD .skip) x_PathGetI = true := by kernel_rfl
theorem rs_PathGetI : okRs Go.Proofs.Tryd.prog Go.Proofs.Tryd.f10.results.toList [.cell 4 (some 5), .tmp 5] = true := by kernel_rfl
theorem call_PathGetI : okCallee Go.Proofs.Tryd.prog 10 = true := by kernel_rfl
theorem pathGetO_not {v : T} {p : List Stp} (h : ¬ (okT v ∧ wayOk p)) : pathGetO v p = none := if_neg h
theorem pathGetO_ok2 {v : T} {p : List Stp} (h1 : okT v) (h2 : wayOk p) : pathGetO v p = wgetO v p := if_pos ⟨h1, h2⟩
theorem wgetO_cons {s : Stp} {p : List Stp} {v : T} : wgetO v (s :: p) = if canGo s v then wgetO (oneT s v) p else none := rfl
theorem wgetO_nil {v : T} : wgetO v [] = some v := by cases v; rfl
noncomputable def spPathGetI  : Spec := Spec.of (ι := T × (List Stp)) [false, false] (fun i => [.d (.agg i.1.enc), .d (.one (.row 3 (encS i.2)))]) (fun i => i.1.fit 140737488355328 ∧ wayFit i.2) (fun i => [.d (.agg (optT (pathGetO i.1 i.2)).enc), .d (.one (.bool (decide ((pathGetO i.1 i.2).isSome = true))))]) (fun _ => [.gone, .gone])
theorem spPathGetI_inj : ∀ i j : T × (List Stp), (fun (i : T × (List Stp)) => ([.d (.agg i.1.enc), .d (.one (.row 3 (encS i.2)))] : List AV)) i = (fun (i : T × (List Stp)) => ([.d (.agg i.1.enc), .d (.one (.row 3 (encS i.2)))] : List AV)) j → i = j := by
  rintro ⟨v, p⟩ ⟨v', p'⟩ h
  simp only [Prod.mk.injEq]
  simpa [strs_eq, T.enc_eq, encL_eq, F.enc_eq, encF_eq, Tk.enc_eq, encTk_eq, Gn.enc_eq, ints_eq, encS_eq] using h
theorem spPathGetI_md  : (spPathGetI).md = [false, false] := rfl
theorem spPathGetI_pre  (v : T) (p : List Stp) : (spPathGetI).pre [.d (.agg v.enc), .d (.one (.row 3 (encS p)))] = (v.fit 140737488355328 ∧ wayFit p) := Spec.of_pre' spPathGetI_inj (v, p)
theorem spPathGetI_alts  : (spPathGetI).alts = none := rfl
theorem spPathGetI_res  (v : T) (p : List Stp) : (spPathGetI).res [.d (.agg v.enc), .d (.one (.row 3 (encS p)))] = [.d (.agg (optT (pathGetO v p)).enc), .d (.one (.bool (decide ((pathGetO v p).isSome = true))))] := Spec.of_res spPathGetI_inj (v, p)
theorem spPathGetI_out  (v : T) (p : List Stp) : (spPathGetI).out [.d (.agg v.enc), .d (.one (.row 3 (encS p)))] = [.gone, .gone] := Spec.of_out spPathGetI_inj (v, p)
set_option maxHeartbeats 2000000 in
theorem PathGetI_sound : Sound Go.Proofs.Tryd.prog 10 spPathGetI := by
  refine sound_fam (GOK.cons (l := [(20, spPathOkI), (24, spStep), (25, spTold)]) call_ValOkI valOkI_sound (GOK.cons call_PathOkI PathOkI_sound (GOK.cons call_vstep vstep_sound (GOK.cons call_told told_sound GOK.nil)))) Go.Proofs.Tryd.func10 (c := Go.Proofs.Tryd.f10.body.getD .skip) rfl (n := 40) rfl chk_PathGetI rs_PathGetI (fun _ => by simp) ?_ ?_
  · exact spPathGetI_inj
  · rintro ⟨v, p⟩ ⟨h1, h3⟩
    simp only at h1 h3
    have f0 := T.enc_len v
    by_cases c1 : okT v
    · have d1 : ((okI v 1 60).1 = true) = True := eq_true ((okI_iff _).2 c1)
      by_cases c2 : wayOk p
      · have d2 := eq_true c2
        have e := pathGetO_ok2 c1 c2
        have lp : (p.length : Int) ≤ 6 := by have := c2.2; omega
        simp only [x_PathGetI, rg, go_sem, seval, Prod.fst, f0, d1, d2, encS_len, spValOkI_md, spValOkI_pre, spValOkI_alts, spValOkI_res, spValOkI_out, spPathOkI_md, spPathOkI_pre, spPathOkI_alts, spPathOkI_res, spPathOkI_out]
        repeat' (first | with_reducible assumption | with_reducible refine And.intro ?_ ?_ | intro _)
        all_goals first | omega | assumption | skip
        refine pw_loop (ι := Nat × T) (fun i => p.length - i.1) (fun i => i.1 ≤ p.length ∧ okT i.2 ∧ wgetO i.2 (p.drop i.1) = wgetO v p)
          (fun i => ⟨[(2, .q (.box 2 0)), (4, .q (.box 4 0)), (19, .q (.c (.row 3 (encS p)))), (20, .q (.c (.int .i64 p.length))), (21, .q (.c (.int .i64 i.1)))],
            [(2, i.2.enc.map .c), (4, [.c (.int .i64 0), .c (.int .i64 0), .c (.str ⟨#[]⟩), .z 1, .z 5])], []⟩) (0, v) ⟨Nat.zero_le _, c1, rfl⟩ (Le.sub (by simp) (by simp) (by simp)) ?_
        rintro ⟨i, x⟩ ⟨hi, hx, heq⟩
        simp only at hi hx heq
        have fx := T.enc_len x
        rcases Nat.lt_or_ge i p.length with hlt | hge
        · obtain ⟨s, hs, hdr, hmem⟩ := drop_at hlt
          have b1 : ((i : Int) < (p.length : Int)) = True := eq_true (by omega)
          have a1 := encS_at hs
          have l3 := Stp.len3 s
          have sk := c2.1 s hmem
          have gx := T.fit_mono (B := 140737488355328) (by decide) (okT_fit hx)
          have fy := T.enc_len (oneT s x)
          rw [hdr, wgetO_cons] at heq
          by_cases g : canGo s x
          · have g' := eq_true g
            rw [if_pos g] at heq
            simp only [rg, go_sem, seval, Prod.fst, b1, a1, l3, fx, fy, g', encS_len, spStep_md, spStep_pre, spStep_alts, spStep_res, spStep_out]
            repeat' (first | with_reducible assumption | with_reducible refine And.intro ?_ ?_ | intro _)
            all_goals first | omega | assumption | skip
            exact ⟨(i + 1, oneT s x), ⟨by show i + 1 ≤ _; omega, oneT_ok hx, heq⟩, by show p.length - (i + 1) < _; omega, Le.sub (by simp) (by simp [T.enc_len]) (by simp)⟩
          · have g' := eq_false g
            rw [if_neg g] at heq
            have e2 : pathGetO v p = none := by rw [e, heq]
            have w1 : (optT none).enc = T.zero.enc := rfl
            have w2 : ((none : Option T).isSome = true) = False := by simp
            simp only [rg, go_sem, seval, Prod.fst, b1, a1, l3, fx, fy, g', e2, w1, w2, encS_len, T.zero_enc, spStep_md, spStep_pre, spStep_alts, spStep_res, spStep_out]
            repeat' (first | with_reducible assumption | with_reducible refine And.intro ?_ ?_ | intro _)
            all_goals first | omega | assumption | skip
        · have b1 : ((i : Int) < (p.length : Int)) = False := eq_false (by omega)
          rw [List.drop_eq_nil_of_le hge, wgetO_nil] at heq
          have e2 : pathGetO v p = some x := by rw [e, heq]
          have gy := T.fit_mono (B := 2000000) (by decide) (okT_fit hx)
          have w1 : (optT (some x)).enc = x.enc := rfl
          have w2 : ((some x).isSome = true) = True := by simp
          have w3 := toldT_ok hx
          have hx' := eq_true hx
          simp only [rg, go_sem, seval, Prod.fst, b1, fx, e2, w1, w2, w3, hx', encS_len, spTold_md, spTold_pre, spTold_alts, spTold_res, spTold_out]
          repeat' (first | with_reducible assumption | with_reducible refine And.intro ?_ ?_ | intro _)
          all_goals first | omega | assumption | skip
      · have e := pathGetO_not (v := v) (p := p) (fun h => c2 h.2)
        have d2 := eq_false c2
        have w1 : (optT none).enc = T.zero.enc := rfl
        have w2 : ((none : Option T).isSome = true) = False := by simp
        simp only [x_PathGetI, rg, go_sem, seval, Prod.fst, f0, e, d1, d2, w1, w2, T.zero_enc, spValOkI_md, spValOkI_pre, spValOkI_alts, spValOkI_res, spValOkI_out, spPathOkI_md, spPathOkI_pre, spPathOkI_alts, spPathOkI_res, spPathOkI_out]
        repeat' (first | with_reducible assumption | with_reducible refine And.intro ?_ ?_ | intro _)
        all_goals first | omega | assumption | skip
    · have e := pathGetO_not (v := v) (p := p) (fun h => c1 h.1)
      have d1 : ((okI v 1 60).1 = true) = False := eq_false (fun h => c1 ((okI_iff _).1 h))
      have w1 : (optT none).enc = T.zero.enc := rfl
      have w2 : ((none : Option T).isSome = true) = False := by simp
      simp only [x_PathGetI, rg, go_sem, seval, Prod.fst, f0, e, d1, w1, w2, T.zero_enc, spValOkI_md, spValOkI_pre, spValOkI_alts, spValOkI_res, spValOkI_out, spPathOkI_md, spPathOkI_pre, spPathOkI_alts, spPathOkI_res, spPathOkI_out]
      repeat' (first | with_reducible assumption | with_reducible refine And.intro ?_ ?_ | intro _)
      all_goals first | omega | assumption | skip
end Go.Proofs.Pw
/- Ways: what was put is got; put over put; a way in two parts. -/
namespace Go.Proofs.Pw
set_option linter.unusedSectionVars false
variable [Globs]
theorem idxS_at {x : ByteArray} : ∀ {l : List ByteArray} {i m : Nat}, l[m]? = some x → (∀ j, j < m → l[j]? ≠ some x) → idxS x i l = ((i + m : Nat) : Int)
  | [], i, m, h, _ => by simp at h
  | y :: r, i, 0, h, _ => by
    simp only [List.getElem?_cons_zero, Option.some.injEq] at h
    simp only [idxS, h.symm, if_true, Nat.add_zero]
  | y :: r, i, m + 1, h, hn => by
    have h0 : ¬ x = y := fun e => hn 0 (by omega) (by simp [e])
    simp only [idxS, if_neg h0]
    rw [idxS_at (m := m) (by simpa using h) (fun j hj => by have := hn (j + 1) (by omega); simpa using this)]
    omega
end Go.Proofs.Pw
/- All ways into a tree (under way). -/
set_option linter.unusedSimpArgs false
set_option maxRecDepth 20000
namespace Go.Proofs.Pw
set_option linter.unusedSectionVars false
variable [Globs]
def stepAt (k : Int) (ks : List ByteArray) (i : Nat) : Stp := if k = 6 then ⟨true, ks.getD i ⟨#[]⟩, 0⟩ else ⟨false, ⟨#[]⟩, i⟩
mutual
/-- All ways into a tree, behind a way. -/
def allT : T → List Stp → List (List Stp)
  | .mk k _ _ ks l, a => a :: allLs k ks l 0 a
def allLs (k : Int) (ks : List ByteArray) : List T → Nat → List Stp → List (List Stp)
  | [], _, _ => []
  | t :: l, i, a => allT t (a ++ [stepAt k ks i]) ++ allLs k ks l (i + 1) a
end
mutual
def T.keyed : T → Prop
  | .mk k _ _ ks l => (k = 6 → ks.length = l.length) ∧ keyedL l
def keyedL : List T → Prop
  | [] => True
  | t :: l => t.keyed ∧ keyedL l
end
theorem keyed_mem : ∀ {l : List T}, keyedL l → ∀ t ∈ l, t.keyed
  | [], _, t, h => by simp at h
  | x :: l, h, t, ht => by
    rcases List.mem_cons.1 ht with rfl | ht
    · exact h.1
    · exact keyed_mem h.2 t ht
mutual
theorem allT_len : ∀ (t : T) (a : List Stp), ((allT t a).length : Int) = sizeT t
  | .mk k n s ks l, a => by
    have := allLs_len k ks l 0 a
    simp only [allT, List.length_cons, sizeT]; omega
theorem allLs_len (k : Int) (ks : List ByteArray) : ∀ (l : List T) (i : Nat) (a : List Stp), ((allLs k ks l i a).length : Int) = sizeL l
  | [], _, _ => by simp [allLs, sizeL]
  | t :: l, i, a => by
    have := allT_len t (a ++ [stepAt k ks i]); have := allLs_len k ks l (i + 1) a
    simp only [allLs, List.length_append, sizeL]; omega
end
theorem sizeL_mem {l : List T} {t : T} (h : t ∈ l) : sizeT t ≤ sizeL l := by
  induction l with
  | nil => simp at h
  | cons x l ih =>
    have := allLs_len 0 [] l 0 []; have := sizeT_pos x
    simp only [sizeL]
    rcases List.mem_cons.1 h with rfl | h
    · omega
    · have := ih h; omega
theorem sizeL_takeP : ∀ {l : List T} {i : Nat}, sizeL (l.take i) ≤ sizeL l
  | [], i => by simp [sizeL]
  | x :: l, 0 => by
    have := allLs_len 0 [] (x :: l) 0 []
    simp only [List.take_zero, sizeL] at *; omega
  | x :: l, i + 1 => by
    have := sizeL_takeP (l := l) (i := i)
    simp only [List.take_succ_cons, sizeL]; omega
theorem allLs_app (k : Int) (ks : List ByteArray) : ∀ (l : List T) (t : T) (i : Nat) (a : List Stp), allLs k ks (l ++ [t]) i a = allLs k ks l i a ++ allT t (a ++ [stepAt k ks (i + l.length)])
  | [], t, i, a => by simp [allLs]
  | x :: l, t, i, a => by
    simp only [List.cons_append, allLs, allLs_app k ks l t (i + 1) a, List.append_assoc, List.length_cons]
    rw [show i + 1 + l.length = i + (l.length + 1) by omega]
theorem allLs_take {k : Int} {ks : List ByteArray} {l : List T} {i : Nat} {t : T} {a : List Stp} (h : l[i]? = some t) : allLs k ks (l.take (i + 1)) 0 a = allLs k ks (l.take i) 0 a ++ allT t (a ++ [stepAt k ks i]) := by
  have hi := (List.getElem?_eq_some_iff.1 h).1
  rw [List.take_add_one, h, Option.toList_some, allLs_app, Nat.zero_add, List.length_take, Nat.min_eq_left (by omega)]
theorem foldS (a : List Stp) (b : Bool) (s : ByteArray) (n : Int) : encS a ++ [[C.bool b, C.str s, C.int .i64 n]] = encS (a ++ [⟨b, s, n⟩]) := by simp [encS, Stp.enc]
def x_l3All : X := (.seq (.reg [⟨some 2, none, .box (.t 0) (some 5)⟩, ⟨some 4, none, .mv (.k (.z 1))⟩] none [1, 2]) (.seq (.reg [⟨some 8, none, .bsl 3 []⟩, ⟨some 9, none, .mv (.t 1)⟩, ⟨some 10, none, .app (.t 8) (.t 9) 3 32 []⟩, ⟨some 11, none, .bslx 1 [((.t 10), none)]⟩, ⟨some 5, none, .mv (.t 11)⟩] none [1, 2, 5]) (.seq (.seq (.reg [⟨some 6, none, .mv (.k (.c (.int .i64 0)))⟩] none [1, 2, 5, 6]) (.block 0 (.loop (.seq (.seq (.reg [⟨some 12, none, .mv (.t 6)⟩, ⟨some 13, none, .fa (.t 2) 4⟩, ⟨some 14, none, .load (.t 13) none⟩, ⟨some 15, none, .len (.t 14) false⟩, ⟨some 16, none, .bin false .lss (.t 12) (.t 15)⟩] none [1, 2, 5, 6, 16]) (.cond (.t 16) .skip (.exit 0))) (.seq (.block 1 (.seq (.reg [⟨some 19, none, .mv (.t 6)⟩, ⟨some 20, none, .build [(.c (.bool false)), (.c (.str ⟨#[]⟩)), (.c (.int .i64 0))] [(2, (.t 19), none)]⟩, ⟨some 7, none, .alloc [(.c (.bool false)), (.c (.str ⟨#[]⟩)), (.c (.int .i64 0))]⟩, ⟨none, none, .st (.t 7) (.t 20) (some 3)⟩] none [1, 2, 5, 6, 7]) (.seq (.seq (.reg [⟨some 21, none, .fa (.t 2) 0⟩, ⟨some 22, none, .load (.t 21) none⟩, ⟨some 23, none, .bin false .eql (.t 22) (.k (.c (.int .i64 6)))⟩] none [1, 2, 5, 6, 7, 23]) (.cond (.t 23) (.reg [⟨some 24, none, .fa (.t 2) 3⟩, ⟨some 25, none, .load (.t 24) none⟩, ⟨some 26, none, .mv (.t 6)⟩, ⟨some 27, none, .ia (.t 25) (.t 26) 1⟩, ⟨some 28, none, .load (.t 27) none⟩, ⟨some 29, none, .build [(.c (.bool false)), (.c (.str ⟨#[]⟩)), (.c (.int .i64 0))] [(0, (.k (.c (.bool true))), none), (1, (.t 28), none)]⟩, ⟨none, none, .st (.t 7) (.t 29) (some 3)⟩] none [1, 2, 5, 6, 7]) .skip)) (.mix [⟨some 30, none, .mv (.t 5)⟩, ⟨some 31, none, .fa (.t 2) 4⟩, ⟨some 32, none, .load (.t 31) none⟩, ⟨some 33, none, .mv (.t 6)⟩, ⟨some 34, none, .ia (.t 32) (.t 33) 5⟩, ⟨some 35, none, .load (.t 34) (some 5)⟩, ⟨some 36, none, .bsl 3 []⟩, ⟨some 37, none, .mv (.t 1)⟩, ⟨some 38, none, .app (.t 36) (.t 37) 3 32 []⟩, ⟨some 39, none, .load (.t 7) (some 3)⟩, ⟨some 40, none, .bsl 3 [((.t 39), (some 3))]⟩, ⟨some 41, none, .app (.t 38) (.t 40) 3 32 []⟩, ⟨some 42, none, .callx 18 [(.t 35), (.t 41)]⟩] [⟨some 43, none, .appx (.t 30) (.t 42) 1 24⟩, ⟨some 5, none, .mv (.t 43)⟩] [[], [], [], [], [], [], [], [], [0, 1, 2, 3, 4, 5], [8], [], [0, 1, 2, 3, 4, 5], [0]] [1, 2, 5, 6])))) (.reg [⟨some 17, none, .mv (.t 6)⟩, ⟨some 18, none, .bin false .add (.t 17) (.k (.c (.int .i64 1)))⟩, ⟨some 6, none, .mv (.t 18)⟩] none [1, 2, 5, 6])))))) (.seq (.reg [⟨some 44, none, .mv (.t 5)⟩, ⟨some 4, none, .mv (.t 44)⟩] none [4]) .ret))))
theorem chk_l3All : chkX Go.Proofs.Tryd.prog 45 (Go.Proofs.Tryd.f18.body.getD .skip) x_l3All = true := by kernel_rfl
theorem rs_l3All : okRs Go.Proofs.Tryd.prog Go.Proofs.Tryd.f18.results.toList [.tmp 4] = true := by kernel_rfl
theorem call_l3All : okCallee Go.Proofs.Tryd.prog 18 = true := by kernel_rfl
noncomputable def spAllP (k:Nat) : Spec := Spec.of (ι := T × (List Stp)) [false, false] (fun i => [.d (.agg i.1.enc), .d (.one (.row 3 (encS i.2)))]) (fun i => (i.1.fit 2000000 ∧ i.1.keyed ∧ sizeT i.1 ≤ 100 ∧ (i.2.length : Int) + sizeT i.1 ≤ 300) ∧ SizeOf.sizeOf i.1 < k) (fun i => [.own 1 (encSX (allT i.1 i.2))]) (fun _ => [.gone, .gone])
theorem spAllP_inj : ∀ i j : T × (List Stp), (fun (i : T × (List Stp)) => ([.d (.agg i.1.enc), .d (.one (.row 3 (encS i.2)))] : List AV)) i = (fun (i : T × (List Stp)) => ([.d (.agg i.1.enc), .d (.one (.row 3 (encS i.2)))] : List AV)) j → i = j := by
  rintro ⟨t, a⟩ ⟨t', a'⟩ h
  simp only [Prod.mk.injEq]
  simpa [strs_eq, T.enc_eq, encL_eq, F.enc_eq, encF_eq, Tk.enc_eq, encTk_eq, Gn.enc_eq, ints_eq, encS_eq] using h
theorem spAllP_md (k:Nat) : (spAllP k).md = [false, false] := rfl
theorem spAllP_pre (k:Nat) (t : T) (a : List Stp) : (spAllP k).pre [.d (.agg t.enc), .d (.one (.row 3 (encS a)))] = ((t.fit 2000000 ∧ t.keyed ∧ sizeT t ≤ 100 ∧ (a.length : Int) + sizeT t ≤ 300) ∧ SizeOf.sizeOf t < k) := Spec.of_pre' spAllP_inj (t, a)
theorem spAllP_alts (k:Nat) : (spAllP k).alts = none := rfl
theorem spAllP_res (k:Nat) (t : T) (a : List Stp) : (spAllP k).res [.d (.agg t.enc), .d (.one (.row 3 (encS a)))] = [.own 1 (encSX (allT t a))] := Spec.of_res spAllP_inj (t, a)
theorem spAllP_out (k:Nat) (t : T) (a : List Stp) : (spAllP k).out [.d (.agg t.enc), .d (.one (.row 3 (encS a)))] = [.gone, .gone] := Spec.of_out spAllP_inj (t, a)
theorem spAllP_all (k:Nat) (t : T) (a : List Stp) (F : List AV → List AV → Prop) : (spAllP k).all [.d (.agg t.enc), .d (.one (.row 3 (encS a)))] F = F [.own 1 (encSX (allT t a))] [.gone, .gone] := by rw [Spec.all_fn rfl, spAllP_res, spAllP_out]
theorem spAllP_ne (k:Nat) (t : T) (a : List Stp) : (spAllP k).ne [.d (.agg t.enc), .d (.one (.row 3 (encS a)))] = True := Spec.ne_fn rfl _
set_option maxHeartbeats 2000000 in
theorem l3All_sound (k : Nat) (hS : Sound Go.Proofs.Tryd.prog 18 (spAllP k)) : Sound Go.Proofs.Tryd.prog 18 (spAllP (k + 1)) := by
  refine sound_fam (GOK.cons call_l3All hS GOK.nil) Go.Proofs.Tryd.func18 (c := Go.Proofs.Tryd.f18.body.getD .skip) rfl (n := 45) rfl chk_l3All rs_l3All (fun _ => by simp) ?_ ?_
  · exact spAllP_inj
  · rintro ⟨t, a⟩ ⟨⟨h1, h2, h3, h5⟩, h4⟩
    obtain ⟨kk, n, s, ks, l⟩ := t
    simp only [T.fit, lenB, strsFit] at h1
    obtain ⟨_, _, f1, ⟨f2, _⟩, f3, f4⟩ := h1
    obtain ⟨g1, g2⟩ := h2
    have e3 : SizeOf.sizeOf l < k := by have e : SizeOf.sizeOf (T.mk kk n s ks l) < k + 1 := h4
                                        rw [T.mk.sizeOf_spec] at e; omega
    have hsz : sizeT (T.mk kk n s ks l) = 1 + sizeL l := rfl
    have hpos := allLs_len 0 [] l 0 []
    replace h3 : 1 + sizeL l ≤ 100 := h3
    replace h5 : (a.length : Int) + (1 + sizeL l) ≤ 300 := h5
    simp only [x_l3All, T.enc, go_sem, seval, Prod.fst, rg, strs_len, encL_len, encS_len]
    repeat' (first | with_reducible assumption | with_reducible refine And.intro ?_ ?_ | intro _)
    all_goals first | omega | skip
    refine pw_loop (ι := Nat) (fun i => l.length - i) (fun i => i ≤ l.length)
      (fun i => ⟨[(1, .q (.c (.row 3 (encS a)))), (2, .q (.box 2 0)), (5, .q (.own 11)), (6, .q (.c (.int .i64 i)))], [(2, [.c (.int .i64 kk), .c (.int .i64 n), .c (.str s), .c (.row 1 (strs ks)), .c (.row 5 (encL l))])],
        [(11, 1, encSX (a :: allLs kk ks (l.take i) 0 a))]⟩) 0 (Nat.zero_le _) ?_ ?_
    · exact Le.sub (by simp) (by simp) (by simp [allLs, encSX])
    · intro i hi
      rcases Nat.lt_or_ge i l.length with hlt | hge
      · obtain ⟨t, ht, _, hmem⟩ := drop_at hlt
        have a1 := encL_at ht
        have a2 : ((i : Int) < (l.length : Int)) = True := by simp; omega
        have a3 := fitL_mem f4 t hmem
        have a4 := size_mem hmem
        have a6 := T.enc_len t
        have a8 := sizeL_mem hmem
        have a9 := keyed_mem g2 t hmem
        have c1 := allLs_len kk ks (l.take i) 0 a
        have c2 := allT_len t (a ++ [stepAt kk ks i])
        have c3 := allLs_len kk ks (l.take (i + 1)) 0 a
        have c4 : sizeL (l.take (i + 1)) ≤ sizeL l := sizeL_takeP
        rw [allLs_take ht, List.length_append] at c3
        have c5 := sizeT_pos t
        by_cases hk : kk = 6
        · have b1 : (kk = 6) = True := eq_true hk
          have hlk : i < ks.length := by rw [g1 hk]; exact hlt
          have a5 := strs_at (l := ks) (i := i) (s := ks[i]) (by simp [hlk])
          have hst : stepAt kk ks i = ⟨true, ks[i], 0⟩ := by simp [stepAt, hk, hlk]
          rw [hst] at c2 c3
          simp only [go_sem, seval, Prod.fst, rg, a1, a2, a5, a6, b1, encL_len, foldS, dtR_encS, spAllP_md, spAllP_pre, spAllP_alts, spAllP_res, spAllP_out, spAllP_md, spAllP_pre, spAllP_ne, ↓spAllP_all, spAllP_all, encSX_len, List.length_append, List.length_cons, List.length_nil]
          repeat' (first | with_reducible assumption | with_reducible refine And.intro ?_ ?_ | intro _)
          all_goals first | omega | assumption | skip
          all_goals first | (have := hlt; omega) | skip
          refine ⟨i + 1, by omega, by omega, ?_⟩
          rw [allLs_take ht, hst]
          exact Le.sub (by simp) (by simp) (by simp [encSX])
        · have b1 : (kk = 6) = False := eq_false hk
          have hst : stepAt kk ks i = ⟨false, ⟨#[]⟩, i⟩ := by simp [stepAt, hk]
          rw [hst] at c2 c3
          simp only [go_sem, seval, Prod.fst, rg, a1, a2, a6, b1, encL_len, foldS, dtR_encS, spAllP_md, spAllP_pre, spAllP_alts, spAllP_res, spAllP_out, spAllP_md, spAllP_pre, spAllP_ne, ↓spAllP_all, spAllP_all, encSX_len, List.length_append, List.length_cons, List.length_nil]
          repeat' (first | with_reducible assumption | with_reducible refine And.intro ?_ ?_ | intro _)
          all_goals first | omega | assumption | skip
          refine ⟨i + 1, by omega, by omega, ?_⟩
          rw [allLs_take ht, hst]
          exact Le.sub (by simp) (by simp) (by simp [encSX])
      · have a2 : ((i : Int) < (l.length : Int)) = False := by simp; omega
        simp only [go_sem, seval, Prod.fst, rg, a2, List.take_of_length_le hge]
        simp [allT]
theorem l3All_all (k : Nat) : Sound Go.Proofs.Tryd.prog 18 (spAllP k) := by
  induction k with
  | zero => exact Sound.none
  | succ k ih => exact l3All_sound k ih
noncomputable def spAllPT  : Spec := Spec.of (ι := T × (List Stp)) [false, false] (fun i => [.d (.agg i.1.enc), .d (.one (.row 3 (encS i.2)))]) (fun i => i.1.fit 2000000 ∧ i.1.keyed ∧ sizeT i.1 ≤ 100 ∧ (i.2.length : Int) + sizeT i.1 ≤ 300) (fun i => [.own 1 (encSX (allT i.1 i.2))]) (fun _ => [.gone, .gone])
theorem spAllPT_inj : ∀ i j : T × (List Stp), (fun (i : T × (List Stp)) => ([.d (.agg i.1.enc), .d (.one (.row 3 (encS i.2)))] : List AV)) i = (fun (i : T × (List Stp)) => ([.d (.agg i.1.enc), .d (.one (.row 3 (encS i.2)))] : List AV)) j → i = j := by
  rintro ⟨t, a⟩ ⟨t', a'⟩ h
  simp only [Prod.mk.injEq]
  simpa [strs_eq, T.enc_eq, encL_eq, F.enc_eq, encF_eq, Tk.enc_eq, encTk_eq, Gn.enc_eq, ints_eq, encS_eq] using h
theorem spAllPT_md  : (spAllPT).md = [false, false] := rfl
theorem spAllPT_pre  (t : T) (a : List Stp) : (spAllPT).pre [.d (.agg t.enc), .d (.one (.row 3 (encS a)))] = (t.fit 2000000 ∧ t.keyed ∧ sizeT t ≤ 100 ∧ (a.length : Int) + sizeT t ≤ 300) := Spec.of_pre' spAllPT_inj (t, a)
theorem spAllPT_alts  : (spAllPT).alts = none := rfl
theorem spAllPT_res  (t : T) (a : List Stp) : (spAllPT).res [.d (.agg t.enc), .d (.one (.row 3 (encS a)))] = [.own 1 (encSX (allT t a))] := Spec.of_res spAllPT_inj (t, a)
theorem spAllPT_out  (t : T) (a : List Stp) : (spAllPT).out [.d (.agg t.enc), .d (.one (.row 3 (encS a)))] = [.gone, .gone] := Spec.of_out spAllPT_inj (t, a)
theorem l3AllT_sound : Sound Go.Proofs.Tryd.prog 18 spAllPT := Sound.all (μ := fun i => SizeOf.sizeOf i.1) l3All_all
end Go.Proofs.Pw
/- All ways into a tree that is ok (under way). -/
set_option linter.unusedSimpArgs false
set_option maxRecDepth 20000
namespace Go.Proofs.Pw
set_option linter.unusedSectionVars false
variable [Globs]
mutual
theorem form_keyed : ∀ (t : T) (d : Int), formT t d → t.keyed
  | .mk k n s ks l, d, h => by
    simp only [formT] at h
    obtain ⟨_, _, _, _, _, _, _, _, _, _, h11, h12⟩ := h
    exact ⟨fun hk => (h11 hk).1, formL_keyed l (d - 1) h12⟩
theorem formL_keyed : ∀ (l : List T) (d : Int), formL l d → keyedL l
  | [], _, _ => trivial
  | t :: l, d, h => by
    simp only [formL] at h
    exact ⟨form_keyed t d h.1, formL_keyed l d h.2⟩
end
noncomputable def waysT (t : T) : List (List Stp) := if okT t then allT t [] else []
theorem foldN : C.row 3 [] = C.row 3 (encS []) := rfl
def x_PathAll : X := (.seq (.reg [⟨some 1, none, .box (.t 0) (some 5)⟩, ⟨some 2, none, .mv (.k (.z 1))⟩] none [1]) (.seq (.seq (.reg [⟨some 3, none, .load (.t 1) (some 5)⟩, ⟨some 4, none, .call 17 [(.t 3)]⟩, ⟨some 5, none, .not (.t 4)⟩] none [1, 5]) (.cond (.t 5) (.seq (.reg [⟨some 6, none, .bsl 1 []⟩, ⟨some 2, none, .mv (.t 6)⟩] none [2]) .ret) .skip)) (.seq (.reg [⟨some 7, none, .load (.t 1) (some 5)⟩, ⟨some 8, none, .callx 18 [(.t 7), (.k (.z 3))]⟩, ⟨some 2, none, .mv (.t 8)⟩] none [2]) .ret)))
theorem chk_PathAll : chkX Go.Proofs.Tryd.prog 9 (Go.Proofs.Tryd.f6.body.getD .skip) x_PathAll = true := by kernel_rfl
theorem rs_PathAll : okRs Go.Proofs.Tryd.prog Go.Proofs.Tryd.f6.results.toList [.tmp 2] = true := by kernel_rfl
theorem call_PathAll : okCallee Go.Proofs.Tryd.prog 6 = true := by kernel_rfl
noncomputable def spPathAll  : Spec := Spec.of (ι := T) [false] (fun i => [.d (.agg i.enc)]) (fun i => i.fit 2000000 ∧ sizeT i ≤ 1048577) (fun i => [.own 1 (encSX (waysT i))]) (fun _ => [.gone])
theorem spPathAll_inj : ∀ i j : T, (fun (i : T) => ([.d (.agg i.enc)] : List AV)) i = (fun (i : T) => ([.d (.agg i.enc)] : List AV)) j → i = j := by
  intro t t' h
  simpa [strs_eq, T.enc_eq, encL_eq, F.enc_eq, encF_eq, Tk.enc_eq, encTk_eq, Gn.enc_eq, ints_eq] using h
theorem spPathAll_md  : (spPathAll).md = [false] := rfl
theorem spPathAll_pre  (t : T) : (spPathAll).pre [.d (.agg t.enc)] = (t.fit 2000000 ∧ sizeT t ≤ 1048577) := Spec.of_pre' spPathAll_inj t
theorem spPathAll_alts  : (spPathAll).alts = none := rfl
theorem spPathAll_res  (t : T) : (spPathAll).res [.d (.agg t.enc)] = [.own 1 (encSX (waysT t))] := Spec.of_res spPathAll_inj t
theorem spPathAll_out  (t : T) : (spPathAll).out [.d (.agg t.enc)] = [.gone] := Spec.of_out spPathAll_inj t
set_option maxHeartbeats 2000000 in
theorem PathAll_sound : Sound Go.Proofs.Tryd.prog 6 spPathAll := by
  refine sound_fam (GOK.cons (l := [(18, spAllPT)]) call_ValOk sOkT_sound (GOK.cons call_l3All l3AllT_sound GOK.nil)) Go.Proofs.Tryd.func6 (c := Go.Proofs.Tryd.f6.body.getD .skip) rfl (n := 9) rfl chk_PathAll rs_PathAll (fun _ => by simp) ?_ ?_
  · exact spPathAll_inj
  · rintro t ⟨h1, h2⟩
    have a6 := T.enc_len t
    by_cases hk : okT t
    · have b1 : okT t = True := eq_true hk
      have k1 := okT_size hk
      have k2 := form_keyed t 6 hk.1
      simp only [x_PathAll, go_sem, seval, Prod.fst, rg, a6, b1, foldN, spOkT_md, spOkT_pre, spOkT_alts, spOkT_res, spOkT_out, spAllPT_md, spAllPT_pre, spAllPT_alts, spAllPT_res, spAllPT_out]
      exact ⟨⟨T.fit_mono (by omega) h1, h2⟩, fun _ => ⟨⟨h1, k2, by omega, by omega⟩, fun _ => by simp [waysT, hk]⟩⟩
    · have b1 : okT t = False := eq_false hk
      simp only [x_PathAll, go_sem, seval, Prod.fst, rg, a6, b1, foldN, spOkT_md, spOkT_pre, spOkT_alts, spOkT_res, spOkT_out, spAllPT_md, spAllPT_pre, spAllPT_alts, spAllPT_res, spAllPT_out]
      exact ⟨⟨T.fit_mono (by omega) h1, h2⟩, fun _ => by simp [waysT, hk, encSX]⟩
end Go.Proofs.Pw
/- What is small enough by the laws' count fits. -/
namespace Go.Proofs.Pw
theorem szStr_fit : ∀ {ks : List ByteArray} {left : Int}, 0 ≤ left → 0 ≤ szStr ks left → ∀ s ∈ ks, (s.size : Int) ≤ left := by
  intro ks
  induction ks with
  | nil => intro left _ _ s hs; simp at hs
  | cons x r ih =>
    intro left h0 h s hs
    simp only [szStr] at h
    split at h
    · omega
    · rcases List.mem_cons.1 hs with rfl | hs
      · omega
      · have := ih (left := left - x.size) (by omega) h s hs; omega
theorem szStrS_fit {ks : List ByteArray} {left : Int} (h0 : 0 ≤ left) (hl : left ≤ 1048576) (h : 0 ≤ szStrS ks left) : strsFit 1048576 ks := by
  simp only [szStrS] at h
  split at h
  · omega
  · refine ⟨by unfold lenB; omega, fun s hs => ?_⟩
    have := szStr_fit (left := left - ks.length) (by omega) h s hs
    unfold lenB; omega
mutual
theorem szT_fit : ∀ {t : T} {left : Int} {B : Int}, 0 ≤ left → left ≤ 1048576 → t.fit B → 0 ≤ szT t left → t.fit 1048576 ∧ sizeT t ≤ left - szT t left + 1
  | .mk k n s ks l, left, B, h0, hl, hf, h => by
    simp only [T.fit] at hf ⊢
    simp only [szT, sizeT] at h ⊢
    have e1 := szStrS_le (ks := ks) (left := left - s.size)
    split at h
    · omega
    · split at h
      · omega
      · split at h
        · omega
        · rename_i a b c
          rw [if_neg a, if_neg b, if_neg c]
          have h1 := szStrS_fit (ks := ks) (left := left - s.size) (by omega) (by omega) (by omega)
          have h2 := szTL_fit (l := l) (B := B) (left := szStrS ks (left - s.size) - l.length) (by omega) (by omega) hf.2.2.2.2.2 h
          refine ⟨⟨hf.1, hf.2.1, by unfold lenB; omega, h1, by unfold lenB; omega, h2.1⟩, by omega⟩
theorem szTL_fit : ∀ {l : List T} {left : Int} {B : Int}, 0 ≤ left → left ≤ 1048576 → fitL B l → 0 ≤ szTL l left → fitL 1048576 l ∧ sizeL l ≤ left - szTL l left + l.length
  | [], left, B, h0, hl, hf, h => by simp [fitL, sizeL, szTL]
  | t :: r, left, B, h0, hl, hf, h => by
    simp only [fitL] at hf ⊢
    simp only [szTL, sizeL, List.length_cons] at h ⊢
    have e1 := szT_le (t := t) h0
    split at h
    · omega
    · rename_i a
      rw [if_neg a]
      have h1 := szT_fit (t := t) h0 hl hf.1 (by omega)
      have h2 := szTL_fit (l := r) (left := szT t left) (by omega) (by omega) hf.2 h
      exact ⟨⟨h1.1, h2.1⟩, by omega⟩
end
end Go.Proofs.Pw
namespace Go.Proofs.Pw
mutual
theorem szF_fit : ∀ {t : F} {left : Int} {B : Int}, 0 ≤ left → left ≤ 1048576 → t.fit B → 0 ≤ szF t left → t.fit 1048576 ∧ smallF t ∧ sizeF t ≤ left - szF t left + 1
  | .mk k n s v l, left, B, h0, hl, hf, h => by
    simp only [F.fit] at hf ⊢
    simp only [szF, sizeF, smallF] at h ⊢
    have e1 := szT_le (t := v) (left := left - s.size)
    split at h
    · omega
    · split at h
      · omega
      · split at h
        · omega
        · rename_i a b c
          rw [if_neg a, if_neg b, if_neg c]
          have h1 := szT_fit (t := v) (B := B) (left := left - s.size) (by omega) (by omega) hf.2.2.2.1 (by omega)
          have h2 := szFL_fit (l := l) (B := B) (left := szT v (left - s.size) - l.length) (by omega) (by omega) hf.2.2.2.2.2 h
          refine ⟨⟨hf.1, hf.2.1, by unfold lenB; omega, h1.1, by unfold lenB; omega, h2.1⟩, ⟨by omega, h2.2.1⟩, by omega⟩
theorem szFL_fit : ∀ {l : List F} {left : Int} {B : Int}, 0 ≤ left → left ≤ 1048576 → fitF B l → 0 ≤ szFL l left → fitF 1048576 l ∧ smallFL l ∧ sizeFL l ≤ left - szFL l left + l.length
  | [], left, B, h0, hl, hf, h => by simp [fitF, sizeFL, szFL, smallFL]
  | t :: r, left, B, h0, hl, hf, h => by
    simp only [fitF] at hf ⊢
    simp only [szFL, sizeFL, smallFL, List.length_cons] at h ⊢
    have e1 := szF_le (t := t) h0
    split at h
    · omega
    · rename_i a
      rw [if_neg a]
      have h1 := szF_fit (t := t) h0 hl hf.1 (by omega)
      have h2 := szFL_fit (l := r) (left := szF t left) (by omega) (by omega) hf.2 h
      exact ⟨⟨h1.1, h2.1⟩, ⟨h1.2.1, h2.2.1⟩, by omega⟩
end
end Go.Proofs.Pw
namespace Go.Proofs.Pw
end Go.Proofs.Pw
namespace Go.Proofs.Pw
section
set_option linter.unusedSectionVars false
variable {B B' : Int} (hB : B ≤ B')
include hB
theorem lenB_le {n : Nat} (h : lenB B n) : lenB B' n := by unfold lenB at *; omega
theorem strsFit_le {ks : List ByteArray} (h : strsFit B ks) : strsFit B' ks := ⟨lenB_le hB h.1, fun s hs => lenB_le hB (h.2 s hs)⟩
mutual
theorem T.fit_le : ∀ {t : T}, t.fit B → t.fit B'
  | .mk k n s ks l, h => by
    simp only [T.fit] at h ⊢
    exact ⟨h.1, h.2.1, lenB_le hB h.2.2.1, strsFit_le hB h.2.2.2.1, lenB_le hB h.2.2.2.2.1, fitL_le h.2.2.2.2.2⟩
theorem fitL_le : ∀ {l : List T}, fitL B l → fitL B' l
  | [], _ => trivial
  | t :: l, h => by
    simp only [fitL] at h ⊢
    exact ⟨T.fit_le h.1, fitL_le h.2⟩
end
mutual
theorem F.fit_le : ∀ {t : F}, t.fit B → t.fit B'
  | .mk k n s v l, h => by
    simp only [F.fit] at h ⊢
    exact ⟨h.1, h.2.1, lenB_le hB h.2.2.1, T.fit_le hB h.2.2.2.1, lenB_le hB h.2.2.2.2.1, fitF_le h.2.2.2.2.2⟩
theorem fitF_le : ∀ {l : List F}, fitF B l → fitF B' l
  | [], _ => trivial
  | t :: l, h => by
    simp only [fitF] at h ⊢
    exact ⟨F.fit_le h.1, fitF_le h.2⟩
end
theorem Tk.fit_le {t : Tk} (h : t.fit B) : t.fit B' := ⟨T.fit_le hB h.1, lenB_le hB h.2.1, fitF_le hB h.2.2⟩
theorem Gn.fit_le {g : Gn} (h : g.fit B) : g.fit B' := ⟨lenB_le hB h.1, fun t ht => Tk.fit_le hB (h.2.1 t ht), h.2.2⟩
end
end Go.Proofs.Pw
/- Ways in the laws' text: their size, and the marks on them. -/
namespace Go.Proofs.Pw
end Go.Proofs.Pw
/- Texts of trees, as both programs write them. -/
namespace Go.Proofs.Pw
open Go
def bL (l : List UInt8) : ByteArray := ⟨l.toArray⟩
theorem bL_app (a b : List UInt8) : bL (a ++ b) = bL a ++ bL b := by
  unfold bL
  apply ByteArray.ext
  simp [ByteArray.data_append]
theorem bL_size (l : List UInt8) : (bL l).size = l.length := by simp [bL, ByteArray.size]
theorem bL_toList (l : List UInt8) : (bL l).data.toList = l := by simp [bL]
theorem ba_assoc (a b c : ByteArray) : a ++ b ++ c = a ++ (b ++ c) := ByteArray.append_assoc
theorem ba_nil (a : ByteArray) : ⟨#[]⟩ ++ a = a := by
  apply ByteArray.ext
  simp [ByteArray.data_append]
theorem ba_nil' (a : ByteArray) : a ++ ⟨#[]⟩ = a := by
  apply ByteArray.ext
  simp [ByteArray.data_append]
def itoaB (n : Int) : ByteArray := bL (Lib.itoa n)
def joinB (xs : List ByteArray) (sep : ByteArray) : ByteArray := bL (Lib.join (xs.map (·.data.toList)) sep.data.toList)
theorem itoaB_size {n : Int} (h0 : -9223372036854775808 ≤ n) (h1 : n ≤ 9223372036854775807) : (itoaB n).size ≤ 21 := by
  unfold itoaB
  rw [bL_size]; exact Lib.itoa_length_le n h0 h1
theorem joinB_nil (sep : ByteArray) : joinB [] sep = ⟨#[]⟩ := rfl
def lensB : List ByteArray → Nat
  | [] => 0
  | x :: r => x.size + lensB r
theorem ba_len (x : ByteArray) : x.data.toList.length = x.size := Array.length_toList
theorem lensB_eq (xs : List ByteArray) : Lib.lens (xs.map (·.data.toList)) = lensB xs := by
  induction xs with
  | nil => rfl
  | cons x r ih =>
    simp only [Lib.lens, List.map_cons, List.sum_cons, lensB] at ih ⊢
    rw [ih, ba_len]
theorem joinB_size (sep : ByteArray) (xs : List ByteArray) : (joinB xs sep).size ≤ lensB xs + xs.length * sep.size := by
  cases xs with
  | nil => rw [joinB_nil]; exact Nat.zero_le _
  | cons x r =>
    unfold joinB
    rw [bL_size, List.map_cons, Lib.join_cons, List.length_append, Lib.joinTail_length, lensB_eq]
    simp only [List.length_map, lensB, List.length_cons, Nat.add_mul, Nat.one_mul]
    have e1 : x.data.toList.length = x.size := ba_len x
    have e2 : sep.data.toList.length = sep.size := ba_len sep
    rw [e1, e2, Nat.mul_comm sep.size]; omega
mutual
def textT : T → ByteArray
  | .mk k n s ks l => if k = 0 then ⟨#[110, 117, 108, 108]⟩ else if k = 1 then ⟨#[102, 97, 108, 115, 101]⟩ else if k = 2 then ⟨#[116, 114, 117, 101]⟩ else if k = 3 then itoaB n
    else if k = 4 then ⟨#[39]⟩ ++ s ++ ⟨#[39]⟩ else if k = 6 then ⟨#[123]⟩ ++ joinB (textLs k ks l) ⟨#[44]⟩ ++ ⟨#[125]⟩ else ⟨#[91]⟩ ++ joinB (textLs k ks l) ⟨#[44]⟩ ++ ⟨#[93]⟩
def textLs (k : Int) : List ByteArray → List T → List ByteArray
  | _, [] => []
  | ks, t :: l => (if k = 6 then ks.headD ⟨#[]⟩ ++ ⟨#[58]⟩ ++ textT t else textT t) :: textLs k ks.tail l
end
theorem textLs_len (k : Int) : ∀ (ks : List ByteArray) (l : List T), (textLs k ks l).length = l.length
  | _, [] => by simp [textLs]
  | ks, t :: l => by simp [textLs, textLs_len k ks.tail l]
mutual
theorem textT_size : ∀ {t : T} {d : Int}, formT t d → ((textT t).size : Int) + 14 ≤ 40 * sizeT t
  | .mk k n s ks l, d, h => by
    simp only [formT] at h
    obtain ⟨h1, h2, h3, h4, h5, h6, h7, h8, h9, h10, h11, h12⟩ := h
    have hs := h10.2
    have hn := itoaB_size (n := n) (by omega) (by omega)
    have hl := textLs_size (k := k) (ks := ks) (fun s hs => by
      rcases h4 with h4 | h4
      · obtain ⟨i, hi⟩ := List.getElem?_of_mem hs
        exact (okKeys_at (h11 h4).2 hi).2
      · subst h4; simp at hs) h12
    have hp := sizeL_nn l
    have hj := joinB_size ⟨#[44]⟩ (textLs k ks l)
    rw [textLs_len] at hj
    have hc : (ByteArray.mk #[44]).size = 1 := rfl
    rw [hc] at hj
    have e1 : (ByteArray.mk #[39]).size = 1 := rfl
    have e2 : (ByteArray.mk #[123]).size = 1 := rfl
    have e3 : (ByteArray.mk #[125]).size = 1 := rfl
    have e4 : (ByteArray.mk #[91]).size = 1 := rfl
    have e5 : (ByteArray.mk #[93]).size = 1 := rfl
    have e6 : (ByteArray.mk #[110, 117, 108, 108]).size = 4 := rfl
    have e7 : (ByteArray.mk #[102, 97, 108, 115, 101]).size = 5 := rfl
    have e8 : (ByteArray.mk #[116, 114, 117, 101]).size = 4 := rfl
    simp only [textT, sizeT]
    repeat' split
    all_goals try simp only [ByteArray.size_append, e1, e2, e3, e4, e5, e6, e7, e8]
    all_goals omega
theorem textLs_size {k : Int} : ∀ {ks : List ByteArray} {l : List T} {d : Int}, (∀ s ∈ ks, s.size ≤ 12) → formL l d → (lensB (textLs k ks l) : Int) + l.length ≤ 40 * sizeL l
  | _, [], _, _, _ => by simp [textLs, lensB, sizeL]
  | ks, t :: l, d, hk, h => by
    simp only [formL] at h
    have h1 := textT_size h.1
    have h2 := textLs_size (k := k) (ks := ks.tail) (fun s hs => hk s (List.mem_of_mem_tail hs)) h.2
    have h3 : (ks.headD ⟨#[]⟩).size ≤ 12 := by
      cases ks with
      | nil => decide
      | cons a r => exact hk a (by simp)
    have e1 : (ByteArray.mk #[58]).size = 1 := rfl
    simp only [textLs, lensB, sizeL, List.length_cons]
    split
    · rw [ByteArray.size_append, ByteArray.size_append, e1]; omega
    · omega
end
theorem len_sizeL : ∀ l : List T, (l.length : Int) ≤ sizeL l
  | [] => by simp [sizeL]
  | t :: l => by have := sizeT_pos t; have := len_sizeL l; simp only [List.length_cons, sizeL]; omega
/-! Numbers. -/
def decB (u : Nat) : ByteArray := bL (Lib.decDigits u)
theorem itoaB_neg {n : Int} (h : n < 0) : itoaB n = ⟨#[45]⟩ ++ itoaB (0 - n) := by
  unfold itoaB Lib.itoa
  rw [if_pos h, if_neg (by omega)]
  have e : (0 - n).toNat = n.natAbs := by omega
  rw [e, show (45 :: Lib.decDigits n.natAbs) = [45] ++ Lib.decDigits n.natAbs from rfl, bL_app]
  rfl
theorem itoaB_pos {n : Int} (h : 0 ≤ n) : itoaB n = decB n.toNat := by
  unfold itoaB Lib.itoa decB
  rw [if_neg (by omega)]
theorem decB_small {u : Nat} (h : u < 10) : decB u = bytesS [((48 + u : Nat) : Int)] := by
  unfold decB
  rw [Lib.decDigits, dif_pos h]
  rfl
theorem decB_step {u : Nat} (h : ¬ u < 10) (out : ByteArray) : decB u ++ out = decB (u / 10) ++ (bytesS [((48 + u % 10 : Nat) : Int)] ++ out) := by
  unfold decB
  rw [Lib.decDigits, dif_neg h, bL_app, ba_assoc]
  rfl
/-! Texts of filters. -/
def wtab : List ByteArray := [⟨#[]⟩, ⟨#[46]⟩, ⟨#[]⟩, ⟨#[]⟩, ⟨#[]⟩, ⟨#[91, 93]⟩, ⟨#[112, 105, 112, 101]⟩, ⟨#[98, 111, 116, 104]⟩, ⟨#[105, 102]⟩, ⟨#[97, 100, 100]⟩, ⟨#[108, 101, 115, 115]⟩, ⟨#[115, 97, 109, 101]⟩, ⟨#[114, 111, 119]⟩, ⟨#[108, 101, 110]⟩, ⟨#[107, 101, 121, 115]⟩, ⟨#[110, 111, 116]⟩, ⟨#[101, 108, 115, 101]⟩, ⟨#[116, 114, 121]⟩, ⟨#[110, 111, 110, 101]⟩, ⟨#[98, 97, 100]⟩, ⟨#[116, 117, 114, 110]⟩, ⟨#[]⟩]
theorem wtab_size : ∀ i : Fin 22, (wtab.getD i.val ⟨#[]⟩).size ≤ 4 := by decide
def headB (k n : Int) (s : ByteArray) (v : T) : ByteArray :=
  if k = 2 then ⟨#[61]⟩ ++ textT v else if k = 3 then ⟨#[46]⟩ ++ s ++ ⟨#[58]⟩ else if k = 4 then ⟨#[91]⟩ ++ itoaB n ++ ⟨#[93]⟩ else if k = 21 then ⟨#[109, 97, 107, 101, 58]⟩ ++ s else wtab.getD k.toNat ⟨#[]⟩
mutual
def textF : F → ByteArray
  | .mk k n s v l => headB k n s v ++ textFs l
def textFs : List F → ByteArray
  | [] => ⟨#[]⟩
  | t :: l => ⟨#[32]⟩ ++ textF t ++ textFs l
end
theorem headB_size {k n : Int} {s : ByteArray} {v : T} (hk : 0 ≤ k ∧ k ≤ 21) (hn : -60 ≤ n ∧ n < 60) (hs : s.size ≤ 12) (hv : okT v) : (headB k n s v).size ≤ 2402 := by
  have h1 := textT_size hv.1
  have h2 := okT_size hv
  have h3 := itoaB_size (n := n) (by omega) (by omega)
  have h4 := wtab_size ⟨k.toNat, by omega⟩
  simp only at h4
  have e1 : (ByteArray.mk #[61]).size = 1 := rfl
  have e2 : (ByteArray.mk #[46]).size = 1 := rfl
  have e3 : (ByteArray.mk #[58]).size = 1 := rfl
  have e4 : (ByteArray.mk #[91]).size = 1 := rfl
  have e5 : (ByteArray.mk #[93]).size = 1 := rfl
  have e6 : (ByteArray.mk #[109, 97, 107, 101, 58]).size = 5 := rfl
  unfold headB
  repeat' split
  all_goals try simp only [ByteArray.size_append, e1, e2, e3, e4, e5, e6]
  all_goals omega
mutual
theorem textF_size : ∀ {t : F} {d : Int}, formF t d → ((textF t).size : Int) + 1 ≤ 2500 * sizeF t
  | .mk k n s v l, d, h => by
    simp only [formF] at h
    obtain ⟨h1, h2, h3, h4, h5, h6, h7, h8, h9⟩ := h
    have h10 := kidsOf_range (show 0 ≤ kidsOf k by omega)
    have a := headB_size (s := s) (v := v) (show 0 ≤ k ∧ k ≤ 21 by omega) ⟨h5, h6⟩ h4.2 h7
    have b := textFs_size h8
    have c := manyFL_le l 0
    simp only [textF, sizeF, ByteArray.size_append]; omega
theorem textFs_size : ∀ {l : List F} {d : Int}, formFL l d → ((textFs l).size : Int) ≤ 2500 * sizeFL l
  | [], _, _ => by simp [textFs, sizeFL, ByteArray.size]
  | t :: l, d, h => by
    simp only [formFL] at h
    have h1 := textF_size h.1
    have h2 := textFs_size h.2
    have e1 : (ByteArray.mk #[32]).size = 1 := rfl
    simp only [textFs, sizeFL, ByteArray.size_append, e1]; omega
end
end Go.Proofs.Pw
