/- Ways: something is put at their end. -/
import Derived.Test.YtlgalkdnikfmkaaPwT16
import Derived.Test.YtlgalkdnikfmkaaPwT12
import Derived.Test.YtlgalkdnikfmkaaPwT10
import Derived.Test.YtlgalkdnikfmkaaPwT9
set_option linter.unusedSimpArgs false
set_option linter.unusedVariables false
set_option linter.unusedSimpArgs false
set_option maxRecDepth 20000
namespace Go.Proofs.Pw
set_option linter.unusedSectionVars false
variable [Globs]
def x_l3Put : X := (.seq (.reg [⟨some 3, none, .box (.t 0) (some 5)⟩, ⟨some 5, none, .box (.t 2) (some 5)⟩, ⟨some 6, none, .alloc [(.c (.int .i64 0)), (.c (.int .i64 0)), (.c (.str ⟨#[]⟩)), (.z 1), (.z 5)]⟩, ⟨some 7, none, .mv (.k (.c (.bool false)))⟩] none [1, 3, 5, 6]) (.seq (.seq (.reg [⟨some 12, none, .mv (.t 1)⟩, ⟨some 13, none, .len (.t 12) false⟩, ⟨some 14, none, .bin false .eql (.t 13) (.k (.c (.int .i64 0)))⟩] none [1, 3, 5, 6, 14]) (.cond (.t 14) (.seq (.reg [⟨some 15, none, .load (.t 5) (some 5)⟩, ⟨none, none, .st (.t 6) (.t 15) (some 5)⟩, ⟨some 7, none, .mv (.k (.c (.bool true)))⟩] none [6, 7]) .ret) .skip)) (.seq (.mix [⟨some 17, none, .load (.t 3) (some 5)⟩, ⟨some 18, none, .mv (.t 1)⟩, ⟨some 19, none, .ia (.t 18) (.k (.c (.int .i64 0))) 3⟩, ⟨some 20, none, .load (.t 19) (some 3)⟩, ⟨some 21, none, .call 39 [(.t 17), (.t 20)]⟩, ⟨some 16, none, .mv (.t 21)⟩, ⟨some 22, none, .ext (.t 16) 0⟩, ⟨some 23, none, .ext (.t 16) 1⟩, ⟨some 8, none, .alloc [(.c (.int .i64 0)), (.c (.int .i64 0)), (.c (.str ⟨#[]⟩)), (.z 1), (.z 5)]⟩, ⟨none, none, .st (.t 8) (.t 22) (some 5)⟩] [⟨some 9, none, .mv (.t 23)⟩] [[], [], [], [], [], [], [], [], [0, 1, 2, 3, 5, 6, 7], []] [1, 3, 5, 6, 8, 9]) (.seq (.seq (.reg [⟨some 24, none, .mv (.t 9)⟩, ⟨some 25, none, .not (.t 24)⟩] none [1, 3, 5, 6, 8, 25]) (.cond (.t 25) (.seq (.reg [⟨some 26, none, .build [(.c (.int .i64 0)), (.c (.int .i64 0)), (.c (.str ⟨#[]⟩)), (.z 1), (.z 5)] []⟩, ⟨none, none, .st (.t 6) (.t 26) (some 5)⟩, ⟨some 7, none, .mv (.k (.c (.bool false)))⟩] none [6, 7]) .ret) .skip)) (.seq (.mix [⟨some 28, none, .load (.t 8) (some 5)⟩, ⟨some 29, none, .mv (.t 1)⟩, ⟨some 30, none, .sub (.t 29) (some (.k (.c (.int .i64 1)))) none 3⟩, ⟨some 31, none, .load (.t 5) (some 5)⟩, ⟨some 32, none, .call 20 [(.t 28), (.t 30), (.t 31)]⟩, ⟨some 27, none, .mv (.t 32)⟩, ⟨some 33, none, .ext (.t 27) 0⟩, ⟨some 34, none, .ext (.t 27) 1⟩, ⟨some 10, none, .alloc [(.c (.int .i64 0)), (.c (.int .i64 0)), (.c (.str ⟨#[]⟩)), (.z 1), (.z 5)]⟩, ⟨none, none, .st (.t 10) (.t 33) (some 5)⟩] [⟨some 11, none, .mv (.t 34)⟩] [[], [], [], [], [], [], [], [], [0, 1, 2, 3, 5, 6, 7], []] [1, 3, 6, 10, 11]) (.seq (.seq (.reg [⟨some 35, none, .mv (.t 11)⟩, ⟨some 36, none, .not (.t 35)⟩, ⟨some 37, none, .mv (.t 36)⟩, ⟨some 38, some (37, false), .load (.t 10) (some 5)⟩, ⟨some 39, some (37, false), .call 18 [(.t 38)]⟩, ⟨some 40, some (37, false), .not (.t 39)⟩, ⟨some 41, none, .pick (.t 37) (.k (.c (.bool true))) (.t 40)⟩] none [1, 3, 6, 10, 41]) (.cond (.t 41) (.seq (.reg [⟨some 42, none, .build [(.c (.int .i64 0)), (.c (.int .i64 0)), (.c (.str ⟨#[]⟩)), (.z 1), (.z 5)] []⟩, ⟨none, none, .st (.t 6) (.t 42) (some 5)⟩, ⟨some 7, none, .mv (.k (.c (.bool false)))⟩] none [6, 7]) .ret) .skip)) (.seq (.seq (.reg [⟨some 43, none, .mv (.t 1)⟩, ⟨some 44, none, .ia (.t 43) (.k (.c (.int .i64 0))) 3⟩, ⟨some 45, none, .fa (.t 44) 0⟩, ⟨some 46, none, .load (.t 45) none⟩] none [1, 3, 6, 10, 46]) (.cond (.t 46) (.seq (.reg [⟨some 47, none, .load (.t 3) (some 5)⟩, ⟨some 48, none, .mv (.t 1)⟩, ⟨some 49, none, .ia (.t 48) (.k (.c (.int .i64 0))) 3⟩, ⟨some 50, none, .fa (.t 49) 1⟩, ⟨some 51, none, .load (.t 50) none⟩, ⟨some 52, none, .load (.t 10) (some 5)⟩, ⟨some 53, none, .call 40 [(.t 47), (.t 51), (.t 52)]⟩, ⟨some 54, none, .ext (.t 53) 0⟩, ⟨some 55, none, .ext (.t 53) 1⟩, ⟨none, none, .st (.t 6) (.t 54) (some 5)⟩, ⟨some 7, none, .mv (.t 55)⟩] (some 9) [6, 7]) .ret) .skip)) (.seq (.reg [⟨some 56, none, .load (.t 3) (some 5)⟩, ⟨some 57, none, .mv (.t 1)⟩, ⟨some 58, none, .ia (.t 57) (.k (.c (.int .i64 0))) 3⟩, ⟨some 59, none, .fa (.t 58) 2⟩, ⟨some 60, none, .load (.t 59) none⟩, ⟨some 61, none, .load (.t 10) (some 5)⟩, ⟨some 62, none, .call 41 [(.t 56), (.t 60), (.t 61)]⟩, ⟨some 63, none, .ext (.t 62) 0⟩, ⟨some 64, none, .ext (.t 62) 1⟩, ⟨none, none, .st (.t 6) (.t 63) (some 5)⟩, ⟨some 7, none, .mv (.t 64)⟩] (some 9) [6, 7]) .ret))))))))
theorem chk_l3Put : chkX Go.Proofs.Try.prog 65 (Go.Proofs.Try.f20.body.getD .skip) x_l3Put = true := by kernel_rfl
theorem rs_l3Put : okRs Go.Proofs.Try.prog Go.Proofs.Try.f20.results.toList [.cell 6 (some 5), .tmp 7] = true := by kernel_rfl
theorem call_l3Put : okCallee Go.Proofs.Try.prog 20 = true := by kernel_rfl
def x_pathPut : X := (.seq (.reg [⟨some 3, none, .box (.t 0) (some 5)⟩, ⟨some 5, none, .box (.t 2) (some 5)⟩, ⟨some 6, none, .alloc [(.c (.int .i64 0)), (.c (.int .i64 0)), (.c (.str ⟨#[]⟩)), (.z 1), (.z 5)]⟩, ⟨some 7, none, .mv (.k (.c (.bool false)))⟩] none [1, 3, 5, 6]) (.seq (.seq (.reg [⟨some 12, none, .mv (.t 1)⟩, ⟨some 13, none, .len (.t 12) false⟩, ⟨some 14, none, .bin false .eql (.t 13) (.k (.c (.int .i64 0)))⟩] none [1, 3, 5, 6, 14]) (.cond (.t 14) (.seq (.reg [⟨some 15, none, .load (.t 5) (some 5)⟩, ⟨none, none, .st (.t 6) (.t 15) (some 5)⟩, ⟨some 7, none, .mv (.k (.c (.bool true)))⟩] none [6, 7]) .ret) .skip)) (.seq (.mix [⟨some 17, none, .load (.t 3) (some 5)⟩, ⟨some 18, none, .mv (.t 1)⟩, ⟨some 19, none, .ia (.t 18) (.k (.c (.int .i64 0))) 3⟩, ⟨some 20, none, .load (.t 19) (some 3)⟩, ⟨some 21, none, .call 24 [(.t 17), (.t 20)]⟩, ⟨some 16, none, .mv (.t 21)⟩, ⟨some 22, none, .ext (.t 16) 0⟩, ⟨some 23, none, .ext (.t 16) 1⟩, ⟨some 8, none, .alloc [(.c (.int .i64 0)), (.c (.int .i64 0)), (.c (.str ⟨#[]⟩)), (.z 1), (.z 5)]⟩, ⟨none, none, .st (.t 8) (.t 22) (some 5)⟩] [⟨some 9, none, .mv (.t 23)⟩] [[], [], [], [], [], [], [], [], [0, 1, 2, 3, 5, 6, 7], []] [1, 3, 5, 6, 8, 9]) (.seq (.seq (.reg [⟨some 24, none, .mv (.t 9)⟩, ⟨some 25, none, .not (.t 24)⟩] none [1, 3, 5, 6, 8, 25]) (.cond (.t 25) (.seq (.reg [⟨some 26, none, .build [(.c (.int .i64 0)), (.c (.int .i64 0)), (.c (.str ⟨#[]⟩)), (.z 1), (.z 5)] []⟩, ⟨none, none, .st (.t 6) (.t 26) (some 5)⟩, ⟨some 7, none, .mv (.k (.c (.bool false)))⟩] none [6, 7]) .ret) .skip)) (.seq (.mix [⟨some 28, none, .load (.t 8) (some 5)⟩, ⟨some 29, none, .mv (.t 1)⟩, ⟨some 30, none, .sub (.t 29) (some (.k (.c (.int .i64 1)))) none 3⟩, ⟨some 31, none, .load (.t 5) (some 5)⟩, ⟨some 32, none, .call 17 [(.t 28), (.t 30), (.t 31)]⟩, ⟨some 27, none, .mv (.t 32)⟩, ⟨some 33, none, .ext (.t 27) 0⟩, ⟨some 34, none, .ext (.t 27) 1⟩, ⟨some 10, none, .alloc [(.c (.int .i64 0)), (.c (.int .i64 0)), (.c (.str ⟨#[]⟩)), (.z 1), (.z 5)]⟩, ⟨none, none, .st (.t 10) (.t 33) (some 5)⟩] [⟨some 11, none, .mv (.t 34)⟩] [[], [], [], [], [], [], [], [], [0, 1, 2, 3, 5, 6, 7], []] [1, 3, 6, 10, 11]) (.seq (.seq (.reg [⟨some 35, none, .mv (.t 11)⟩, ⟨some 36, none, .not (.t 35)⟩] none [1, 3, 6, 10, 36]) (.cond (.t 36) (.seq (.reg [⟨some 37, none, .build [(.c (.int .i64 0)), (.c (.int .i64 0)), (.c (.str ⟨#[]⟩)), (.z 1), (.z 5)] []⟩, ⟨none, none, .st (.t 6) (.t 37) (some 5)⟩, ⟨some 7, none, .mv (.k (.c (.bool false)))⟩] none [6, 7]) .ret) .skip)) (.seq (.seq (.reg [⟨some 38, none, .mv (.t 1)⟩, ⟨some 39, none, .ia (.t 38) (.k (.c (.int .i64 0))) 3⟩, ⟨some 40, none, .fa (.t 39) 0⟩, ⟨some 41, none, .load (.t 40) none⟩] none [1, 3, 6, 10, 41]) (.cond (.t 41) (.seq (.reg [⟨some 42, none, .load (.t 3) (some 5)⟩, ⟨some 43, none, .mv (.t 1)⟩, ⟨some 44, none, .ia (.t 43) (.k (.c (.int .i64 0))) 3⟩, ⟨some 45, none, .fa (.t 44) 1⟩, ⟨some 46, none, .load (.t 45) none⟩, ⟨some 47, none, .load (.t 10) (some 5)⟩, ⟨some 48, none, .call 34 [(.t 42), (.t 46), (.t 47)]⟩, ⟨some 49, none, .ext (.t 48) 0⟩, ⟨some 50, none, .ext (.t 48) 1⟩, ⟨none, none, .st (.t 6) (.t 49) (some 5)⟩, ⟨some 7, none, .mv (.t 50)⟩] (some 9) [6, 7]) .ret) .skip)) (.seq (.reg [⟨some 51, none, .load (.t 3) (some 5)⟩, ⟨some 52, none, .mv (.t 1)⟩, ⟨some 53, none, .ia (.t 52) (.k (.c (.int .i64 0))) 3⟩, ⟨some 54, none, .fa (.t 53) 2⟩, ⟨some 55, none, .load (.t 54) none⟩, ⟨some 56, none, .load (.t 10) (some 5)⟩, ⟨some 57, none, .call 35 [(.t 51), (.t 55), (.t 56)]⟩, ⟨some 58, none, .ext (.t 57) 0⟩, ⟨some 59, none, .ext (.t 57) 1⟩, ⟨none, none, .st (.t 6) (.t 58) (some 5)⟩, ⟨some 7, none, .mv (.t 59)⟩] (some 9) [6, 7]) .ret))))))))
theorem chk_pathPut : chkX Go.Proofs.Try.prog 60 (Go.Proofs.Try.f17.body.getD .skip) x_pathPut = true := by kernel_rfl
theorem rs_pathPut : okRs Go.Proofs.Try.prog Go.Proofs.Try.f17.results.toList [.cell 6 (some 5), .tmp 7] = true := by kernel_rfl
theorem call_pathPut : okCallee Go.Proofs.Try.prog 17 = true := by kernel_rfl
theorem encS_take (p : List Stp) : List.take p.length (encS p) = encS p := List.take_of_length_le (by simp [encS])
theorem encS_cons (s : Stp) (p : List Stp) : encS (s :: p) = s.enc :: encS p := rfl
theorem wputO_cons {s : Stp} {p : List Stp} {v x : T} : wputO v (s :: p) x = if canGo s v then (match wputO (oneT s v) p x with
    | some y => partO s v y
    | none => none) else none := rfl
noncomputable def spL3Put (k:Nat) : Spec := Spec.of (ι := T × (List Stp) × T) [false, false, false] (fun i => [.d (.agg i.1.enc), .d (.one (.row 3 (encS i.2.1))), .d (.agg i.2.2.enc)]) (fun i => (okT i.1 ∧ okT i.2.2 ∧ ∀ s ∈ i.2.1, stpOk s) ∧ i.2.1.length < k) (fun i => [.d (.agg (optT (wputO i.1 i.2.1 i.2.2)).enc), .d (.one (.bool (decide ((wputO i.1 i.2.1 i.2.2).isSome = true))))]) (fun _ => [.gone, .gone, .gone])
theorem spL3Put_inj : ∀ i j : T × (List Stp) × T, (fun (i : T × (List Stp) × T) => ([.d (.agg i.1.enc), .d (.one (.row 3 (encS i.2.1))), .d (.agg i.2.2.enc)] : List AV)) i = (fun (i : T × (List Stp) × T) => ([.d (.agg i.1.enc), .d (.one (.row 3 (encS i.2.1))), .d (.agg i.2.2.enc)] : List AV)) j → i = j := by
  rintro ⟨v, p, x⟩ ⟨v', p', x'⟩ h
  simp only [Prod.mk.injEq]
  simpa [strs_eq, T.enc_eq, encL_eq, F.enc_eq, encF_eq, Tk.enc_eq, encTk_eq, Gn.enc_eq, ints_eq, encS_eq] using h
theorem spL3Put_md (k:Nat) : (spL3Put k).md = [false, false, false] := rfl
theorem spL3Put_pre (k:Nat) (v : T) (p : List Stp) (x : T) : (spL3Put k).pre [.d (.agg v.enc), .d (.one (.row 3 (encS p))), .d (.agg x.enc)] = ((okT v ∧ okT x ∧ ∀ s ∈ p, stpOk s) ∧ p.length < k) := Spec.of_pre' spL3Put_inj (v, p, x)
theorem spL3Put_alts (k:Nat) : (spL3Put k).alts = none := rfl
theorem spL3Put_res (k:Nat) (v : T) (p : List Stp) (x : T) : (spL3Put k).res [.d (.agg v.enc), .d (.one (.row 3 (encS p))), .d (.agg x.enc)] = [.d (.agg (optT (wputO v p x)).enc), .d (.one (.bool (decide ((wputO v p x).isSome = true))))] := Spec.of_res spL3Put_inj (v, p, x)
theorem spL3Put_out (k:Nat) (v : T) (p : List Stp) (x : T) : (spL3Put k).out [.d (.agg v.enc), .d (.one (.row 3 (encS p))), .d (.agg x.enc)] = [.gone, .gone, .gone] := Spec.of_out spL3Put_inj (v, p, x)
set_option maxHeartbeats 2000000 in
theorem l3Put_sound (k : Nat) (hS : Sound Go.Proofs.Try.prog 20 (spL3Put k)) : Sound Go.Proofs.Try.prog 20 (spL3Put (k + 1)) := by
  refine sound_fam (GOK.cons (l := [(39, spL3One), (20, spL3Put k), (40, spPartPut), (41, spPartSet)]) call_ValOk sOkT_sound (GOK.cons call_l3One l3One_sound (GOK.cons call_l3Put hS (GOK.cons call_PartPut PartPut_sound (GOK.cons call_PartSet PartSet_sound GOK.nil))))) Go.Proofs.Try.func20 (c := Go.Proofs.Try.f20.body.getD .skip) rfl (n := 65) rfl chk_l3Put rs_l3Put (fun _ => by simp) ?_ ?_
  · exact spL3Put_inj
  · rintro ⟨v, p, x⟩ ⟨⟨h1, h2, h3⟩, h4⟩
    simp only at h1 h2 h3
    have h4' : p.length < k + 1 := h4
    have f0 := T.enc_len v
    have fx := T.enc_len x
    have g1 := T.fit_mono (B := 140737488355328) (by decide) (okT_fit h1)
    cases p with
    | nil =>
      have e : wputO v [] x = some x := by cases v; rfl
      simp only [x_l3Put, rg, go_sem, seval, Prod.fst, f0, fx, e, encS, optT, Option.getD_some, Option.isSome_some, decide_true]
      repeat' (first | with_reducible assumption | with_reducible refine And.intro ?_ ?_ | intro _)
      all_goals first | omega | assumption | skip
    | cons s p =>
      have n1 : (((p.length + 1 : Nat) : Int) = 0) = False := eq_false (by omega)
      have h6 : p.length < k := by simp only [List.length_cons] at h4'; omega
      have hs := h3 s (.head _)
      have hp : ∀ t ∈ p, stpOk t := fun t ht => h3 t (.tail _ ht)
      have l3 := Stp.len3 s
      have f1 := T.enc_len (oneT s v)
      by_cases c : canGo s v
      · have c' := eq_true c
        have h5 := oneT_ok (s := s) h1
        cases hw : wputO (oneT s v) p x with
        | none =>
          have e : wputO v (s :: p) x = none := by rw [wputO_cons, if_pos c, hw]
          have q1 := spOkT_res T.zero
          have q2 := spOkT_pre T.zero
          have q3 := spOkT_out T.zero
          rw [T.zero_enc] at q1 q2 q3
          simp only [x_l3Put, rg, go_sem, seval, Prod.fst, f0, f1, fx, e, c', hw, encS_cons, encS_take, l3, n1, List.length_cons, encS_len, optT, Option.getD_none, Option.isSome_none, T.zero_enc, q1, q2, q3, spOkT_md, spOkT_pre, spOkT_alts, spOkT_res, spOkT_out, spL3One_md, spL3One_pre, spL3One_alts, spL3One_res, spL3One_out, spL3Put_md, spL3Put_alts, spL3Put_pre, spL3Put_res, spL3Put_out]
          repeat' (first | with_reducible assumption | with_reducible refine And.intro ?_ ?_ | intro _)
          all_goals first | omega | assumption | skip
        | some y =>
          have e : wputO v (s :: p) x = partO s v y := by rw [wputO_cons, if_pos c, hw]
          have oy := wputO_ok h2 hw
          have oy' := eq_true oy
          have zy := okT_size oy
          have g2 := T.fit_mono (B := 140737488355328) (by decide) (okT_fit oy)
          have fy := T.enc_len y
          have w1 : (optT (some y)).enc = y.enc := rfl
          have w2 : ((some y).isSome = true) = True := by simp
          obtain ⟨m, key, a⟩ := s
          cases m with
          | true =>
            obtain ⟨c1, c2⟩ : okS key ∧ a = 0 := by simpa [stpOk] using hs
            have r1 := spL3One_res v ⟨true, key, a⟩
            have r2 := spL3One_pre v ⟨true, key, a⟩
            have r3 := spL3One_out v ⟨true, key, a⟩
            simp only [Stp.enc] at r1 r2 r3
            have e2 : partO ⟨true, key, a⟩ v y = partPutO v key y := rfl
            have f2 := T.enc_len (optT (partPutO v key y))
            rw [e2] at e
            simp only [x_l3Put, rg, go_sem, seval, Prod.fst, f0, f1, f2, fx, fy, e, c', oy', hw, encS_cons, encS_take, Stp.enc, n1, List.length_cons, encS_len, r1, r2, r3, spOkT_md, spOkT_pre, spOkT_alts, spOkT_res, spOkT_out, spL3One_md, spL3One_alts, spPartPut_md, spPartPut_pre, spPartPut_alts, spPartPut_res, spPartPut_out, spL3Put_md, spL3Put_alts, spL3Put_pre, spL3Put_res, spL3Put_out, w1, w2]
            repeat' (first | with_reducible assumption | with_reducible refine And.intro ?_ ?_ | intro _)
            all_goals first | omega | assumption | skip
          | false =>
            obtain ⟨c1, c2, c3⟩ : key = ⟨#[]⟩ ∧ -60 ≤ a ∧ a ≤ 59 := by simpa [stpOk] using hs
            have r1 := spL3One_res v ⟨false, key, a⟩
            have r2 := spL3One_pre v ⟨false, key, a⟩
            have r3 := spL3One_out v ⟨false, key, a⟩
            simp only [Stp.enc] at r1 r2 r3
            have e2 : partO ⟨false, key, a⟩ v y = partSetO v a y := rfl
            have f2 := T.enc_len (optT (partSetO v a y))
            rw [e2] at e
            simp only [x_l3Put, rg, go_sem, seval, Prod.fst, f0, f1, f2, fx, fy, e, c', oy', hw, encS_cons, encS_take, Stp.enc, n1, List.length_cons, encS_len, r1, r2, r3, spOkT_md, spOkT_pre, spOkT_alts, spOkT_res, spOkT_out, spL3One_md, spL3One_alts, spPartSet_md, spPartSet_pre, spPartSet_alts, spPartSet_res, spPartSet_out, spL3Put_md, spL3Put_alts, spL3Put_pre, spL3Put_res, spL3Put_out, w1, w2]
            repeat' (first | with_reducible assumption | with_reducible refine And.intro ?_ ?_ | intro _)
            all_goals first | omega | assumption | skip
      · have c' := eq_false c
        have e : wputO v (s :: p) x = none := by rw [wputO_cons, if_neg c]
        simp only [x_l3Put, rg, go_sem, seval, Prod.fst, f0, f1, fx, e, c', encS_cons, encS_take, l3, n1, List.length_cons, encS_len, optT, Option.getD_none, Option.isSome_none, T.zero_enc, spL3One_md, spL3One_pre, spL3One_alts, spL3One_res, spL3One_out]
        repeat' (first | with_reducible assumption | with_reducible refine And.intro ?_ ?_ | intro _)
        all_goals first | omega | assumption | skip
theorem l3Put_all (k : Nat) : Sound Go.Proofs.Try.prog 20 (spL3Put k) := by
  induction k with
  | zero => exact Sound.none
  | succ k ih => exact l3Put_sound k ih
noncomputable def spL3PutT  : Spec := Spec.of (ι := T × (List Stp) × T) [false, false, false] (fun i => [.d (.agg i.1.enc), .d (.one (.row 3 (encS i.2.1))), .d (.agg i.2.2.enc)]) (fun i => okT i.1 ∧ okT i.2.2 ∧ ∀ s ∈ i.2.1, stpOk s) (fun i => [.d (.agg (optT (wputO i.1 i.2.1 i.2.2)).enc), .d (.one (.bool (decide ((wputO i.1 i.2.1 i.2.2).isSome = true))))]) (fun _ => [.gone, .gone, .gone])
theorem spL3PutT_inj : ∀ i j : T × (List Stp) × T, (fun (i : T × (List Stp) × T) => ([.d (.agg i.1.enc), .d (.one (.row 3 (encS i.2.1))), .d (.agg i.2.2.enc)] : List AV)) i = (fun (i : T × (List Stp) × T) => ([.d (.agg i.1.enc), .d (.one (.row 3 (encS i.2.1))), .d (.agg i.2.2.enc)] : List AV)) j → i = j := by
  rintro ⟨v, p, x⟩ ⟨v', p', x'⟩ h
  simp only [Prod.mk.injEq]
  simpa [strs_eq, T.enc_eq, encL_eq, F.enc_eq, encF_eq, Tk.enc_eq, encTk_eq, Gn.enc_eq, ints_eq, encS_eq] using h
theorem spL3PutT_md  : (spL3PutT).md = [false, false, false] := rfl
theorem spL3PutT_pre  (v : T) (p : List Stp) (x : T) : (spL3PutT).pre [.d (.agg v.enc), .d (.one (.row 3 (encS p))), .d (.agg x.enc)] = (okT v ∧ okT x ∧ ∀ s ∈ p, stpOk s) := Spec.of_pre' spL3PutT_inj (v, p, x)
theorem spL3PutT_alts  : (spL3PutT).alts = none := rfl
theorem spL3PutT_res  (v : T) (p : List Stp) (x : T) : (spL3PutT).res [.d (.agg v.enc), .d (.one (.row 3 (encS p))), .d (.agg x.enc)] = [.d (.agg (optT (wputO v p x)).enc), .d (.one (.bool (decide ((wputO v p x).isSome = true))))] := Spec.of_res spL3PutT_inj (v, p, x)
theorem spL3PutT_out  (v : T) (p : List Stp) (x : T) : (spL3PutT).out [.d (.agg v.enc), .d (.one (.row 3 (encS p))), .d (.agg x.enc)] = [.gone, .gone, .gone] := Spec.of_out spL3PutT_inj (v, p, x)
theorem l3PutT_sound : Sound Go.Proofs.Try.prog 20 spL3PutT := Sound.all (μ := fun i => i.2.1.length) l3Put_all
noncomputable def spPthPut (k:Nat) : Spec := Spec.of (ι := T × (List Stp) × T) [false, false, false] (fun i => [.d (.agg i.1.enc), .d (.one (.row 3 (encS i.2.1))), .d (.agg i.2.2.enc)]) (fun i => (okT i.1 ∧ okT i.2.2 ∧ ∀ s ∈ i.2.1, stpOk s) ∧ i.2.1.length < k) (fun i => [.d (.agg (optT (wputO i.1 i.2.1 i.2.2)).enc), .d (.one (.bool (decide ((wputO i.1 i.2.1 i.2.2).isSome = true))))]) (fun _ => [.gone, .gone, .gone])
theorem spPthPut_inj : ∀ i j : T × (List Stp) × T, (fun (i : T × (List Stp) × T) => ([.d (.agg i.1.enc), .d (.one (.row 3 (encS i.2.1))), .d (.agg i.2.2.enc)] : List AV)) i = (fun (i : T × (List Stp) × T) => ([.d (.agg i.1.enc), .d (.one (.row 3 (encS i.2.1))), .d (.agg i.2.2.enc)] : List AV)) j → i = j := by
  rintro ⟨v, p, x⟩ ⟨v', p', x'⟩ h
  simp only [Prod.mk.injEq]
  simpa [strs_eq, T.enc_eq, encL_eq, F.enc_eq, encF_eq, Tk.enc_eq, encTk_eq, Gn.enc_eq, ints_eq, encS_eq] using h
theorem spPthPut_md (k:Nat) : (spPthPut k).md = [false, false, false] := rfl
theorem spPthPut_pre (k:Nat) (v : T) (p : List Stp) (x : T) : (spPthPut k).pre [.d (.agg v.enc), .d (.one (.row 3 (encS p))), .d (.agg x.enc)] = ((okT v ∧ okT x ∧ ∀ s ∈ p, stpOk s) ∧ p.length < k) := Spec.of_pre' spPthPut_inj (v, p, x)
theorem spPthPut_alts (k:Nat) : (spPthPut k).alts = none := rfl
theorem spPthPut_res (k:Nat) (v : T) (p : List Stp) (x : T) : (spPthPut k).res [.d (.agg v.enc), .d (.one (.row 3 (encS p))), .d (.agg x.enc)] = [.d (.agg (optT (wputO v p x)).enc), .d (.one (.bool (decide ((wputO v p x).isSome = true))))] := Spec.of_res spPthPut_inj (v, p, x)
theorem spPthPut_out (k:Nat) (v : T) (p : List Stp) (x : T) : (spPthPut k).out [.d (.agg v.enc), .d (.one (.row 3 (encS p))), .d (.agg x.enc)] = [.gone, .gone, .gone] := Spec.of_out spPthPut_inj (v, p, x)
set_option maxHeartbeats 2000000 in
theorem pthPut_sound (k : Nat) (hS : Sound Go.Proofs.Try.prog 17 (spPthPut k)) : Sound Go.Proofs.Try.prog 17 (spPthPut (k + 1)) := by
  refine sound_fam (GOK.cons (l := [(17, spPthPut k), (34, spPartPutI), (35, spPartSetI)]) call_vstep vstep_sound (GOK.cons call_pathPut hS (GOK.cons call_PartPutI PartPutI_sound (GOK.cons call_PartSetI PartSetI_sound GOK.nil)))) Go.Proofs.Try.func17 (c := Go.Proofs.Try.f17.body.getD .skip) rfl (n := 60) rfl chk_pathPut rs_pathPut (fun _ => by simp) ?_ ?_
  · exact spPthPut_inj
  · rintro ⟨v, p, x⟩ ⟨⟨h1, h2, h3⟩, h4⟩
    simp only at h1 h2 h3
    have h4' : p.length < k + 1 := h4
    have f0 := T.enc_len v
    have fx := T.enc_len x
    have g1 := T.fit_mono (B := 140737488355328) (by decide) (okT_fit h1)
    cases p with
    | nil =>
      have e : wputO v [] x = some x := by cases v; rfl
      simp only [x_pathPut, rg, go_sem, seval, Prod.fst, f0, fx, e, encS, optT, Option.getD_some, Option.isSome_some, decide_true]
      repeat' (first | with_reducible assumption | with_reducible refine And.intro ?_ ?_ | intro _)
      all_goals first | omega | assumption | skip
    | cons s p =>
      have n1 : (((p.length + 1 : Nat) : Int) = 0) = False := eq_false (by omega)
      have h6 : p.length < k := by simp only [List.length_cons] at h4'; omega
      have hs := h3 s (.head _)
      have hp : ∀ t ∈ p, stpOk t := fun t ht => h3 t (.tail _ ht)
      have l3 := Stp.len3 s
      have f1 := T.enc_len (oneT s v)
      by_cases c : canGo s v
      · have c' := eq_true c
        have h5 := oneT_ok (s := s) h1
        cases hw : wputO (oneT s v) p x with
        | none =>
          have e : wputO v (s :: p) x = none := by rw [wputO_cons, if_pos c, hw]
          simp only [x_pathPut, rg, go_sem, seval, Prod.fst, f0, f1, fx, e, c', hw, encS_cons, encS_take, l3, n1, List.length_cons, encS_len, optT, Option.getD_none, Option.isSome_none, T.zero_enc, spStep_md, spStep_pre, spStep_alts, spStep_res, spStep_out, spPthPut_md, spPthPut_alts, spPthPut_pre, spPthPut_res, spPthPut_out]
          repeat' (first | with_reducible assumption | with_reducible refine And.intro ?_ ?_ | intro _)
          all_goals first | omega | assumption | skip
        | some y =>
          have e : wputO v (s :: p) x = partO s v y := by rw [wputO_cons, if_pos c, hw]
          have oy := wputO_ok h2 hw
          have oy' := eq_true oy
          have zy := okT_size oy
          have g2 := T.fit_mono (B := 140737488355328) (by decide) (okT_fit oy)
          have fy := T.enc_len y
          have w1 : (optT (some y)).enc = y.enc := rfl
          have w2 : ((some y).isSome = true) = True := by simp
          obtain ⟨m, key, a⟩ := s
          cases m with
          | true =>
            obtain ⟨c1, c2⟩ : okS key ∧ a = 0 := by simpa [stpOk] using hs
            have r1 := spStep_res v ⟨true, key, a⟩
            have r2 := spStep_pre v ⟨true, key, a⟩
            have r3 := spStep_out v ⟨true, key, a⟩
            simp only [Stp.enc] at r1 r2 r3
            have e2 : partO ⟨true, key, a⟩ v y = partPutO v key y := rfl
            have f2 := T.enc_len (optT (partPutO v key y))
            rw [e2] at e
            simp only [x_pathPut, rg, go_sem, seval, Prod.fst, f0, f1, f2, fx, fy, e, c', oy', hw, encS_cons, encS_take, Stp.enc, n1, List.length_cons, encS_len, r1, r2, r3, spStep_md, spStep_alts, spPartPutI_md, spPartPutI_pre, spPartPutI_alts, spPartPutI_res, spPartPutI_out, spPthPut_md, spPthPut_alts, spPthPut_pre, spPthPut_res, spPthPut_out, w1, w2]
            repeat' (first | with_reducible assumption | with_reducible refine And.intro ?_ ?_ | intro _)
            all_goals first | omega | assumption | skip
          | false =>
            obtain ⟨c1, c2, c3⟩ : key = ⟨#[]⟩ ∧ -60 ≤ a ∧ a ≤ 59 := by simpa [stpOk] using hs
            have r1 := spStep_res v ⟨false, key, a⟩
            have r2 := spStep_pre v ⟨false, key, a⟩
            have r3 := spStep_out v ⟨false, key, a⟩
            simp only [Stp.enc] at r1 r2 r3
            have e2 : partO ⟨false, key, a⟩ v y = partSetO v a y := rfl
            have f2 := T.enc_len (optT (partSetO v a y))
            rw [e2] at e
            simp only [x_pathPut, rg, go_sem, seval, Prod.fst, f0, f1, f2, fx, fy, e, c', oy', hw, encS_cons, encS_take, Stp.enc, n1, List.length_cons, encS_len, r1, r2, r3, spStep_md, spStep_alts, spPartSetI_md, spPartSetI_pre, spPartSetI_alts, spPartSetI_res, spPartSetI_out, spPthPut_md, spPthPut_alts, spPthPut_pre, spPthPut_res, spPthPut_out, w1, w2]
            repeat' (first | with_reducible assumption | with_reducible refine And.intro ?_ ?_ | intro _)
            all_goals first | omega | assumption | skip
      · have c' := eq_false c
        have e : wputO v (s :: p) x = none := by rw [wputO_cons, if_neg c]
        simp only [x_pathPut, rg, go_sem, seval, Prod.fst, f0, f1, fx, e, c', encS_cons, encS_take, l3, n1, List.length_cons, encS_len, optT, Option.getD_none, Option.isSome_none, T.zero_enc, spStep_md, spStep_pre, spStep_alts, spStep_res, spStep_out]
        repeat' (first | with_reducible assumption | with_reducible refine And.intro ?_ ?_ | intro _)
        all_goals first | omega | assumption | skip
theorem pthPut_all (k : Nat) : Sound Go.Proofs.Try.prog 17 (spPthPut k) := by
  induction k with
  | zero => exact Sound.none
  | succ k ih => exact pthPut_sound k ih
noncomputable def spPthPutT  : Spec := Spec.of (ι := T × (List Stp) × T) [false, false, false] (fun i => [.d (.agg i.1.enc), .d (.one (.row 3 (encS i.2.1))), .d (.agg i.2.2.enc)]) (fun i => okT i.1 ∧ okT i.2.2 ∧ ∀ s ∈ i.2.1, stpOk s) (fun i => [.d (.agg (optT (wputO i.1 i.2.1 i.2.2)).enc), .d (.one (.bool (decide ((wputO i.1 i.2.1 i.2.2).isSome = true))))]) (fun _ => [.gone, .gone, .gone])
theorem spPthPutT_inj : ∀ i j : T × (List Stp) × T, (fun (i : T × (List Stp) × T) => ([.d (.agg i.1.enc), .d (.one (.row 3 (encS i.2.1))), .d (.agg i.2.2.enc)] : List AV)) i = (fun (i : T × (List Stp) × T) => ([.d (.agg i.1.enc), .d (.one (.row 3 (encS i.2.1))), .d (.agg i.2.2.enc)] : List AV)) j → i = j := by
  rintro ⟨v, p, x⟩ ⟨v', p', x'⟩ h
  simp only [Prod.mk.injEq]
  simpa [strs_eq, T.enc_eq, encL_eq, F.enc_eq, encF_eq, Tk.enc_eq, encTk_eq, Gn.enc_eq, ints_eq, encS_eq] using h
theorem spPthPutT_md  : (spPthPutT).md = [false, false, false] := rfl
theorem spPthPutT_pre  (v : T) (p : List Stp) (x : T) : (spPthPutT).pre [.d (.agg v.enc), .d (.one (.row 3 (encS p))), .d (.agg x.enc)] = (okT v ∧ okT x ∧ ∀ s ∈ p, stpOk s) := Spec.of_pre' spPthPutT_inj (v, p, x)
theorem spPthPutT_alts  : (spPthPutT).alts = none := rfl
theorem spPthPutT_res  (v : T) (p : List Stp) (x : T) : (spPthPutT).res [.d (.agg v.enc), .d (.one (.row 3 (encS p))), .d (.agg x.enc)] = [.d (.agg (optT (wputO v p x)).enc), .d (.one (.bool (decide ((wputO v p x).isSome = true))))] := Spec.of_res spPthPutT_inj (v, p, x)
theorem spPthPutT_out  (v : T) (p : List Stp) (x : T) : (spPthPutT).out [.d (.agg v.enc), .d (.one (.row 3 (encS p))), .d (.agg x.enc)] = [.gone, .gone, .gone] := Spec.of_out spPthPutT_inj (v, p, x)
theorem pthPutT_sound : Sound Go.Proofs.Try.prog 17 spPthPutT := Sound.all (μ := fun i => i.2.1.length) pthPut_all
end Go.Proofs.Pw
/- Ways: both programs' PathPut. -/
set_option linter.unusedSimpArgs false
set_option maxRecDepth 20000
namespace Go.Proofs.Pw
set_option linter.unusedSectionVars false
variable [Globs]
def x_PathPut : X := (.seq (.reg [⟨some 3, none, .box (.t 0) (some 5)⟩, ⟨some 5, none, .box (.t 2) (some 5)⟩, ⟨some 6, none, .alloc [(.c (.int .i64 0)), (.c (.int .i64 0)), (.c (.str ⟨#[]⟩)), (.z 1), (.z 5)]⟩, ⟨some 7, none, .mv (.k (.c (.bool false)))⟩] none [1, 3, 5, 6]) (.seq (.seq (.reg [⟨some 10, none, .load (.t 3) (some 5)⟩, ⟨some 11, none, .call 18 [(.t 10)]⟩, ⟨some 12, none, .not (.t 11)⟩, ⟨some 13, none, .mv (.t 12)⟩, ⟨some 14, some (13, false), .mv (.t 1)⟩, ⟨some 15, some (13, false), .call 19 [(.t 14)]⟩, ⟨some 16, some (13, false), .not (.t 15)⟩, ⟨some 17, none, .pick (.t 13) (.k (.c (.bool true))) (.t 16)⟩, ⟨some 18, none, .mv (.t 17)⟩, ⟨some 19, some (18, false), .load (.t 5) (some 5)⟩, ⟨some 20, some (18, false), .call 18 [(.t 19)]⟩, ⟨some 21, some (18, false), .not (.t 20)⟩, ⟨some 22, none, .pick (.t 18) (.k (.c (.bool true))) (.t 21)⟩] none [1, 3, 5, 6, 22]) (.cond (.t 22) (.seq (.reg [⟨some 23, none, .build [(.c (.int .i64 0)), (.c (.int .i64 0)), (.c (.str ⟨#[]⟩)), (.z 1), (.z 5)] []⟩, ⟨none, none, .st (.t 6) (.t 23) (some 5)⟩, ⟨some 7, none, .mv (.k (.c (.bool false)))⟩] none [6, 7]) .ret) .skip)) (.seq (.reg [⟨some 25, none, .load (.t 3) (some 5)⟩, ⟨some 26, none, .mv (.t 1)⟩, ⟨some 27, none, .load (.t 5) (some 5)⟩, ⟨some 28, none, .call 20 [(.t 25), (.t 26), (.t 27)]⟩, ⟨some 24, none, .mv (.t 28)⟩, ⟨some 29, none, .ext (.t 24) 0⟩, ⟨some 30, none, .ext (.t 24) 1⟩, ⟨some 8, none, .alloc [(.c (.int .i64 0)), (.c (.int .i64 0)), (.c (.str ⟨#[]⟩)), (.z 1), (.z 5)]⟩, ⟨none, none, .st (.t 8) (.t 29) (some 5)⟩, ⟨some 9, none, .mv (.t 30)⟩] none [6, 8, 9]) (.seq (.seq (.reg [⟨some 31, none, .mv (.t 9)⟩, ⟨some 32, none, .not (.t 31)⟩] none [6, 8, 32]) (.cond (.t 32) (.seq (.reg [⟨some 33, none, .build [(.c (.int .i64 0)), (.c (.int .i64 0)), (.c (.str ⟨#[]⟩)), (.z 1), (.z 5)] []⟩, ⟨none, none, .st (.t 6) (.t 33) (some 5)⟩, ⟨some 7, none, .mv (.k (.c (.bool false)))⟩] none [6, 7]) .ret) .skip)) (.seq (.reg [⟨some 34, none, .load (.t 8) (some 5)⟩, ⟨some 35, none, .call 21 [(.t 34)]⟩, ⟨some 36, none, .ext (.t 35) 0⟩, ⟨some 37, none, .ext (.t 35) 1⟩, ⟨none, none, .st (.t 6) (.t 36) (some 5)⟩, ⟨some 7, none, .mv (.t 37)⟩] none [6, 7]) .ret)))))
theorem chk_PathPut : chkX Go.Proofs.Try.prog 38 (Go.Proofs.Try.f7.body.getD .skip) x_PathPut = true := by kernel_rfl
theorem rs_PathPut : okRs Go.Proofs.Try.prog Go.Proofs.Try.f7.results.toList [.cell 6 (some 5), .tmp 7] = true := by kernel_rfl
theorem call_PathPut : okCallee Go.Proofs.Try.prog 7 = true := by kernel_rfl
def x_PathPutI : X := (.seq (.reg [⟨some 3, none, .box (.t 0) (some 5)⟩, ⟨some 5, none, .box (.t 2) (some 5)⟩, ⟨some 6, none, .alloc [(.c (.int .i64 0)), (.c (.int .i64 0)), (.c (.str ⟨#[]⟩)), (.z 1), (.z 5)]⟩, ⟨some 7, none, .mv (.k (.c (.bool false)))⟩] none [1, 3, 5, 6]) (.seq (.seq (.reg [⟨some 8, none, .load (.t 3) (some 5)⟩, ⟨some 9, none, .call 10 [(.t 8)]⟩, ⟨some 10, none, .not (.t 9)⟩, ⟨some 11, none, .mv (.t 10)⟩, ⟨some 12, some (11, false), .mv (.t 1)⟩, ⟨some 13, some (11, false), .call 15 [(.t 12)]⟩, ⟨some 14, some (11, false), .not (.t 13)⟩, ⟨some 15, none, .pick (.t 11) (.k (.c (.bool true))) (.t 14)⟩, ⟨some 16, none, .mv (.t 15)⟩, ⟨some 17, some (16, false), .load (.t 5) (some 5)⟩, ⟨some 18, some (16, false), .call 10 [(.t 17)]⟩, ⟨some 19, some (16, false), .not (.t 18)⟩, ⟨some 20, none, .pick (.t 16) (.k (.c (.bool true))) (.t 19)⟩] none [1, 3, 5, 6, 20]) (.cond (.t 20) (.seq (.reg [⟨some 21, none, .build [(.c (.int .i64 0)), (.c (.int .i64 0)), (.c (.str ⟨#[]⟩)), (.z 1), (.z 5)] []⟩, ⟨none, none, .st (.t 6) (.t 21) (some 5)⟩, ⟨some 7, none, .mv (.k (.c (.bool false)))⟩] none [6, 7]) .ret) .skip)) (.seq (.reg [⟨some 22, none, .load (.t 3) (some 5)⟩, ⟨some 23, none, .mv (.t 1)⟩, ⟨some 24, none, .load (.t 5) (some 5)⟩, ⟨some 25, none, .call 17 [(.t 22), (.t 23), (.t 24)]⟩, ⟨some 26, none, .ext (.t 25) 0⟩, ⟨some 27, none, .ext (.t 25) 1⟩, ⟨some 28, none, .call 16 [(.t 26), (.t 27)]⟩, ⟨some 29, none, .ext (.t 28) 0⟩, ⟨some 30, none, .ext (.t 28) 1⟩, ⟨none, none, .st (.t 6) (.t 29) (some 5)⟩, ⟨some 7, none, .mv (.t 30)⟩] none [6, 7]) .ret)))
theorem chk_PathPutI : chkX Go.Proofs.Try.prog 31 (Go.Proofs.Try.f6.body.getD .skip) x_PathPutI = true := by kernel_rfl
theorem rs_PathPutI : okRs Go.Proofs.Try.prog Go.Proofs.Try.f6.results.toList [.cell 6 (some 5), .tmp 7] = true := by kernel_rfl
theorem call_PathPutI : okCallee Go.Proofs.Try.prog 6 = true := by kernel_rfl
theorem pathPutO_not {v x : T} {p : List Stp} (h : ¬ (okT v ∧ wayOk p ∧ okT x)) : pathPutO v p x = none := if_neg h
theorem pathPutO_ok2 {v x : T} {p : List Stp} (h1 : okT v) (h2 : wayOk p) (h3 : okT x) : pathPutO v p x = wputO v p x := if_pos ⟨h1, h2, h3⟩
theorem toldT_wput {v x : T} {p : List Stp} (hx : okT x) : toldT (decide ((wputO v p x).isSome = true)) (optT (wputO v p x)) = optT (wputO v p x) := by
  cases h : wputO v p x with
  | none => simp [toldT, optT]
  | some y => have := wputO_ok hx h; simp [toldT, optT, this]
noncomputable def spPathPut  : Spec := Spec.of (ι := T × (List Stp) × T) [false, false, false] (fun i => [.d (.agg i.1.enc), .d (.one (.row 3 (encS i.2.1))), .d (.agg i.2.2.enc)]) (fun i => i.1.fit 140737488355328 ∧ sizeT i.1 ≤ 1048577 ∧ wayFit i.2.1 ∧ i.2.2.fit 140737488355328 ∧ sizeT i.2.2 ≤ 1048577) (fun i => [.d (.agg (optT (pathPutO i.1 i.2.1 i.2.2)).enc), .d (.one (.bool (decide ((pathPutO i.1 i.2.1 i.2.2).isSome = true))))]) (fun _ => [.gone, .gone, .gone])
theorem spPathPut_inj : ∀ i j : T × (List Stp) × T, (fun (i : T × (List Stp) × T) => ([.d (.agg i.1.enc), .d (.one (.row 3 (encS i.2.1))), .d (.agg i.2.2.enc)] : List AV)) i = (fun (i : T × (List Stp) × T) => ([.d (.agg i.1.enc), .d (.one (.row 3 (encS i.2.1))), .d (.agg i.2.2.enc)] : List AV)) j → i = j := by
  rintro ⟨v, p, x⟩ ⟨v', p', x'⟩ h
  simp only [Prod.mk.injEq]
  simpa [strs_eq, T.enc_eq, encL_eq, F.enc_eq, encF_eq, Tk.enc_eq, encTk_eq, Gn.enc_eq, ints_eq, encS_eq] using h
theorem spPathPut_md  : (spPathPut).md = [false, false, false] := rfl
theorem spPathPut_pre  (v : T) (p : List Stp) (x : T) : (spPathPut).pre [.d (.agg v.enc), .d (.one (.row 3 (encS p))), .d (.agg x.enc)] = (v.fit 140737488355328 ∧ sizeT v ≤ 1048577 ∧ wayFit p ∧ x.fit 140737488355328 ∧ sizeT x ≤ 1048577) := Spec.of_pre' spPathPut_inj (v, p, x)
theorem spPathPut_alts  : (spPathPut).alts = none := rfl
theorem spPathPut_res  (v : T) (p : List Stp) (x : T) : (spPathPut).res [.d (.agg v.enc), .d (.one (.row 3 (encS p))), .d (.agg x.enc)] = [.d (.agg (optT (pathPutO v p x)).enc), .d (.one (.bool (decide ((pathPutO v p x).isSome = true))))] := Spec.of_res spPathPut_inj (v, p, x)
theorem spPathPut_out  (v : T) (p : List Stp) (x : T) : (spPathPut).out [.d (.agg v.enc), .d (.one (.row 3 (encS p))), .d (.agg x.enc)] = [.gone, .gone, .gone] := Spec.of_out spPathPut_inj (v, p, x)
set_option maxHeartbeats 2000000 in
theorem PathPut_sound : Sound Go.Proofs.Try.prog 7 spPathPut := by
  refine sound_fam (GOK.cons (l := [(19, spPathOk), (20, spL3PutT), (21, spL2Told)]) call_ValOk sOkT_sound (GOK.cons call_PathOk PathOk_sound (GOK.cons call_l3Put l3PutT_sound (GOK.cons call_l2Told l2Told_sound GOK.nil)))) Go.Proofs.Try.func7 (c := Go.Proofs.Try.f7.body.getD .skip) rfl (n := 38) rfl chk_PathPut rs_PathPut (fun _ => by simp) ?_ ?_
  · exact spPathPut_inj
  · rintro ⟨v, p, x⟩ ⟨h1, h2, h3, h4, h5⟩
    simp only at h1 h2 h3 h4 h5
    have f0 := T.enc_len v
    have fx := T.enc_len x
    by_cases c1 : okT v
    · by_cases c2 : wayOk p
      · by_cases c3 : okT x
        · have e := pathPutO_ok2 c1 c2 c3
          have d1 := eq_true c1
          have d2 := eq_true c2
          have d3 := eq_true c3
          cases hw : wputO v p x with
          | none =>
            rw [hw] at e
            have fz := T.enc_len T.zero
            have w1 : (optT none).enc = T.zero.enc := rfl
            have w2 : ((none : Option T).isSome = true) = False := by simp
            simp only [x_PathPut, rg, go_sem, seval, Prod.fst, f0, fx, fz, e, d1, d2, d3, hw, w1, w2, T.zero_enc, spOkT_md, spOkT_pre, spOkT_alts, spOkT_res, spOkT_out, spPathOk_md, spPathOk_pre, spPathOk_alts, spPathOk_res, spPathOk_out, spL3PutT_md, spL3PutT_pre, spL3PutT_alts, spL3PutT_res, spL3PutT_out]
            repeat' (first | with_reducible assumption | with_reducible refine And.intro ?_ ?_ | intro _)
            all_goals first | omega | assumption | exact c2.1 _ ‹_› | skip
          | some y =>
            rw [hw] at e
            have fy := T.enc_len y
            have oy := wputO_ok c3 hw
            have zy := okT_size oy
            have gy := T.fit_mono (B := 2000000) (by decide) (okT_fit oy)
            have oy' := eq_true oy
            have w1 : (optT (some y)).enc = y.enc := rfl
            have w2 : ((some y).isSome = true) = True := by simp
            have w3 := toldT_ok oy
            simp only [x_PathPut, rg, go_sem, seval, Prod.fst, f0, fx, fy, e, d1, d2, d3, hw, w1, w2, w3, oy', spOkT_md, spOkT_pre, spOkT_alts, spOkT_res, spOkT_out, spPathOk_md, spPathOk_pre, spPathOk_alts, spPathOk_res, spPathOk_out, spL3PutT_md, spL3PutT_pre, spL3PutT_alts, spL3PutT_res, spL3PutT_out, spL2Told_md, spL2Told_pre, spL2Told_alts, spL2Told_res, spL2Told_out]
            repeat' (first | with_reducible assumption | with_reducible refine And.intro ?_ ?_ | intro _)
            all_goals first | omega | assumption | exact c2.1 _ ‹_› | skip
        · have e := pathPutO_not (v := v) (p := p) (x := x) (fun h => c3 h.2.2)
          have d1 := eq_true c1
          have d2 := eq_true c2
          have d3 := eq_false c3
          have w1 : (optT none).enc = T.zero.enc := rfl
          have w2 : ((none : Option T).isSome = true) = False := by simp
          simp only [x_PathPut, rg, go_sem, seval, Prod.fst, f0, fx, e, d1, d2, d3, w1, w2, T.zero_enc, spOkT_md, spOkT_pre, spOkT_alts, spOkT_res, spOkT_out, spPathOk_md, spPathOk_pre, spPathOk_alts, spPathOk_res, spPathOk_out]
          repeat' (first | with_reducible assumption | with_reducible refine And.intro ?_ ?_ | intro _)
          all_goals first | omega | assumption | exact c2.1 _ ‹_› | skip
      · have e := pathPutO_not (v := v) (p := p) (x := x) (fun h => c2 h.2.1)
        have d1 := eq_true c1
        have d2 := eq_false c2
        have w1 : (optT none).enc = T.zero.enc := rfl
        have w2 : ((none : Option T).isSome = true) = False := by simp
        simp only [x_PathPut, rg, go_sem, seval, Prod.fst, f0, fx, e, d1, d2, w1, w2, T.zero_enc, spOkT_md, spOkT_pre, spOkT_alts, spOkT_res, spOkT_out, spPathOk_md, spPathOk_pre, spPathOk_alts, spPathOk_res, spPathOk_out]
        repeat' (first | with_reducible assumption | with_reducible refine And.intro ?_ ?_ | intro _)
        all_goals first | omega | assumption | skip
    · have e := pathPutO_not (v := v) (p := p) (x := x) (fun h => c1 h.1)
      have d1 := eq_false c1
      have w1 : (optT none).enc = T.zero.enc := rfl
      have w2 : ((none : Option T).isSome = true) = False := by simp
      simp only [x_PathPut, rg, go_sem, seval, Prod.fst, f0, fx, e, d1, w1, w2, T.zero_enc, spOkT_md, spOkT_pre, spOkT_alts, spOkT_res, spOkT_out, spPathOk_md, spPathOk_pre, spPathOk_alts, spPathOk_res, spPathOk_out]
      repeat' (first | with_reducible assumption | with_reducible refine And.intro ?_ ?_ | intro _)
      all_goals first | omega | assumption | skip
end Go.Proofs.Pw
/- Ways: what lies at their end, in the given program. -/
set_option linter.unusedSimpArgs false
set_option maxRecDepth 20000
namespace Go.Proofs.Pw
set_option linter.unusedSectionVars false
variable [Globs]
def x_PathGetI : X := (.seq (.reg [⟨some 2, none, .box (.t 0) (some 5)⟩, ⟨some 4, none, .alloc [(.c (.int .i64 0)), (.c (.int .i64 0)), (.c (.str ⟨#[]⟩)), (.z 1), (.z 5)]⟩, ⟨some 5, none, .mv (.k (.c (.bool false)))⟩] none [1, 2, 4]) (.seq (.seq (.reg [⟨some 10, none, .load (.t 2) (some 5)⟩, ⟨some 11, none, .call 10 [(.t 10)]⟩, ⟨some 12, none, .not (.t 11)⟩, ⟨some 13, none, .mv (.t 12)⟩, ⟨some 14, some (13, false), .mv (.t 1)⟩, ⟨some 15, some (13, false), .call 15 [(.t 14)]⟩, ⟨some 16, some (13, false), .not (.t 15)⟩, ⟨some 17, none, .pick (.t 13) (.k (.c (.bool true))) (.t 16)⟩] none [1, 2, 4, 17]) (.cond (.t 17) (.seq (.reg [⟨some 18, none, .build [(.c (.int .i64 0)), (.c (.int .i64 0)), (.c (.str ⟨#[]⟩)), (.z 1), (.z 5)] []⟩, ⟨none, none, .st (.t 4) (.t 18) (some 5)⟩, ⟨some 5, none, .mv (.k (.c (.bool false)))⟩] none [4, 5]) .ret) .skip)) (.seq (.seq (.reg [⟨some 19, none, .mv (.t 1)⟩, ⟨some 20, none, .len (.t 19) false⟩, ⟨some 21, none, .mv (.k (.c (.int .i64 0)))⟩] none [2, 4, 19, 20, 21]) (.block 0 (.loop (.seq (.reg [⟨some 22, none, .bin false .lss (.t 21) (.t 20)⟩] none [2, 4, 19, 20, 21, 22]) (.seq (.cond (.t 22) .skip (.exit 0)) (.seq (.block 1 (.seq (.reg [⟨some 23, none, .ia (.t 19) (.t 21) 3⟩, ⟨some 24, none, .load (.t 23) (some 3)⟩, ⟨some 7, none, .alloc [(.c (.bool false)), (.c (.str ⟨#[]⟩)), (.c (.int .i64 0))]⟩, ⟨none, none, .st (.t 7) (.t 24) (some 3)⟩] none [2, 4, 7, 19, 20, 21]) (.seq (.reg [⟨some 26, none, .load (.t 2) (some 5)⟩, ⟨some 27, none, .load (.t 7) (some 3)⟩, ⟨some 28, none, .call 24 [(.t 26), (.t 27)]⟩, ⟨some 25, none, .mv (.t 28)⟩, ⟨some 29, none, .ext (.t 25) 0⟩, ⟨some 30, none, .ext (.t 25) 1⟩, ⟨some 8, none, .alloc [(.c (.int .i64 0)), (.c (.int .i64 0)), (.c (.str ⟨#[]⟩)), (.z 1), (.z 5)]⟩, ⟨none, none, .st (.t 8) (.t 29) (some 5)⟩, ⟨some 9, none, .mv (.t 30)⟩] none [2, 4, 8, 9, 19, 20, 21]) (.seq (.seq (.reg [⟨some 31, none, .mv (.t 9)⟩, ⟨some 32, none, .not (.t 31)⟩] none [2, 4, 8, 19, 20, 21, 32]) (.cond (.t 32) (.seq (.reg [⟨some 33, none, .build [(.c (.int .i64 0)), (.c (.int .i64 0)), (.c (.str ⟨#[]⟩)), (.z 1), (.z 5)] []⟩, ⟨none, none, .st (.t 4) (.t 33) (some 5)⟩, ⟨some 5, none, .mv (.k (.c (.bool false)))⟩] none [4, 5]) .ret) .skip)) (.reg [⟨some 34, none, .load (.t 8) (some 5)⟩, ⟨none, none, .st (.t 2) (.t 34) (some 5)⟩] none [2, 4, 19, 20, 21]))))) (.reg [⟨some 35, none, .bin false .add (.t 21) (.k (.c (.int .i64 1)))⟩, ⟨some 21, none, .mv (.t 35)⟩] none [2, 4, 19, 20, 21]))))))) (.seq (.reg [⟨some 36, none, .load (.t 2) (some 5)⟩, ⟨some 37, none, .call 16 [(.t 36), (.k (.c (.bool true)))]⟩, ⟨some 38, none, .ext (.t 37) 0⟩, ⟨some 39, none, .ext (.t 37) 1⟩, ⟨none, none, .st (.t 4) (.t 38) (some 5)⟩, ⟨some 5, none, .mv (.t 39)⟩] none [4, 5]) .ret))))
theorem chk_PathGetI : chkX Go.Proofs.Try.prog 40 (Go.Proofs.Try.f9.body.getD .skip) x_PathGetI = true := by kernel_rfl
theorem rs_PathGetI : okRs Go.Proofs.Try.prog Go.Proofs.Try.f9.results.toList [.cell 4 (some 5), .tmp 5] = true := by kernel_rfl
theorem call_PathGetI : okCallee Go.Proofs.Try.prog 9 = true := by kernel_rfl
theorem pathGetO_not {v : T} {p : List Stp} (h : ¬ (okT v ∧ wayOk p)) : pathGetO v p = none := if_neg h
theorem pathGetO_ok2 {v : T} {p : List Stp} (h1 : okT v) (h2 : wayOk p) : pathGetO v p = wgetO v p := if_pos ⟨h1, h2⟩
theorem wgetO_cons {s : Stp} {p : List Stp} {v : T} : wgetO v (s :: p) = if canGo s v then wgetO (oneT s v) p else none := rfl
theorem wgetO_nil {v : T} : wgetO v [] = some v := by cases v; rfl
noncomputable def spPathGetI  : Spec := Spec.of (ι := T × (List Stp)) [false, false] (fun i => [.d (.agg i.1.enc), .d (.one (.row 3 (encS i.2)))]) (fun i => i.1.fit 140737488355328 ∧ wayFit i.2) (fun i => [.d (.agg (optT (pathGetO i.1 i.2)).enc), .d (.one (.bool (decide ((pathGetO i.1 i.2).isSome = true))))]) (fun _ => [.gone, .gone])
theorem spPathGetI_inj : ∀ i j : T × (List Stp), (fun (i : T × (List Stp)) => ([.d (.agg i.1.enc), .d (.one (.row 3 (encS i.2)))] : List AV)) i = (fun (i : T × (List Stp)) => ([.d (.agg i.1.enc), .d (.one (.row 3 (encS i.2)))] : List AV)) j → i = j := by
  rintro ⟨v, p⟩ ⟨v', p'⟩ h
  simp only [Prod.mk.injEq]
  simpa [strs_eq, T.enc_eq, encL_eq, F.enc_eq, encF_eq, Tk.enc_eq, encTk_eq, Gn.enc_eq, ints_eq, encS_eq] using h
theorem spPathGetI_md  : (spPathGetI).md = [false, false] := rfl
theorem spPathGetI_pre  (v : T) (p : List Stp) : (spPathGetI).pre [.d (.agg v.enc), .d (.one (.row 3 (encS p)))] = (v.fit 140737488355328 ∧ wayFit p) := Spec.of_pre' spPathGetI_inj (v, p)
theorem spPathGetI_alts  : (spPathGetI).alts = none := rfl
theorem spPathGetI_res  (v : T) (p : List Stp) : (spPathGetI).res [.d (.agg v.enc), .d (.one (.row 3 (encS p)))] = [.d (.agg (optT (pathGetO v p)).enc), .d (.one (.bool (decide ((pathGetO v p).isSome = true))))] := Spec.of_res spPathGetI_inj (v, p)
theorem spPathGetI_out  (v : T) (p : List Stp) : (spPathGetI).out [.d (.agg v.enc), .d (.one (.row 3 (encS p)))] = [.gone, .gone] := Spec.of_out spPathGetI_inj (v, p)
set_option maxHeartbeats 2000000 in
theorem PathGetI_sound : Sound Go.Proofs.Try.prog 9 spPathGetI := by
  refine sound_fam (GOK.cons (l := [(15, spPathOkI), (24, spStep), (16, spTold)]) call_ValOkI valOkI_sound (GOK.cons call_PathOkI PathOkI_sound (GOK.cons call_vstep vstep_sound (GOK.cons call_told told_sound GOK.nil)))) Go.Proofs.Try.func9 (c := Go.Proofs.Try.f9.body.getD .skip) rfl (n := 40) rfl chk_PathGetI rs_PathGetI (fun _ => by simp) ?_ ?_
  · exact spPathGetI_inj
  · rintro ⟨v, p⟩ ⟨h1, h3⟩
    simp only at h1 h3
    have f0 := T.enc_len v
    by_cases c1 : okT v
    · have d1 : ((okI v 1 60).1 = true) = True := eq_true ((okI_iff _).2 c1)
      by_cases c2 : wayOk p
      · have d2 := eq_true c2
        have e := pathGetO_ok2 c1 c2
        have lp : (p.length : Int) ≤ 6 := by have := c2.2; omega
        simp only [x_PathGetI, rg, go_sem, seval, Prod.fst, f0, d1, d2, encS_len, spValOkI_md, spValOkI_pre, spValOkI_alts, spValOkI_res, spValOkI_out, spPathOkI_md, spPathOkI_pre, spPathOkI_alts, spPathOkI_res, spPathOkI_out]
        repeat' (first | with_reducible assumption | with_reducible refine And.intro ?_ ?_ | intro _)
        all_goals first | omega | assumption | skip
        refine pw_loop (ι := Nat × T) (fun i => p.length - i.1) (fun i => i.1 ≤ p.length ∧ okT i.2 ∧ wgetO i.2 (p.drop i.1) = wgetO v p)
          (fun i => ⟨[(2, .q (.box 2 0)), (4, .q (.box 4 0)), (19, .q (.c (.row 3 (encS p)))), (20, .q (.c (.int .i64 p.length))), (21, .q (.c (.int .i64 i.1)))],
            [(2, i.2.enc.map .c), (4, [.c (.int .i64 0), .c (.int .i64 0), .c (.str ⟨#[]⟩), .z 1, .z 5])], []⟩) (0, v) ⟨Nat.zero_le _, c1, rfl⟩ (Le.sub (by simp) (by simp) (by simp)) ?_
        rintro ⟨i, x⟩ ⟨hi, hx, heq⟩
        simp only at hi hx heq
        have fx := T.enc_len x
        rcases Nat.lt_or_ge i p.length with hlt | hge
        · obtain ⟨s, hs, hdr, hmem⟩ := drop_at hlt
          have b1 : ((i : Int) < (p.length : Int)) = True := eq_true (by omega)
          have a1 := encS_at hs
          have l3 := Stp.len3 s
          have sk := c2.1 s hmem
          have gx := T.fit_mono (B := 140737488355328) (by decide) (okT_fit hx)
          have fy := T.enc_len (oneT s x)
          rw [hdr, wgetO_cons] at heq
          by_cases g : canGo s x
          · have g' := eq_true g
            rw [if_pos g] at heq
            simp only [rg, go_sem, seval, Prod.fst, b1, a1, l3, fx, fy, g', encS_len, spStep_md, spStep_pre, spStep_alts, spStep_res, spStep_out]
            repeat' (first | with_reducible assumption | with_reducible refine And.intro ?_ ?_ | intro _)
            all_goals first | omega | assumption | skip
            exact ⟨(i + 1, oneT s x), ⟨by show i + 1 ≤ _; omega, oneT_ok hx, heq⟩, by show p.length - (i + 1) < _; omega, Le.sub (by simp) (by simp [T.enc_len]) (by simp)⟩
          · have g' := eq_false g
            rw [if_neg g] at heq
            have e2 : pathGetO v p = none := by rw [e, heq]
            have w1 : (optT none).enc = T.zero.enc := rfl
            have w2 : ((none : Option T).isSome = true) = False := by simp
            simp only [rg, go_sem, seval, Prod.fst, b1, a1, l3, fx, fy, g', e2, w1, w2, encS_len, T.zero_enc, spStep_md, spStep_pre, spStep_alts, spStep_res, spStep_out]
            repeat' (first | with_reducible assumption | with_reducible refine And.intro ?_ ?_ | intro _)
            all_goals first | omega | assumption | skip
        · have b1 : ((i : Int) < (p.length : Int)) = False := eq_false (by omega)
          rw [List.drop_eq_nil_of_le hge, wgetO_nil] at heq
          have e2 : pathGetO v p = some x := by rw [e, heq]
          have gy := T.fit_mono (B := 2000000) (by decide) (okT_fit hx)
          have w1 : (optT (some x)).enc = x.enc := rfl
          have w2 : ((some x).isSome = true) = True := by simp
          have w3 := toldT_ok hx
          have hx' := eq_true hx
          simp only [rg, go_sem, seval, Prod.fst, b1, fx, e2, w1, w2, w3, hx', encS_len, spTold_md, spTold_pre, spTold_alts, spTold_res, spTold_out]
          repeat' (first | with_reducible assumption | with_reducible refine And.intro ?_ ?_ | intro _)
          all_goals first | omega | assumption | skip
      · have e := pathGetO_not (v := v) (p := p) (fun h => c2 h.2)
        have d2 := eq_false c2
        have w1 : (optT none).enc = T.zero.enc := rfl
        have w2 : ((none : Option T).isSome = true) = False := by simp
        simp only [x_PathGetI, rg, go_sem, seval, Prod.fst, f0, e, d1, d2, w1, w2, T.zero_enc, spValOkI_md, spValOkI_pre, spValOkI_alts, spValOkI_res, spValOkI_out, spPathOkI_md, spPathOkI_pre, spPathOkI_alts, spPathOkI_res, spPathOkI_out]
        repeat' (first | with_reducible assumption | with_reducible refine And.intro ?_ ?_ | intro _)
        all_goals first | omega | assumption | skip
    · have e := pathGetO_not (v := v) (p := p) (fun h => c1 h.1)
      have d1 : ((okI v 1 60).1 = true) = False := eq_false (fun h => c1 ((okI_iff _).1 h))
      have w1 : (optT none).enc = T.zero.enc := rfl
      have w2 : ((none : Option T).isSome = true) = False := by simp
      simp only [x_PathGetI, rg, go_sem, seval, Prod.fst, f0, e, d1, w1, w2, T.zero_enc, spValOkI_md, spValOkI_pre, spValOkI_alts, spValOkI_res, spValOkI_out, spPathOkI_md, spPathOkI_pre, spPathOkI_alts, spPathOkI_res, spPathOkI_out]
      repeat' (first | with_reducible assumption | with_reducible refine And.intro ?_ ?_ | intro _)
      all_goals first | omega | assumption | skip
end Go.Proofs.Pw
/- Ways: what was put is got; put over put; a way in two parts. -/
namespace Go.Proofs.Pw
set_option linter.unusedSectionVars false
variable [Globs]
theorem wput_cat : ∀ {p q : List Stp} {v x : T}, wputO v (p ++ q) x = (wgetO v p).bind fun a => (wputO a q x).bind fun b => wputO v p b := by
  intro p
  induction p with
  | nil =>
    intro q v x
    rw [List.nil_append, wgetO_nil]
    show wputO v q x = (wputO v q x).bind fun b => wputO v [] b
    cases wputO v q x with
    | none => rfl
    | some b => simp only [Option.bind_some, wputO]
  | cons s p ih =>
    intro q v x
    rw [List.cons_append, wputO_cons, wgetO_cons]
    by_cases g : canGo s v
    · rw [if_pos g, if_pos g, ih]
      cases wgetO (oneT s v) p with
      | none => rfl
      | some a =>
        simp only [Option.bind_some]
        cases wputO a q x with
        | none => rfl
        | some b => simp only [Option.bind_some, wputO_cons, if_pos g]
    · rw [if_neg g, if_neg g]; rfl
end Go.Proofs.Pw
/- Drawn ways. -/
namespace Go.Proofs.Pw
/-- A way of at most m steps, with keys and places that are not long. -/
def drP (m : Int) (w : List Stp) : Prop := (w.length : Int) ≤ m ∧ ∀ s ∈ w, (s.key.size : Int) ≤ 60 ∧ -100 ≤ s.at' ∧ s.at' ≤ 100
theorem drP.mono {m n : Int} {w : List Stp} (h : drP m w) (hmn : m ≤ n) : drP n w := ⟨Int.le_trans h.1 hmn, h.2⟩
theorem drP.fit {m : Int} {w : List Stp} (h : drP m w) (hm : m ≤ 140737488355328) : wayFit w := ⟨Int.le_trans h.1 hm, fun s hs => by have := h.2 s hs; exact ⟨by omega, by omega, by omega⟩⟩
theorem drP.snoc {m : Int} {w : List Stp} {s : Stp} (h : drP m w) (h1 : (s.key.size : Int) ≤ 60) (h2 : -100 ≤ s.at') (h3 : s.at' ≤ 100) : drP (m + 1) (w ++ [s]) := by
  refine ⟨by have := h.1; simp; omega, fun x hx => ?_⟩
  rcases List.mem_append.1 hx with hx | hx
  · exact h.2 x hx
  · simp only [List.mem_singleton] at hx; subst hx; exact ⟨h1, h2, h3⟩
theorem drP_nil : drP 0 [] := ⟨by simp, by simp⟩
end Go.Proofs.Pw
/- All ways into a tree (under way). -/
set_option linter.unusedSimpArgs false
set_option maxRecDepth 20000
namespace Go.Proofs.Pw
set_option linter.unusedSectionVars false
variable [Globs]
def stepAt (k : Int) (ks : List ByteArray) (i : Nat) : Stp := if k = 6 then ⟨true, ks.getD i ⟨#[]⟩, 0⟩ else ⟨false, ⟨#[]⟩, i⟩
mutual
/-- All ways into a tree, behind a way. -/
def allT : T → List Stp → List (List Stp)
  | .mk k _ _ ks l, a => a :: allLs k ks l 0 a
def allLs (k : Int) (ks : List ByteArray) : List T → Nat → List Stp → List (List Stp)
  | [], _, _ => []
  | t :: l, i, a => allT t (a ++ [stepAt k ks i]) ++ allLs k ks l (i + 1) a
end
mutual
def T.keyed : T → Prop
  | .mk k _ _ ks l => (k = 6 → ks.length = l.length) ∧ keyedL l
def keyedL : List T → Prop
  | [] => True
  | t :: l => t.keyed ∧ keyedL l
end
theorem keyed_mem : ∀ {l : List T}, keyedL l → ∀ t ∈ l, t.keyed
  | [], _, t, h => by simp at h
  | x :: l, h, t, ht => by
    rcases List.mem_cons.1 ht with rfl | ht
    · exact h.1
    · exact keyed_mem h.2 t ht
mutual
theorem allT_len : ∀ (t : T) (a : List Stp), ((allT t a).length : Int) = sizeT t
  | .mk k n s ks l, a => by
    have := allLs_len k ks l 0 a
    simp only [allT, List.length_cons, sizeT]; omega
theorem allLs_len (k : Int) (ks : List ByteArray) : ∀ (l : List T) (i : Nat) (a : List Stp), ((allLs k ks l i a).length : Int) = sizeL l
  | [], _, _ => by simp [allLs, sizeL]
  | t :: l, i, a => by
    have := allT_len t (a ++ [stepAt k ks i]); have := allLs_len k ks l (i + 1) a
    simp only [allLs, List.length_append, sizeL]; omega
end
theorem sizeL_mem {l : List T} {t : T} (h : t ∈ l) : sizeT t ≤ sizeL l := by
  induction l with
  | nil => simp at h
  | cons x l ih =>
    have := allLs_len 0 [] l 0 []; have := sizeT_pos x
    simp only [sizeL]
    rcases List.mem_cons.1 h with rfl | h
    · omega
    · have := ih h; omega
theorem sizeL_takeP : ∀ {l : List T} {i : Nat}, sizeL (l.take i) ≤ sizeL l
  | [], i => by simp [sizeL]
  | x :: l, 0 => by
    have := allLs_len 0 [] (x :: l) 0 []
    simp only [List.take_zero, sizeL] at *; omega
  | x :: l, i + 1 => by
    have := sizeL_takeP (l := l) (i := i)
    simp only [List.take_succ_cons, sizeL]; omega
theorem allLs_app (k : Int) (ks : List ByteArray) : ∀ (l : List T) (t : T) (i : Nat) (a : List Stp), allLs k ks (l ++ [t]) i a = allLs k ks l i a ++ allT t (a ++ [stepAt k ks (i + l.length)])
  | [], t, i, a => by simp [allLs]
  | x :: l, t, i, a => by
    simp only [List.cons_append, allLs, allLs_app k ks l t (i + 1) a, List.append_assoc, List.length_cons]
    rw [show i + 1 + l.length = i + (l.length + 1) by omega]
theorem allLs_take {k : Int} {ks : List ByteArray} {l : List T} {i : Nat} {t : T} {a : List Stp} (h : l[i]? = some t) : allLs k ks (l.take (i + 1)) 0 a = allLs k ks (l.take i) 0 a ++ allT t (a ++ [stepAt k ks i]) := by
  have hi := (List.getElem?_eq_some_iff.1 h).1
  rw [List.take_add_one, h, Option.toList_some, allLs_app, Nat.zero_add, List.length_take, Nat.min_eq_left (by omega)]
theorem foldS (a : List Stp) (b : Bool) (s : ByteArray) (n : Int) : encS a ++ [[C.bool b, C.str s, C.int .i64 n]] = encS (a ++ [⟨b, s, n⟩]) := by simp [encS, Stp.enc]
def x_l3All : X := (.seq (.reg [⟨some 2, none, .box (.t 0) (some 5)⟩, ⟨some 4, none, .mv (.k (.z 1))⟩] none [1, 2]) (.seq (.reg [⟨some 8, none, .bsl 3 []⟩, ⟨some 9, none, .mv (.t 1)⟩, ⟨some 10, none, .app (.t 8) (.t 9) 3 32 []⟩, ⟨some 11, none, .bslx 1 [((.t 10), none)]⟩, ⟨some 5, none, .mv (.t 11)⟩] none [1, 2, 5]) (.seq (.seq (.reg [⟨some 6, none, .mv (.k (.c (.int .i64 0)))⟩] none [1, 2, 5, 6]) (.block 0 (.loop (.seq (.seq (.reg [⟨some 12, none, .mv (.t 6)⟩, ⟨some 13, none, .fa (.t 2) 4⟩, ⟨some 14, none, .load (.t 13) none⟩, ⟨some 15, none, .len (.t 14) false⟩, ⟨some 16, none, .bin false .lss (.t 12) (.t 15)⟩] none [1, 2, 5, 6, 16]) (.cond (.t 16) .skip (.exit 0))) (.seq (.block 1 (.seq (.reg [⟨some 19, none, .mv (.t 6)⟩, ⟨some 20, none, .build [(.c (.bool false)), (.c (.str ⟨#[]⟩)), (.c (.int .i64 0))] [(2, (.t 19), none)]⟩, ⟨some 7, none, .alloc [(.c (.bool false)), (.c (.str ⟨#[]⟩)), (.c (.int .i64 0))]⟩, ⟨none, none, .st (.t 7) (.t 20) (some 3)⟩] none [1, 2, 5, 6, 7]) (.seq (.seq (.reg [⟨some 21, none, .fa (.t 2) 0⟩, ⟨some 22, none, .load (.t 21) none⟩, ⟨some 23, none, .bin false .eql (.t 22) (.k (.c (.int .i64 6)))⟩] none [1, 2, 5, 6, 7, 23]) (.cond (.t 23) (.reg [⟨some 24, none, .fa (.t 2) 3⟩, ⟨some 25, none, .load (.t 24) none⟩, ⟨some 26, none, .mv (.t 6)⟩, ⟨some 27, none, .ia (.t 25) (.t 26) 1⟩, ⟨some 28, none, .load (.t 27) none⟩, ⟨some 29, none, .build [(.c (.bool false)), (.c (.str ⟨#[]⟩)), (.c (.int .i64 0))] [(0, (.k (.c (.bool true))), none), (1, (.t 28), none)]⟩, ⟨none, none, .st (.t 7) (.t 29) (some 3)⟩] none [1, 2, 5, 6, 7]) .skip)) (.mix [⟨some 30, none, .mv (.t 5)⟩, ⟨some 31, none, .fa (.t 2) 4⟩, ⟨some 32, none, .load (.t 31) none⟩, ⟨some 33, none, .mv (.t 6)⟩, ⟨some 34, none, .ia (.t 32) (.t 33) 5⟩, ⟨some 35, none, .load (.t 34) (some 5)⟩, ⟨some 36, none, .bsl 3 []⟩, ⟨some 37, none, .mv (.t 1)⟩, ⟨some 38, none, .app (.t 36) (.t 37) 3 32 []⟩, ⟨some 39, none, .load (.t 7) (some 3)⟩, ⟨some 40, none, .bsl 3 [((.t 39), (some 3))]⟩, ⟨some 41, none, .app (.t 38) (.t 40) 3 32 []⟩, ⟨some 42, none, .callx 59 [(.t 35), (.t 41)]⟩] [⟨some 43, none, .appx (.t 30) (.t 42) 1 24⟩, ⟨some 5, none, .mv (.t 43)⟩] [[], [], [], [], [], [], [], [], [0, 1, 2, 3, 4, 5], [8], [], [0, 1, 2, 3, 4, 5], [0]] [1, 2, 5, 6])))) (.reg [⟨some 17, none, .mv (.t 6)⟩, ⟨some 18, none, .bin false .add (.t 17) (.k (.c (.int .i64 1)))⟩, ⟨some 6, none, .mv (.t 18)⟩] none [1, 2, 5, 6])))))) (.seq (.reg [⟨some 44, none, .mv (.t 5)⟩, ⟨some 4, none, .mv (.t 44)⟩] none [4]) .ret))))
theorem chk_l3All : chkX Go.Proofs.Try.prog 45 (Go.Proofs.Try.f59.body.getD .skip) x_l3All = true := by kernel_rfl
theorem rs_l3All : okRs Go.Proofs.Try.prog Go.Proofs.Try.f59.results.toList [.tmp 4] = true := by kernel_rfl
theorem call_l3All : okCallee Go.Proofs.Try.prog 59 = true := by kernel_rfl
noncomputable def spAllP (k:Nat) : Spec := Spec.of (ι := T × (List Stp)) [false, false] (fun i => [.d (.agg i.1.enc), .d (.one (.row 3 (encS i.2)))]) (fun i => (i.1.fit 2000000 ∧ i.1.keyed ∧ sizeT i.1 ≤ 100 ∧ (i.2.length : Int) + sizeT i.1 ≤ 300) ∧ SizeOf.sizeOf i.1 < k) (fun i => [.own 1 (encSX (allT i.1 i.2))]) (fun _ => [.gone, .gone])
theorem spAllP_inj : ∀ i j : T × (List Stp), (fun (i : T × (List Stp)) => ([.d (.agg i.1.enc), .d (.one (.row 3 (encS i.2)))] : List AV)) i = (fun (i : T × (List Stp)) => ([.d (.agg i.1.enc), .d (.one (.row 3 (encS i.2)))] : List AV)) j → i = j := by
  rintro ⟨t, a⟩ ⟨t', a'⟩ h
  simp only [Prod.mk.injEq]
  simpa [strs_eq, T.enc_eq, encL_eq, F.enc_eq, encF_eq, Tk.enc_eq, encTk_eq, Gn.enc_eq, ints_eq, encS_eq] using h
theorem spAllP_md (k:Nat) : (spAllP k).md = [false, false] := rfl
theorem spAllP_pre (k:Nat) (t : T) (a : List Stp) : (spAllP k).pre [.d (.agg t.enc), .d (.one (.row 3 (encS a)))] = ((t.fit 2000000 ∧ t.keyed ∧ sizeT t ≤ 100 ∧ (a.length : Int) + sizeT t ≤ 300) ∧ SizeOf.sizeOf t < k) := Spec.of_pre' spAllP_inj (t, a)
theorem spAllP_alts (k:Nat) : (spAllP k).alts = none := rfl
theorem spAllP_res (k:Nat) (t : T) (a : List Stp) : (spAllP k).res [.d (.agg t.enc), .d (.one (.row 3 (encS a)))] = [.own 1 (encSX (allT t a))] := Spec.of_res spAllP_inj (t, a)
theorem spAllP_out (k:Nat) (t : T) (a : List Stp) : (spAllP k).out [.d (.agg t.enc), .d (.one (.row 3 (encS a)))] = [.gone, .gone] := Spec.of_out spAllP_inj (t, a)
theorem spAllP_all (k:Nat) (t : T) (a : List Stp) (F : List AV → List AV → Prop) : (spAllP k).all [.d (.agg t.enc), .d (.one (.row 3 (encS a)))] F = F [.own 1 (encSX (allT t a))] [.gone, .gone] := by rw [Spec.all_fn rfl, spAllP_res, spAllP_out]
theorem spAllP_ne (k:Nat) (t : T) (a : List Stp) : (spAllP k).ne [.d (.agg t.enc), .d (.one (.row 3 (encS a)))] = True := Spec.ne_fn rfl _
set_option maxHeartbeats 2000000 in
theorem l3All_sound (k : Nat) (hS : Sound Go.Proofs.Try.prog 59 (spAllP k)) : Sound Go.Proofs.Try.prog 59 (spAllP (k + 1)) := by
  refine sound_fam (GOK.cons call_l3All hS GOK.nil) Go.Proofs.Try.func59 (c := Go.Proofs.Try.f59.body.getD .skip) rfl (n := 45) rfl chk_l3All rs_l3All (fun _ => by simp) ?_ ?_
  · exact spAllP_inj
  · rintro ⟨t, a⟩ ⟨⟨h1, h2, h3, h5⟩, h4⟩
    obtain ⟨kk, n, s, ks, l⟩ := t
    simp only [T.fit, lenB, strsFit] at h1
    obtain ⟨_, _, f1, ⟨f2, _⟩, f3, f4⟩ := h1
    obtain ⟨g1, g2⟩ := h2
    have e3 : SizeOf.sizeOf l < k := by have e : SizeOf.sizeOf (T.mk kk n s ks l) < k + 1 := h4
                                        rw [T.mk.sizeOf_spec] at e; omega
    have hsz : sizeT (T.mk kk n s ks l) = 1 + sizeL l := rfl
    have hpos := allLs_len 0 [] l 0 []
    replace h3 : 1 + sizeL l ≤ 100 := h3
    replace h5 : (a.length : Int) + (1 + sizeL l) ≤ 300 := h5
    simp only [x_l3All, T.enc, go_sem, seval, Prod.fst, rg, strs_len, encL_len, encS_len]
    repeat' (first | with_reducible assumption | with_reducible refine And.intro ?_ ?_ | intro _)
    all_goals first | omega | skip
    refine pw_loop (ι := Nat) (fun i => l.length - i) (fun i => i ≤ l.length)
      (fun i => ⟨[(1, .q (.c (.row 3 (encS a)))), (2, .q (.box 2 0)), (5, .q (.own 11)), (6, .q (.c (.int .i64 i)))], [(2, [.c (.int .i64 kk), .c (.int .i64 n), .c (.str s), .c (.row 1 (strs ks)), .c (.row 5 (encL l))])],
        [(11, 1, encSX (a :: allLs kk ks (l.take i) 0 a))]⟩) 0 (Nat.zero_le _) ?_ ?_
    · exact Le.sub (by simp) (by simp) (by simp [allLs, encSX])
    · intro i hi
      rcases Nat.lt_or_ge i l.length with hlt | hge
      · obtain ⟨t, ht, _, hmem⟩ := drop_at hlt
        have a1 := encL_at ht
        have a2 : ((i : Int) < (l.length : Int)) = True := by simp; omega
        have a3 := fitL_mem f4 t hmem
        have a4 := size_mem hmem
        have a6 := T.enc_len t
        have a8 := sizeL_mem hmem
        have a9 := keyed_mem g2 t hmem
        have c1 := allLs_len kk ks (l.take i) 0 a
        have c2 := allT_len t (a ++ [stepAt kk ks i])
        have c3 := allLs_len kk ks (l.take (i + 1)) 0 a
        have c4 : sizeL (l.take (i + 1)) ≤ sizeL l := sizeL_takeP
        rw [allLs_take ht, List.length_append] at c3
        have c5 := sizeT_pos t
        by_cases hk : kk = 6
        · have b1 : (kk = 6) = True := eq_true hk
          have hlk : i < ks.length := by rw [g1 hk]; exact hlt
          have a5 := strs_at (l := ks) (i := i) (s := ks[i]) (by simp [hlk])
          have hst : stepAt kk ks i = ⟨true, ks[i], 0⟩ := by simp [stepAt, hk, hlk]
          rw [hst] at c2 c3
          simp only [go_sem, seval, Prod.fst, rg, a1, a2, a5, a6, b1, encL_len, foldS, dtR_encS, spAllP_md, spAllP_pre, spAllP_alts, spAllP_res, spAllP_out, spAllP_md, spAllP_pre, spAllP_ne, ↓spAllP_all, spAllP_all, encSX_len, List.length_append, List.length_cons, List.length_nil]
          repeat' (first | with_reducible assumption | with_reducible refine And.intro ?_ ?_ | intro _)
          all_goals first | omega | assumption | skip
          all_goals first | (have := hlt; omega) | skip
          refine ⟨i + 1, by omega, by omega, ?_⟩
          rw [allLs_take ht, hst]
          exact Le.sub (by simp) (by simp) (by simp [encSX])
        · have b1 : (kk = 6) = False := eq_false hk
          have hst : stepAt kk ks i = ⟨false, ⟨#[]⟩, i⟩ := by simp [stepAt, hk]
          rw [hst] at c2 c3
          simp only [go_sem, seval, Prod.fst, rg, a1, a2, a6, b1, encL_len, foldS, dtR_encS, spAllP_md, spAllP_pre, spAllP_alts, spAllP_res, spAllP_out, spAllP_md, spAllP_pre, spAllP_ne, ↓spAllP_all, spAllP_all, encSX_len, List.length_append, List.length_cons, List.length_nil]
          repeat' (first | with_reducible assumption | with_reducible refine And.intro ?_ ?_ | intro _)
          all_goals first | omega | assumption | skip
          refine ⟨i + 1, by omega, by omega, ?_⟩
          rw [allLs_take ht, hst]
          exact Le.sub (by simp) (by simp) (by simp [encSX])
      · have a2 : ((i : Int) < (l.length : Int)) = False := by simp; omega
        simp only [go_sem, seval, Prod.fst, rg, a2, List.take_of_length_le hge]
        simp [allT]
theorem l3All_all (k : Nat) : Sound Go.Proofs.Try.prog 59 (spAllP k) := by
  induction k with
  | zero => exact Sound.none
  | succ k ih => exact l3All_sound k ih
noncomputable def spAllPT  : Spec := Spec.of (ι := T × (List Stp)) [false, false] (fun i => [.d (.agg i.1.enc), .d (.one (.row 3 (encS i.2)))]) (fun i => i.1.fit 2000000 ∧ i.1.keyed ∧ sizeT i.1 ≤ 100 ∧ (i.2.length : Int) + sizeT i.1 ≤ 300) (fun i => [.own 1 (encSX (allT i.1 i.2))]) (fun _ => [.gone, .gone])
theorem spAllPT_inj : ∀ i j : T × (List Stp), (fun (i : T × (List Stp)) => ([.d (.agg i.1.enc), .d (.one (.row 3 (encS i.2)))] : List AV)) i = (fun (i : T × (List Stp)) => ([.d (.agg i.1.enc), .d (.one (.row 3 (encS i.2)))] : List AV)) j → i = j := by
  rintro ⟨t, a⟩ ⟨t', a'⟩ h
  simp only [Prod.mk.injEq]
  simpa [strs_eq, T.enc_eq, encL_eq, F.enc_eq, encF_eq, Tk.enc_eq, encTk_eq, Gn.enc_eq, ints_eq, encS_eq] using h
theorem spAllPT_md  : (spAllPT).md = [false, false] := rfl
theorem spAllPT_pre  (t : T) (a : List Stp) : (spAllPT).pre [.d (.agg t.enc), .d (.one (.row 3 (encS a)))] = (t.fit 2000000 ∧ t.keyed ∧ sizeT t ≤ 100 ∧ (a.length : Int) + sizeT t ≤ 300) := Spec.of_pre' spAllPT_inj (t, a)
theorem spAllPT_alts  : (spAllPT).alts = none := rfl
theorem spAllPT_res  (t : T) (a : List Stp) : (spAllPT).res [.d (.agg t.enc), .d (.one (.row 3 (encS a)))] = [.own 1 (encSX (allT t a))] := Spec.of_res spAllPT_inj (t, a)
theorem spAllPT_out  (t : T) (a : List Stp) : (spAllPT).out [.d (.agg t.enc), .d (.one (.row 3 (encS a)))] = [.gone, .gone] := Spec.of_out spAllPT_inj (t, a)
theorem l3AllT_sound : Sound Go.Proofs.Try.prog 59 spAllPT := Sound.all (μ := fun i => SizeOf.sizeOf i.1) l3All_all
end Go.Proofs.Pw
/- All ways into a tree that is ok (under way). -/
set_option linter.unusedSimpArgs false
set_option maxRecDepth 20000
namespace Go.Proofs.Pw
set_option linter.unusedSectionVars false
variable [Globs]
mutual
theorem form_keyed : ∀ (t : T) (d : Int), formT t d → t.keyed
  | .mk k n s ks l, d, h => by
    simp only [formT] at h
    obtain ⟨_, _, _, _, _, _, _, _, _, _, h11, h12⟩ := h
    exact ⟨fun hk => (h11 hk).1, formL_keyed l (d - 1) h12⟩
theorem formL_keyed : ∀ (l : List T) (d : Int), formL l d → keyedL l
  | [], _, _ => trivial
  | t :: l, d, h => by
    simp only [formL] at h
    exact ⟨form_keyed t d h.1, formL_keyed l d h.2⟩
end
noncomputable def waysT (t : T) : List (List Stp) := if okT t then allT t [] else []
theorem foldN : C.row 3 [] = C.row 3 (encS []) := rfl
def x_PathAll : X := (.seq (.reg [⟨some 1, none, .box (.t 0) (some 5)⟩, ⟨some 2, none, .mv (.k (.z 1))⟩] none [1]) (.seq (.seq (.reg [⟨some 3, none, .load (.t 1) (some 5)⟩, ⟨some 4, none, .call 18 [(.t 3)]⟩, ⟨some 5, none, .not (.t 4)⟩] none [1, 5]) (.cond (.t 5) (.seq (.reg [⟨some 6, none, .bsl 1 []⟩, ⟨some 2, none, .mv (.t 6)⟩] none [2]) .ret) .skip)) (.seq (.reg [⟨some 7, none, .load (.t 1) (some 5)⟩, ⟨some 8, none, .callx 59 [(.t 7), (.k (.z 3))]⟩, ⟨some 2, none, .mv (.t 8)⟩] none [2]) .ret)))
theorem chk_PathAll : chkX Go.Proofs.Try.prog 9 (Go.Proofs.Try.f47.body.getD .skip) x_PathAll = true := by kernel_rfl
theorem rs_PathAll : okRs Go.Proofs.Try.prog Go.Proofs.Try.f47.results.toList [.tmp 2] = true := by kernel_rfl
theorem call_PathAll : okCallee Go.Proofs.Try.prog 47 = true := by kernel_rfl
noncomputable def spPathAll  : Spec := Spec.of (ι := T) [false] (fun i => [.d (.agg i.enc)]) (fun i => i.fit 2000000 ∧ sizeT i ≤ 1048577) (fun i => [.own 1 (encSX (waysT i))]) (fun _ => [.gone])
theorem spPathAll_inj : ∀ i j : T, (fun (i : T) => ([.d (.agg i.enc)] : List AV)) i = (fun (i : T) => ([.d (.agg i.enc)] : List AV)) j → i = j := by
  intro t t' h
  simpa [strs_eq, T.enc_eq, encL_eq, F.enc_eq, encF_eq, Tk.enc_eq, encTk_eq, Gn.enc_eq, ints_eq] using h
theorem spPathAll_md  : (spPathAll).md = [false] := rfl
theorem spPathAll_pre  (t : T) : (spPathAll).pre [.d (.agg t.enc)] = (t.fit 2000000 ∧ sizeT t ≤ 1048577) := Spec.of_pre' spPathAll_inj t
theorem spPathAll_alts  : (spPathAll).alts = none := rfl
theorem spPathAll_res  (t : T) : (spPathAll).res [.d (.agg t.enc)] = [.own 1 (encSX (waysT t))] := Spec.of_res spPathAll_inj t
theorem spPathAll_out  (t : T) : (spPathAll).out [.d (.agg t.enc)] = [.gone] := Spec.of_out spPathAll_inj t
set_option maxHeartbeats 2000000 in
theorem PathAll_sound : Sound Go.Proofs.Try.prog 47 spPathAll := by
  refine sound_fam (GOK.cons (l := [(59, spAllPT)]) call_ValOk sOkT_sound (GOK.cons call_l3All l3AllT_sound GOK.nil)) Go.Proofs.Try.func47 (c := Go.Proofs.Try.f47.body.getD .skip) rfl (n := 9) rfl chk_PathAll rs_PathAll (fun _ => by simp) ?_ ?_
  · exact spPathAll_inj
  · rintro t ⟨h1, h2⟩
    have a6 := T.enc_len t
    by_cases hk : okT t
    · have b1 : okT t = True := eq_true hk
      have k1 := okT_size hk
      have k2 := form_keyed t 6 hk.1
      simp only [x_PathAll, go_sem, seval, Prod.fst, rg, a6, b1, foldN, spOkT_md, spOkT_pre, spOkT_alts, spOkT_res, spOkT_out, spAllPT_md, spAllPT_pre, spAllPT_alts, spAllPT_res, spAllPT_out]
      exact ⟨⟨T.fit_mono (by omega) h1, h2⟩, fun _ => ⟨⟨h1, k2, by omega, by omega⟩, fun _ => by simp [waysT, hk]⟩⟩
    · have b1 : okT t = False := eq_false hk
      simp only [x_PathAll, go_sem, seval, Prod.fst, rg, a6, b1, foldN, spOkT_md, spOkT_pre, spOkT_alts, spOkT_res, spOkT_out, spAllPT_md, spAllPT_pre, spAllPT_alts, spAllPT_res, spAllPT_out]
      exact ⟨⟨T.fit_mono (by omega) h1, h2⟩, fun _ => by simp [waysT, hk, encSX]⟩
end Go.Proofs.Pw
