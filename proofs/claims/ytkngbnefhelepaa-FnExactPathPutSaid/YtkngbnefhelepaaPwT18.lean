/- Ways: a place of a row is set. -/
import Derived.Test.YtkngbnefhelepaaPwT17
import Derived.Test.YtkngbnefhelepaaPwT11
import Derived.Test.YtkngbnefhelepaaPwT13
set_option linter.unusedSimpArgs false
set_option linter.unusedVariables false
set_option linter.unusedSimpArgs false
set_option maxRecDepth 20000
namespace Go.Proofs.Pw
set_option linter.unusedSectionVars false
variable [Globs]
def x_l2Set : X := (.seq (.reg [⟨some 3, none, .box (.t 0) (some 5)⟩, ⟨some 5, none, .box (.t 2) (some 5)⟩, ⟨some 6, none, .alloc [(.c (.int .i64 0)), (.c (.int .i64 0)), (.c (.str ⟨#[]⟩)), (.z 1), (.z 5)]⟩] none [1, 3, 5, 6]) (.seq (.reg [⟨some 8, none, .bsl 5 []⟩, ⟨some 9, none, .fa (.t 3) 4⟩, ⟨some 10, none, .load (.t 9) none⟩, ⟨some 11, none, .app (.t 8) (.t 10) 5 80 []⟩, ⟨some 12, none, .build [(.c (.int .i64 0)), (.c (.int .i64 0)), (.c (.str ⟨#[]⟩)), (.z 1), (.z 5)] [(0, (.k (.c (.int .i64 5))), none), (4, (.t 11), none)]⟩, ⟨some 7, none, .alloc [(.c (.int .i64 0)), (.c (.int .i64 0)), (.c (.str ⟨#[]⟩)), (.z 1), (.z 5)]⟩, ⟨none, none, .st (.t 7) (.t 12) (some 5)⟩] none [1, 5, 6, 7]) (.seq (.block 0 (.loop (.seq (.seq (.reg [⟨some 13, none, .fa (.t 7) 4⟩, ⟨some 14, none, .load (.t 13) none⟩, ⟨some 15, none, .len (.t 14) false⟩, ⟨some 16, none, .mv (.t 1)⟩, ⟨some 17, none, .bin false .leq (.t 15) (.t 16)⟩] none [1, 5, 6, 7, 17]) (.cond (.t 17) .skip (.exit 0))) (.block 1 (.reg [⟨some 18, none, .fa (.t 7) 4⟩, ⟨some 19, none, .load (.t 18) none⟩, ⟨some 20, none, .build [(.c (.int .i64 0)), (.c (.int .i64 0)), (.c (.str ⟨#[]⟩)), (.z 1), (.z 5)] []⟩, ⟨some 21, none, .bsl 5 [((.t 20), (some 5))]⟩, ⟨some 22, none, .app (.t 19) (.t 21) 5 80 []⟩, ⟨some 23, none, .fa (.t 7) 4⟩, ⟨none, none, .st (.t 23) (.t 22) none⟩] none [1, 5, 6, 7]))))) (.seq (.reg [⟨some 24, none, .fa (.t 7) 4⟩, ⟨some 25, none, .load (.t 24) none⟩, ⟨some 26, none, .mv (.t 1)⟩, ⟨some 27, none, .load (.t 5) (some 5)⟩, ⟨some 28, none, .ia (.t 25) (.t 26) 5⟩, ⟨none, none, .st (.t 28) (.t 27) (some 5)⟩] none [6, 7]) (.seq (.reg [⟨some 29, none, .load (.t 7) (some 5)⟩, ⟨none, none, .st (.t 6) (.t 29) (some 5)⟩] none [6]) .ret)))))
theorem chk_l2Set : chkX Go.Proofs.Try.prog 30 (Go.Proofs.Try.f56.body.getD .skip) x_l2Set = true := by kernel_rfl
theorem rs_l2Set : okRs Go.Proofs.Try.prog Go.Proofs.Try.f56.results.toList [.cell 6 (some 5)] = true := by kernel_rfl
theorem call_l2Set : okCallee Go.Proofs.Try.prog 56 = true := by kernel_rfl
def x_PartSet : X := (.seq (.reg [⟨some 3, none, .box (.t 0) (some 5)⟩, ⟨some 5, none, .box (.t 2) (some 5)⟩, ⟨some 6, none, .alloc [(.c (.int .i64 0)), (.c (.int .i64 0)), (.c (.str ⟨#[]⟩)), (.z 1), (.z 5)]⟩, ⟨some 7, none, .mv (.k (.c (.bool false)))⟩] none [1, 3, 5, 6]) (.seq (.seq (.reg [⟨some 8, none, .load (.t 3) (some 5)⟩, ⟨some 9, none, .call 18 [(.t 8)]⟩, ⟨some 10, none, .not (.t 9)⟩, ⟨some 11, none, .mv (.t 10)⟩, ⟨some 12, some (11, false), .load (.t 5) (some 5)⟩, ⟨some 13, some (11, false), .call 18 [(.t 12)]⟩, ⟨some 14, some (11, false), .not (.t 13)⟩, ⟨some 15, none, .pick (.t 11) (.k (.c (.bool true))) (.t 14)⟩, ⟨some 16, none, .mv (.t 15)⟩, ⟨some 17, some (16, false), .fa (.t 3) 0⟩, ⟨some 18, some (16, false), .load (.t 17) none⟩, ⟨some 19, some (16, false), .bin false .neq (.t 18) (.k (.c (.int .i64 0)))⟩, ⟨some 20, some (16, false), .mv (.t 19)⟩, ⟨some 21, some (20, true), .fa (.t 3) 0⟩, ⟨some 22, some (20, true), .load (.t 21) none⟩, ⟨some 23, some (20, true), .bin false .neq (.t 22) (.k (.c (.int .i64 5)))⟩, ⟨some 24, some (16, false), .pick (.t 20) (.t 23) (.k (.c (.bool false)))⟩, ⟨some 25, none, .pick (.t 16) (.k (.c (.bool true))) (.t 24)⟩, ⟨some 26, none, .mv (.t 25)⟩, ⟨some 27, some (26, false), .mv (.t 1)⟩, ⟨some 28, some (26, false), .bin false .geq (.t 27) (.k (.c (.int .i64 60)))⟩, ⟨some 29, none, .pick (.t 26) (.k (.c (.bool true))) (.t 28)⟩, ⟨some 30, none, .mv (.t 29)⟩, ⟨some 31, some (30, false), .mv (.t 1)⟩, ⟨some 32, some (30, false), .fa (.t 3) 4⟩, ⟨some 33, some (30, false), .load (.t 32) none⟩, ⟨some 34, some (30, false), .len (.t 33) false⟩, ⟨some 35, some (30, false), .bin false .sub (.k (.c (.int .i64 0))) (.t 34)⟩, ⟨some 36, some (30, false), .bin false .lss (.t 31) (.t 35)⟩, ⟨some 37, none, .pick (.t 30) (.k (.c (.bool true))) (.t 36)⟩] none [1, 3, 5, 6, 37]) (.cond (.t 37) (.seq (.reg [⟨some 38, none, .build [(.c (.int .i64 0)), (.c (.int .i64 0)), (.c (.str ⟨#[]⟩)), (.z 1), (.z 5)] []⟩, ⟨none, none, .st (.t 6) (.t 38) (some 5)⟩, ⟨some 7, none, .mv (.k (.c (.bool false)))⟩] none [6, 7]) .ret) .skip)) (.seq (.seq (.reg [⟨some 39, none, .mv (.t 1)⟩, ⟨some 40, none, .bin false .lss (.t 39) (.k (.c (.int .i64 0)))⟩] none [1, 3, 5, 6, 40]) (.cond (.t 40) (.reg [⟨some 41, none, .mv (.t 1)⟩, ⟨some 42, none, .fa (.t 3) 4⟩, ⟨some 43, none, .load (.t 42) none⟩, ⟨some 44, none, .len (.t 43) false⟩, ⟨some 45, none, .bin false .add (.t 41) (.t 44)⟩, ⟨some 1, none, .mv (.t 45)⟩] none [1, 3, 5, 6]) .skip)) (.seq (.reg [⟨some 46, none, .load (.t 3) (some 5)⟩, ⟨some 47, none, .mv (.t 1)⟩, ⟨some 48, none, .load (.t 5) (some 5)⟩, ⟨some 49, none, .call 56 [(.t 46), (.t 47), (.t 48)]⟩, ⟨some 50, none, .call 21 [(.t 49)]⟩, ⟨some 51, none, .ext (.t 50) 0⟩, ⟨some 52, none, .ext (.t 50) 1⟩, ⟨none, none, .st (.t 6) (.t 51) (some 5)⟩, ⟨some 7, none, .mv (.t 52)⟩] none [6, 7]) .ret))))
theorem chk_PartSet : chkX Go.Proofs.Try.prog 53 (Go.Proofs.Try.f42.body.getD .skip) x_PartSet = true := by kernel_rfl
theorem rs_PartSet : okRs Go.Proofs.Try.prog Go.Proofs.Try.f42.results.toList [.cell 6 (some 5), .tmp 7] = true := by kernel_rfl
theorem call_PartSet : okCallee Go.Proofs.Try.prog 42 = true := by kernel_rfl
theorem encL_zero (l : List T) : encL l ++ [[C.int .i64 0, .int .i64 0, .str ⟨#[]⟩, .row 1 [], .row 5 []]] = encL (l ++ [T.zero]) := by rw [← encL_appL]; rfl
noncomputable def spL2Set  : Spec := Spec.of (ι := T × Int × T) [false, false, false] (fun i => [.d (.agg i.1.enc), .d (.one (.int .i64 i.2.1)), .d (.agg i.2.2.enc)]) (fun i => i.1.fit 1000000 ∧ 0 ≤ i.2.1 ∧ i.2.1 ≤ 59) (fun i => [.d (.agg (T.mk 5 0 ⟨#[]⟩ [] (setL i.1.list i.2.1.toNat i.2.2)).enc)]) (fun _ => [.gone, .gone, .gone])
theorem spL2Set_inj : ∀ i j : T × Int × T, (fun (i : T × Int × T) => ([.d (.agg i.1.enc), .d (.one (.int .i64 i.2.1)), .d (.agg i.2.2.enc)] : List AV)) i = (fun (i : T × Int × T) => ([.d (.agg i.1.enc), .d (.one (.int .i64 i.2.1)), .d (.agg i.2.2.enc)] : List AV)) j → i = j := by
  rintro ⟨v, a, x⟩ ⟨v', a', x'⟩ h
  simp only [Prod.mk.injEq]
  simpa [strs_eq, T.enc_eq, encL_eq, F.enc_eq, encF_eq, Tk.enc_eq, encTk_eq, Gn.enc_eq, ints_eq] using h
theorem spL2Set_md  : (spL2Set).md = [false, false, false] := rfl
theorem spL2Set_pre  (v : T) (a : Int) (x : T) : (spL2Set).pre [.d (.agg v.enc), .d (.one (.int .i64 a)), .d (.agg x.enc)] = (v.fit 1000000 ∧ 0 ≤ a ∧ a ≤ 59) := Spec.of_pre' spL2Set_inj (v, a, x)
theorem spL2Set_alts  : (spL2Set).alts = none := rfl
theorem spL2Set_res  (v : T) (a : Int) (x : T) : (spL2Set).res [.d (.agg v.enc), .d (.one (.int .i64 a)), .d (.agg x.enc)] = [.d (.agg (T.mk 5 0 ⟨#[]⟩ [] (setL v.list a.toNat x)).enc)] := Spec.of_res spL2Set_inj (v, a, x)
theorem spL2Set_out  (v : T) (a : Int) (x : T) : (spL2Set).out [.d (.agg v.enc), .d (.one (.int .i64 a)), .d (.agg x.enc)] = [.gone, .gone, .gone] := Spec.of_out spL2Set_inj (v, a, x)
set_option maxHeartbeats 2000000 in
theorem l2Set_sound : Sound Go.Proofs.Try.prog 56 spL2Set := by
  refine sound_fam GOK.nil Go.Proofs.Try.func56 (c := Go.Proofs.Try.f56.body.getD .skip) rfl (n := 30) rfl chk_l2Set rs_l2Set (fun _ => by simp) ?_ ?_
  · exact spL2Set_inj
  · rintro ⟨v, a, x⟩ ⟨h1, h2, h3⟩
    simp only at h1 h2 h3
    obtain ⟨k, n, s, ks, l⟩ := v
    have ll : (l.length : Int) ≤ 1000000 := h1.2.2.2.2.1
    obtain ⟨i, rfl⟩ : ∃ i : Nat, a = i := ⟨a.toNat, by omega⟩
    have fx := T.enc_len x
    simp only [x_l2Set, rg, go_sem, seval, Prod.fst, T.enc, T.list, fx, Int.toNat_natCast]
    repeat' (first | with_reducible assumption | with_reducible refine And.intro ?_ ?_ | intro _)
    all_goals first | omega | skip
    refine pw_loop (ι := Nat) (fun j => i + 1 - l.length - j) (fun j => j ≤ i + 1 - l.length)
      (fun j => ⟨[(1, .q (.c (.int .i64 i))), (5, .q (.box 5 0)), (6, .q (.box 6 0)), (7, .q (.box 7 0))], [(3, [.c (.int .i64 k), .c (.int .i64 n), .c (.str s), .c (.row 1 (strs ks)), .c (.row 5 (encL l))]), (5, x.enc.map .c), (6, [.c (.int .i64 0), .c (.int .i64 0), .c (.str ⟨#[]⟩), .z 1, .z 5]), (7, [.c (.int .i64 5), .c (.int .i64 0), .c (.str ⟨#[]⟩), .z 1, .own 11])], [(11, 5, encL (l ++ List.replicate j T.zero))]⟩) 0 (Nat.zero_le _) ?_ ?_
    · exact Le.of_eq (by simp)
    · intro j hj
      have l1 : (l ++ List.replicate j T.zero).length = l.length + j := by simp
      rcases Nat.lt_or_ge i (l.length + j) with c | c
      · have b1 : (((l.length + j : Nat) : Int) ≤ (i : Int)) = False := eq_false (by omega)
        obtain rfl : j = i + 1 - l.length := by omega
        obtain ⟨y, hy, _, _⟩ := drop_at (l := l ++ List.replicate (i + 1 - l.length) T.zero) (i := i) (by omega)
        have a1 := encL_at hy
        have f1 := T.enc_drop5 y
        have e : (l ++ List.replicate (i + 1 - l.length) T.zero).set i x = setL l i x := rfl
        simp only [rg, go_sem, seval, Prod.fst, l1, b1, a1, f1, fx, e, T.enc, strs, encL_len, encL_set, List.append_nil]
        repeat' (first | with_reducible assumption | with_reducible refine And.intro ?_ ?_ | intro _)
        all_goals first | omega | assumption | skip
      · have b1 : (((l.length + j : Nat) : Int) ≤ (i : Int)) = True := eq_true (by omega)
        simp only [rg, go_sem, seval, Prod.fst, l1, b1, encL_len, encL_zero]
        repeat' (first | with_reducible assumption | with_reducible refine And.intro ?_ ?_ | intro _)
        all_goals first | omega | assumption | skip
        exact ⟨j + 1, by omega, by omega, Le.of_eq (by simp [List.replicate_succ'])⟩
theorem sizeL_60 : ∀ {l : List T}, (∀ t ∈ l, sizeT t ≤ 60) → sizeL l ≤ 60 * (l.length : Int)
  | [], _ => by simp [sizeL]
  | t :: l, h => by
    have h1 := sizeL_60 (l := l) fun x hx => h x (.tail _ hx)
    have h2 := h t (.head _)
    simp only [sizeL, List.length_cons]; omega
theorem setT_fit {v x : T} {a : Int} (hv : okT v) (hx : okT x) (h1 : -(v.list.length : Int) ≤ a) (h2 : a ≤ 59) : (setT v a x).fit 2000000 ∧ sizeT (setT v a x) ≤ 1048577 := by
  have hl : v.list.length ≤ 60 := by
    obtain ⟨k, n, s, ks, l⟩ := v
    have := okT_size hv
    have := sizeL_len l
    simp only [sizeT] at *
    show l.length ≤ 60; omega
  have hi : setAt v.list.length a < 60 := by unfold setAt; split <;> omega
  have hm : ∀ t ∈ setL v.list (setAt v.list.length a) x, okT t := fun t ht => by
    rcases setL_mem ht with h | rfl | rfl
    · obtain ⟨k, n, s, ks, l⟩ := v
      exact okT_elem hv h
    · exact okT_zero'
    · exact hx
  have ll := (setL_len (x := x) hi hl).1
  constructor
  · exact rowT_fit (by omega) (by unfold lenB; omega) (fitL_of fun t ht => T.fit_mono (by decide) (okT_fit (hm t ht)))
  · show 1 + sizeL _ ≤ _
    have : sizeL (setL v.list (setAt v.list.length a) x) ≤ 60 * (setL v.list (setAt v.list.length a) x).length := sizeL_60 fun t ht => okT_size (hm t ht)
    omega
theorem partSetO_el {v x : T} {a : Int} (h1 : v.kind = 5 ∨ v.kind = 0) (h2 : -(v.list.length : Int) ≤ a) : optT (partSetO v a x) = toldT true (setT v a x) ∧ ((partSetO v a x).isSome = true) = okT (setT v a x) := by
  have e : partSetO v a x = if okT (setT v a x) then some (setT v a x) else none := by unfold partSetO; simp [h1, h2]
  constructor
  · rw [e]; unfold toldT; split <;> simp_all [optT]
  · rw [e]; split <;> simp_all
noncomputable def spPartSet  : Spec := Spec.of (ι := T × Int × T) [false, false, false] (fun i => [.d (.agg i.1.enc), .d (.one (.int .i64 i.2.1)), .d (.agg i.2.2.enc)]) (fun i => okT i.1 ∧ okT i.2.2 ∧ -9223372036854775808 ≤ i.2.1 ∧ i.2.1 ≤ 59) (fun i => [.d (.agg (optT (partSetO i.1 i.2.1 i.2.2)).enc), .d (.one (.bool (decide ((partSetO i.1 i.2.1 i.2.2).isSome = true))))]) (fun _ => [.gone, .gone, .gone])
theorem spPartSet_inj : ∀ i j : T × Int × T, (fun (i : T × Int × T) => ([.d (.agg i.1.enc), .d (.one (.int .i64 i.2.1)), .d (.agg i.2.2.enc)] : List AV)) i = (fun (i : T × Int × T) => ([.d (.agg i.1.enc), .d (.one (.int .i64 i.2.1)), .d (.agg i.2.2.enc)] : List AV)) j → i = j := by
  rintro ⟨v, a, x⟩ ⟨v', a', x'⟩ h
  simp only [Prod.mk.injEq]
  simpa [strs_eq, T.enc_eq, encL_eq, F.enc_eq, encF_eq, Tk.enc_eq, encTk_eq, Gn.enc_eq, ints_eq] using h
theorem spPartSet_md  : (spPartSet).md = [false, false, false] := rfl
theorem spPartSet_pre  (v : T) (a : Int) (x : T) : (spPartSet).pre [.d (.agg v.enc), .d (.one (.int .i64 a)), .d (.agg x.enc)] = (okT v ∧ okT x ∧ -9223372036854775808 ≤ a ∧ a ≤ 59) := Spec.of_pre' spPartSet_inj (v, a, x)
theorem spPartSet_alts  : (spPartSet).alts = none := rfl
theorem spPartSet_res  (v : T) (a : Int) (x : T) : (spPartSet).res [.d (.agg v.enc), .d (.one (.int .i64 a)), .d (.agg x.enc)] = [.d (.agg (optT (partSetO v a x)).enc), .d (.one (.bool (decide ((partSetO v a x).isSome = true))))] := Spec.of_res spPartSet_inj (v, a, x)
theorem spPartSet_out  (v : T) (a : Int) (x : T) : (spPartSet).out [.d (.agg v.enc), .d (.one (.int .i64 a)), .d (.agg x.enc)] = [.gone, .gone, .gone] := Spec.of_out spPartSet_inj (v, a, x)
set_option maxHeartbeats 2000000 in
theorem PartSet_sound : Sound Go.Proofs.Try.prog 42 spPartSet := by
  refine sound_fam (GOK.cons (l := [(56, spL2Set), (21, spL2Told)]) call_ValOk sOkT_sound (GOK.cons call_l2Set l2Set_sound (GOK.cons call_l2Told l2Told_sound GOK.nil))) Go.Proofs.Try.func42 (c := Go.Proofs.Try.f42.body.getD .skip) rfl (n := 53) rfl chk_PartSet rs_PartSet (fun _ => by simp) ?_ ?_
  · exact spPartSet_inj
  · rintro ⟨v, a, x⟩ ⟨h1, h2, h3, h4⟩
    simp only at h1 h2 h3 h4
    have f0 := T.enc_len v
    have f1 := T.enc_len x
    have o1 := eq_true h1
    have o2 := eq_true h2
    have g1 := T.fit_mono (B := 140737488355328) (by decide) (okT_fit h1)
    have g2 := T.fit_mono (B := 140737488355328) (by decide) (okT_fit h2)
    have g3 := T.fit_mono (B := 1000000) (by decide) (okT_fit h1)
    have z1 := okT_size h1
    have z2 := okT_size h2
    have p1 := fun b => spL2Set_pre v b x
    have p2 := fun b => spL2Set_res v b x
    have p3 := fun b => spL2Set_out v b x
    have hl : v.list.length ≤ 60 := by
      obtain ⟨k, n, s, ks, l⟩ := v
      have := sizeL_len l
      simp only [sizeT] at *
      show l.length ≤ 60; omega
    by_cases c : v.kind = 5 ∨ v.kind = 0
    · by_cases d : -(v.list.length : Int) ≤ a
      · obtain ⟨e1, e2⟩ := partSetO_el (x := x) c d
        obtain ⟨a5, a6⟩ := setT_fit h1 h2 d h4
        have f3 := T.enc_len (toldT true (setT v a x))
        have f4 := T.enc_len (setT v a x)
        by_cases b : a < 0
        · have b1 := eq_true b
          have es : T.mk 5 0 ⟨#[]⟩ [] (setL v.list (a + v.list.length).toNat x) = setT v a x := by unfold setT setAt; rw [if_pos b]
          obtain ⟨k, n, s, ks, l⟩ := v
          simp only [T.kind, T.list] at c d es p1 p2 p3 hl
          have d1 : (a < 0 - (l.length : Int)) = False := eq_false (by omega)
          have d2 : (60 ≤ a) = False := eq_false (by omega)
          rcases c with rfl | rfl
          · simp only [x_PartSet, rg, go_sem, seval, Prod.fst, T.enc, foldT, f1, f3, f4, o1, o2, e1, e2, b1, d1, d2, es, encL_len, p1, p2, p3, spL2Set_md, spL2Set_alts, spOkT_md, spOkT_pre, spOkT_alts, spOkT_res, spOkT_out, spL2Told_md, spL2Told_pre, spL2Told_alts, spL2Told_res, spL2Told_out]
            repeat' (first | with_reducible assumption | with_reducible refine And.intro ?_ ?_ | intro _)
            all_goals first | omega | assumption | skip
          · simp only [x_PartSet, rg, go_sem, seval, Prod.fst, T.enc, foldT, f1, f3, f4, o1, o2, e1, e2, b1, d1, d2, es, encL_len, p1, p2, p3, spL2Set_md, spL2Set_alts, spOkT_md, spOkT_pre, spOkT_alts, spOkT_res, spOkT_out, spL2Told_md, spL2Told_pre, spL2Told_alts, spL2Told_res, spL2Told_out]
            repeat' (first | with_reducible assumption | with_reducible refine And.intro ?_ ?_ | intro _)
            all_goals first | omega | assumption | skip
        · have b1 := eq_false b
          have es : T.mk 5 0 ⟨#[]⟩ [] (setL v.list a.toNat x) = setT v a x := by unfold setT setAt; rw [if_neg b]
          obtain ⟨k, n, s, ks, l⟩ := v
          simp only [T.kind, T.list] at c d es p1 p2 p3 hl
          have d1 : (a < 0 - (l.length : Int)) = False := eq_false (by omega)
          have d2 : (60 ≤ a) = False := eq_false (by omega)
          rcases c with rfl | rfl
          · simp only [x_PartSet, rg, go_sem, seval, Prod.fst, T.enc, foldT, f1, f3, f4, o1, o2, e1, e2, b1, d1, d2, es, encL_len, p1, p2, p3, spL2Set_md, spL2Set_alts, spOkT_md, spOkT_pre, spOkT_alts, spOkT_res, spOkT_out, spL2Told_md, spL2Told_pre, spL2Told_alts, spL2Told_res, spL2Told_out]
            repeat' (first | with_reducible assumption | with_reducible refine And.intro ?_ ?_ | intro _)
            all_goals first | omega | assumption | skip
          · simp only [x_PartSet, rg, go_sem, seval, Prod.fst, T.enc, foldT, f1, f3, f4, o1, o2, e1, e2, b1, d1, d2, es, encL_len, p1, p2, p3, spL2Set_md, spL2Set_alts, spOkT_md, spOkT_pre, spOkT_alts, spOkT_res, spOkT_out, spL2Told_md, spL2Told_pre, spL2Told_alts, spL2Told_res, spL2Told_out]
            repeat' (first | with_reducible assumption | with_reducible refine And.intro ?_ ?_ | intro _)
            all_goals first | omega | assumption | skip
      · have e : partSetO v a x = none := by unfold partSetO; rw [if_neg (fun h => d h.2.1)]
        obtain ⟨k, n, s, ks, l⟩ := v
        simp only [T.kind, T.list] at c d hl
        have d1 : (a < 0 - (l.length : Int)) = True := eq_true (by omega)
        have d2 : (60 ≤ a) = False := eq_false (by omega)
        rcases c with rfl | rfl
        · simp only [x_PartSet, rg, go_sem, seval, Prod.fst, T.enc, foldT, f1, o1, o2, e, d1, d2, encL_len, optT, Option.getD_none, T.zero_enc, Option.isSome_none, spOkT_md, spOkT_pre, spOkT_alts, spOkT_res, spOkT_out]
          repeat' (first | with_reducible assumption | with_reducible refine And.intro ?_ ?_ | intro _)
          all_goals first | omega | assumption | skip
        · simp only [x_PartSet, rg, go_sem, seval, Prod.fst, T.enc, foldT, f1, o1, o2, e, d1, d2, encL_len, optT, Option.getD_none, T.zero_enc, Option.isSome_none, spOkT_md, spOkT_pre, spOkT_alts, spOkT_res, spOkT_out]
          repeat' (first | with_reducible assumption | with_reducible refine And.intro ?_ ?_ | intro _)
          all_goals first | omega | assumption | skip
    · have e : partSetO v a x = none := by unfold partSetO; rw [if_neg (fun h => c h.1)]
      obtain ⟨k, n, s, ks, l⟩ := v
      simp only [T.kind, not_or] at c
      have c1 := eq_false c.1
      have c2 := eq_false c.2
      have d2 : (60 ≤ a) = False := eq_false (by omega)
      simp only [x_PartSet, rg, go_sem, seval, Prod.fst, T.enc, foldT, f1, o1, o2, e, c1, c2, d2, optT, Option.getD_none, T.zero_enc, Option.isSome_none, spOkT_md, spOkT_pre, spOkT_alts, spOkT_res, spOkT_out]
      repeat' (first | with_reducible assumption | with_reducible refine And.intro ?_ ?_ | intro _)
      all_goals first | omega | assumption | skip
end Go.Proofs.Pw
/- Ways: a place of a row is set, in the given program. -/
set_option linter.unusedSimpArgs false
set_option maxRecDepth 20000
namespace Go.Proofs.Pw
set_option linter.unusedSectionVars false
variable [Globs]
def x_PartSetI : X := (.seq (.reg [⟨some 3, none, .box (.t 0) (some 5)⟩, ⟨some 5, none, .box (.t 2) (some 5)⟩, ⟨some 6, none, .alloc [(.c (.int .i64 0)), (.c (.int .i64 0)), (.c (.str ⟨#[]⟩)), (.z 1), (.z 5)]⟩, ⟨some 7, none, .mv (.k (.c (.bool false)))⟩] none [1, 3, 5, 6]) (.seq (.seq (.reg [⟨some 9, none, .load (.t 3) (some 5)⟩, ⟨some 10, none, .call 25 [(.t 9)]⟩, ⟨some 11, none, .not (.t 10)⟩, ⟨some 12, none, .mv (.t 11)⟩, ⟨some 13, some (12, false), .load (.t 5) (some 5)⟩, ⟨some 14, some (12, false), .call 25 [(.t 13)]⟩, ⟨some 15, some (12, false), .not (.t 14)⟩, ⟨some 16, none, .pick (.t 12) (.k (.c (.bool true))) (.t 15)⟩, ⟨some 17, none, .mv (.t 16)⟩, ⟨some 18, some (17, false), .fa (.t 3) 0⟩, ⟨some 19, some (17, false), .load (.t 18) none⟩, ⟨some 20, some (17, false), .bin false .neq (.t 19) (.k (.c (.int .i64 5)))⟩, ⟨some 21, some (17, false), .mv (.t 20)⟩, ⟨some 22, some (21, true), .fa (.t 3) 0⟩, ⟨some 23, some (21, true), .load (.t 22) none⟩, ⟨some 24, some (21, true), .bin false .neq (.t 23) (.k (.c (.int .i64 0)))⟩, ⟨some 25, some (17, false), .pick (.t 21) (.t 24) (.k (.c (.bool false)))⟩, ⟨some 26, none, .pick (.t 17) (.k (.c (.bool true))) (.t 25)⟩, ⟨some 27, none, .mv (.t 26)⟩, ⟨some 28, some (27, false), .mv (.t 1)⟩, ⟨some 29, some (27, false), .fa (.t 3) 4⟩, ⟨some 30, some (27, false), .load (.t 29) none⟩, ⟨some 31, some (27, false), .len (.t 30) false⟩, ⟨some 32, some (27, false), .bin false .sub (.k (.c (.int .i64 0))) (.t 31)⟩, ⟨some 33, some (27, false), .call 46 [(.t 28), (.t 32), (.k (.c (.int .i64 59)))]⟩, ⟨some 34, some (27, false), .not (.t 33)⟩, ⟨some 35, none, .pick (.t 27) (.k (.c (.bool true))) (.t 34)⟩] none [1, 3, 5, 6, 35]) (.cond (.t 35) (.seq (.reg [⟨some 36, none, .build [(.c (.int .i64 0)), (.c (.int .i64 0)), (.c (.str ⟨#[]⟩)), (.z 1), (.z 5)] []⟩, ⟨none, none, .st (.t 6) (.t 36) (some 5)⟩, ⟨some 7, none, .mv (.k (.c (.bool false)))⟩] none [6, 7]) .ret) .skip)) (.seq (.seq (.reg [⟨some 37, none, .mv (.t 1)⟩, ⟨some 38, none, .bin false .lss (.t 37) (.k (.c (.int .i64 0)))⟩] none [1, 3, 5, 6, 38]) (.cond (.t 38) (.reg [⟨some 39, none, .mv (.t 1)⟩, ⟨some 40, none, .fa (.t 3) 4⟩, ⟨some 41, none, .load (.t 40) none⟩, ⟨some 42, none, .len (.t 41) false⟩, ⟨some 43, none, .bin false .add (.t 39) (.t 42)⟩, ⟨some 1, none, .mv (.t 43)⟩] none [1, 3, 5, 6]) .skip)) (.seq (.reg [⟨some 44, none, .fa (.t 3) 4⟩, ⟨some 45, none, .load (.t 44) none⟩, ⟨some 46, none, .call 60 [(.t 45)]⟩, ⟨some 8, none, .mv (.t 46)⟩] none [1, 5, 6, 8]) (.seq (.block 0 (.loop (.seq (.seq (.reg [⟨some 47, none, .mv (.t 8)⟩, ⟨some 48, none, .len (.t 47) false⟩, ⟨some 49, none, .mv (.t 1)⟩, ⟨some 50, none, .bin false .leq (.t 48) (.t 49)⟩] none [1, 5, 6, 8, 50]) (.cond (.t 50) .skip (.exit 0))) (.block 1 (.reg [⟨some 51, none, .mv (.t 8)⟩, ⟨some 52, none, .build [(.c (.int .i64 0)), (.c (.int .i64 0)), (.c (.str ⟨#[]⟩)), (.z 1), (.z 5)] []⟩, ⟨some 53, none, .bsl 5 [((.t 52), (some 5))]⟩, ⟨some 54, none, .app (.t 51) (.t 53) 5 80 []⟩, ⟨some 8, none, .mv (.t 54)⟩] none [1, 5, 6, 8]))))) (.seq (.reg [⟨some 55, none, .mv (.t 8)⟩, ⟨some 56, none, .mv (.t 1)⟩, ⟨some 57, none, .load (.t 5) (some 5)⟩, ⟨some 58, none, .ia (.t 55) (.t 56) 5⟩, ⟨none, none, .st (.t 58) (.t 57) (some 5)⟩] none [6, 8]) (.seq (.reg [⟨some 59, none, .mv (.t 8)⟩, ⟨some 60, none, .call 61 [(.t 59)]⟩, ⟨some 61, none, .call 27 [(.t 60), (.k (.c (.bool true)))]⟩, ⟨some 62, none, .ext (.t 61) 0⟩, ⟨some 63, none, .ext (.t 61) 1⟩, ⟨none, none, .st (.t 6) (.t 62) (some 5)⟩, ⟨some 7, none, .mv (.t 63)⟩] none [6, 7]) .ret)))))))
theorem chk_PartSetI : chkX Go.Proofs.Try.prog 64 (Go.Proofs.Try.f50.body.getD .skip) x_PartSetI = true := by kernel_rfl
theorem rs_PartSetI : okRs Go.Proofs.Try.prog Go.Proofs.Try.f50.results.toList [.cell 6 (some 5), .tmp 7] = true := by kernel_rfl
theorem call_PartSetI : okCallee Go.Proofs.Try.prog 50 = true := by kernel_rfl
noncomputable def spPartSetI  : Spec := Spec.of (ι := T × Int × T) [false, false, false] (fun i => [.d (.agg i.1.enc), .d (.one (.int .i64 i.2.1)), .d (.agg i.2.2.enc)]) (fun i => okT i.1 ∧ okT i.2.2 ∧ -9223372036854775808 ≤ i.2.1 ∧ i.2.1 ≤ 59) (fun i => [.d (.agg (optT (partSetO i.1 i.2.1 i.2.2)).enc), .d (.one (.bool (decide ((partSetO i.1 i.2.1 i.2.2).isSome = true))))]) (fun _ => [.gone, .gone, .gone])
theorem spPartSetI_inj : ∀ i j : T × Int × T, (fun (i : T × Int × T) => ([.d (.agg i.1.enc), .d (.one (.int .i64 i.2.1)), .d (.agg i.2.2.enc)] : List AV)) i = (fun (i : T × Int × T) => ([.d (.agg i.1.enc), .d (.one (.int .i64 i.2.1)), .d (.agg i.2.2.enc)] : List AV)) j → i = j := by
  rintro ⟨v, a, x⟩ ⟨v', a', x'⟩ h
  simp only [Prod.mk.injEq]
  simpa [strs_eq, T.enc_eq, encL_eq, F.enc_eq, encF_eq, Tk.enc_eq, encTk_eq, Gn.enc_eq, ints_eq] using h
theorem spPartSetI_md  : (spPartSetI).md = [false, false, false] := rfl
theorem spPartSetI_pre  (v : T) (a : Int) (x : T) : (spPartSetI).pre [.d (.agg v.enc), .d (.one (.int .i64 a)), .d (.agg x.enc)] = (okT v ∧ okT x ∧ -9223372036854775808 ≤ a ∧ a ≤ 59) := Spec.of_pre' spPartSetI_inj (v, a, x)
theorem spPartSetI_alts  : (spPartSetI).alts = none := rfl
theorem spPartSetI_res  (v : T) (a : Int) (x : T) : (spPartSetI).res [.d (.agg v.enc), .d (.one (.int .i64 a)), .d (.agg x.enc)] = [.d (.agg (optT (partSetO v a x)).enc), .d (.one (.bool (decide ((partSetO v a x).isSome = true))))] := Spec.of_res spPartSetI_inj (v, a, x)
theorem spPartSetI_out  (v : T) (a : Int) (x : T) : (spPartSetI).out [.d (.agg v.enc), .d (.one (.int .i64 a)), .d (.agg x.enc)] = [.gone, .gone, .gone] := Spec.of_out spPartSetI_inj (v, a, x)
set_option maxHeartbeats 2000000 in
theorem PartSetI_sound : Sound Go.Proofs.Try.prog 50 spPartSetI := by
  refine sound_fam (GOK.cons (l := [(46, spWithin), (60, spCloneV), (61, spRow), (27, spTold)]) call_ValOkI valOkI_sound (GOK.cons call_within within_sound (GOK.cons call_CloneV CloneV_sound (GOK.cons call_row row_sound (GOK.cons call_told told_sound GOK.nil))))) Go.Proofs.Try.func50 (c := Go.Proofs.Try.f50.body.getD .skip) rfl (n := 64) rfl chk_PartSetI rs_PartSetI (fun _ => by simp) ?_ ?_
  · exact spPartSetI_inj
  · rintro ⟨v, a, x⟩ ⟨h1, h2, h3, h4⟩
    simp only at h1 h2 h3 h4
    have f0 := T.enc_len v
    have fx := T.enc_len x
    have o1 : ((okI v 1 60).1 = true) = True := eq_true ((okI_iff _).2 h1)
    have o2 : ((okI x 1 60).1 = true) = True := eq_true ((okI_iff _).2 h2)
    have g1 := T.fit_mono (B := 140737488355328) (by decide) (okT_fit h1)
    have g2 := T.fit_mono (B := 140737488355328) (by decide) (okT_fit h2)
    have hl : v.list.length ≤ 60 := by
      obtain ⟨k, n, s, ks, l⟩ := v
      have := sizeL_len l
      have := okT_size h1
      simp only [sizeT] at *
      show l.length ≤ 60; omega
    by_cases c : v.kind = 5 ∨ v.kind = 0
    · by_cases d : -(v.list.length : Int) ≤ a
      · obtain ⟨e1, e2⟩ := partSetO_el (x := x) c d
        obtain ⟨a5, a6⟩ := setT_fit h1 h2 d h4
        have f3 := T.enc_len (toldT true (setT v a x))
        have f4 := T.enc_len (setT v a x)
        obtain ⟨k, n, s, ks, l⟩ := v
        simp only [T.kind, T.list] at c d hl
        have d1 : (0 - (l.length : Int) ≤ a ∧ a ≤ 59) = True := eq_true ⟨by omega, h4⟩
        have d3 : lenB 1000000 l.length := by unfold lenB; omega
        by_cases b : a < 0
        · have b1 := eq_true b
          obtain ⟨i, hi⟩ : ∃ i : Nat, i = (a + (l.length : Int)).toNat := ⟨_, rfl⟩
          have eb : a + (l.length : Int) = (i : Int) := by omega
          have es : T.mk 5 0 ⟨#[]⟩ [] (setL l i x) = setT (T.mk k n s ks l) a x := by subst hi; unfold setT setAt T.list; rw [if_pos b]
          rw [← es] at e1 e2 a5 a6 f3 f4
          rcases c with rfl | rfl
          · simp only [x_PartSetI, rg, go_sem, seval, Prod.fst, T.enc, foldT, fx, o1, o2, b1, eb, d1, encL_len, spValOkI_md, spValOkI_pre, spValOkI_alts, spValOkI_res, spValOkI_out, spWithin_md, spWithin_pre, spWithin_alts, spWithin_res, spWithin_out, spCloneV_md, spCloneV_pre, spCloneV_alts, spCloneV_res, spCloneV_out]
            repeat' (first | with_reducible assumption | with_reducible refine And.intro ?_ ?_ | intro _)
            all_goals first | omega | assumption | skip
            refine pw_loop (ι := Nat) (fun j => i + 1 - l.length - j) (fun j => j ≤ i + 1 - l.length)
              (fun j => ⟨[(1, .q (.c (.int .i64 i))), (5, .q (.box 5 0)), (6, .q (.box 6 0)), (8, .q (.own 46))], [(3, [.c (.int .i64 5), .c (.int .i64 n), .c (.str s), .c (.row 1 (strs ks)), .c (.row 5 (encL l))]), (5, x.enc.map .c), (6, [.c (.int .i64 0), .c (.int .i64 0), .c (.str ⟨#[]⟩), .z 1, .z 5])], [(46, 5, encL (l ++ List.replicate j T.zero))]⟩) 0 (Nat.zero_le _) (Le.of_eq (by simp)) ?_
            intro j hj
            have l1 : (l ++ List.replicate j T.zero).length = l.length + j := by simp
            rcases Nat.lt_or_ge i (l.length + j) with c | c
            · have b2 : (((l.length + j : Nat) : Int) ≤ (i : Int)) = False := eq_false (by omega)
              obtain rfl : j = i + 1 - l.length := by omega
              obtain ⟨y, hy, _, _⟩ := drop_at (l := l ++ List.replicate (i + 1 - l.length) T.zero) (i := i) (by omega)
              have a1 := encL_at hy
              have f1 := T.enc_drop5 y
              have e : (l ++ List.replicate (i + 1 - l.length) T.zero).set i x = setL l i x := rfl
              simp only [rg, go_sem, seval, Prod.fst, l1, b2, a1, f1, fx, f3, f4, e, e1, e2, foldT, encL_len, encL_set, List.append_nil, spRow_md, spRow_pre, spRow_alts, spRow_res, spRow_out, spTold_md, spTold_pre, spTold_alts, spTold_res, spTold_out]
              repeat' (first | with_reducible assumption | with_reducible refine And.intro ?_ ?_ | intro _)
              all_goals first | omega | assumption | skip
            · have b2 : (((l.length + j : Nat) : Int) ≤ (i : Int)) = True := eq_true (by omega)
              simp only [rg, go_sem, seval, Prod.fst, l1, b2, encL_len, encL_zero]
              repeat' (first | with_reducible assumption | with_reducible refine And.intro ?_ ?_ | intro _)
              all_goals first | omega | assumption | skip
              all_goals exact ⟨j + 1, by omega, by omega, Le.of_eq (by simp [List.replicate_succ'])⟩
          · simp only [x_PartSetI, rg, go_sem, seval, Prod.fst, T.enc, foldT, fx, o1, o2, b1, eb, d1, encL_len, spValOkI_md, spValOkI_pre, spValOkI_alts, spValOkI_res, spValOkI_out, spWithin_md, spWithin_pre, spWithin_alts, spWithin_res, spWithin_out, spCloneV_md, spCloneV_pre, spCloneV_alts, spCloneV_res, spCloneV_out]
            repeat' (first | with_reducible assumption | with_reducible refine And.intro ?_ ?_ | intro _)
            all_goals first | omega | assumption | skip
            refine pw_loop (ι := Nat) (fun j => i + 1 - l.length - j) (fun j => j ≤ i + 1 - l.length)
              (fun j => ⟨[(1, .q (.c (.int .i64 i))), (5, .q (.box 5 0)), (6, .q (.box 6 0)), (8, .q (.own 46))], [(3, [.c (.int .i64 0), .c (.int .i64 n), .c (.str s), .c (.row 1 (strs ks)), .c (.row 5 (encL l))]), (5, x.enc.map .c), (6, [.c (.int .i64 0), .c (.int .i64 0), .c (.str ⟨#[]⟩), .z 1, .z 5])], [(46, 5, encL (l ++ List.replicate j T.zero))]⟩) 0 (Nat.zero_le _) (Le.of_eq (by simp)) ?_
            intro j hj
            have l1 : (l ++ List.replicate j T.zero).length = l.length + j := by simp
            rcases Nat.lt_or_ge i (l.length + j) with c | c
            · have b2 : (((l.length + j : Nat) : Int) ≤ (i : Int)) = False := eq_false (by omega)
              obtain rfl : j = i + 1 - l.length := by omega
              obtain ⟨y, hy, _, _⟩ := drop_at (l := l ++ List.replicate (i + 1 - l.length) T.zero) (i := i) (by omega)
              have a1 := encL_at hy
              have f1 := T.enc_drop5 y
              have e : (l ++ List.replicate (i + 1 - l.length) T.zero).set i x = setL l i x := rfl
              simp only [rg, go_sem, seval, Prod.fst, l1, b2, a1, f1, fx, f3, f4, e, e1, e2, foldT, encL_len, encL_set, List.append_nil, spRow_md, spRow_pre, spRow_alts, spRow_res, spRow_out, spTold_md, spTold_pre, spTold_alts, spTold_res, spTold_out]
              repeat' (first | with_reducible assumption | with_reducible refine And.intro ?_ ?_ | intro _)
              all_goals first | omega | assumption | skip
            · have b2 : (((l.length + j : Nat) : Int) ≤ (i : Int)) = True := eq_true (by omega)
              simp only [rg, go_sem, seval, Prod.fst, l1, b2, encL_len, encL_zero]
              repeat' (first | with_reducible assumption | with_reducible refine And.intro ?_ ?_ | intro _)
              all_goals first | omega | assumption | skip
              all_goals exact ⟨j + 1, by omega, by omega, Le.of_eq (by simp [List.replicate_succ'])⟩
        · have b1 := eq_false b
          obtain ⟨i, hi⟩ : ∃ i : Nat, i = a.toNat := ⟨_, rfl⟩
          obtain rfl : a = (i : Int) := by omega
          have eb := True.intro
          have es : T.mk 5 0 ⟨#[]⟩ [] (setL l i x) = setT (T.mk k n s ks l) i x := by unfold setT setAt T.list; rw [if_neg b, Int.toNat_natCast]
          clear hi
          rw [← es] at e1 e2 a5 a6 f3 f4
          rcases c with rfl | rfl
          · simp only [x_PartSetI, rg, go_sem, seval, Prod.fst, T.enc, foldT, fx, o1, o2, b1, eb, d1, encL_len, spValOkI_md, spValOkI_pre, spValOkI_alts, spValOkI_res, spValOkI_out, spWithin_md, spWithin_pre, spWithin_alts, spWithin_res, spWithin_out, spCloneV_md, spCloneV_pre, spCloneV_alts, spCloneV_res, spCloneV_out]
            repeat' (first | with_reducible assumption | with_reducible refine And.intro ?_ ?_ | intro _)
            all_goals first | omega | assumption | skip
            refine pw_loop (ι := Nat) (fun j => i + 1 - l.length - j) (fun j => j ≤ i + 1 - l.length)
              (fun j => ⟨[(1, .q (.c (.int .i64 i))), (5, .q (.box 5 0)), (6, .q (.box 6 0)), (8, .q (.own 46))], [(3, [.c (.int .i64 5), .c (.int .i64 n), .c (.str s), .c (.row 1 (strs ks)), .c (.row 5 (encL l))]), (5, x.enc.map .c), (6, [.c (.int .i64 0), .c (.int .i64 0), .c (.str ⟨#[]⟩), .z 1, .z 5])], [(46, 5, encL (l ++ List.replicate j T.zero))]⟩) 0 (Nat.zero_le _) (Le.of_eq (by simp)) ?_
            intro j hj
            have l1 : (l ++ List.replicate j T.zero).length = l.length + j := by simp
            rcases Nat.lt_or_ge i (l.length + j) with c | c
            · have b2 : (((l.length + j : Nat) : Int) ≤ (i : Int)) = False := eq_false (by omega)
              obtain rfl : j = i + 1 - l.length := by omega
              obtain ⟨y, hy, _, _⟩ := drop_at (l := l ++ List.replicate (i + 1 - l.length) T.zero) (i := i) (by omega)
              have a1 := encL_at hy
              have f1 := T.enc_drop5 y
              have e : (l ++ List.replicate (i + 1 - l.length) T.zero).set i x = setL l i x := rfl
              simp only [rg, go_sem, seval, Prod.fst, l1, b2, a1, f1, fx, f3, f4, e, e1, e2, foldT, encL_len, encL_set, List.append_nil, spRow_md, spRow_pre, spRow_alts, spRow_res, spRow_out, spTold_md, spTold_pre, spTold_alts, spTold_res, spTold_out]
              repeat' (first | with_reducible assumption | with_reducible refine And.intro ?_ ?_ | intro _)
              all_goals first | omega | assumption | skip
            · have b2 : (((l.length + j : Nat) : Int) ≤ (i : Int)) = True := eq_true (by omega)
              simp only [rg, go_sem, seval, Prod.fst, l1, b2, encL_len, encL_zero]
              repeat' (first | with_reducible assumption | with_reducible refine And.intro ?_ ?_ | intro _)
              all_goals first | omega | assumption | skip
              all_goals exact ⟨j + 1, by omega, by omega, Le.of_eq (by simp [List.replicate_succ'])⟩
          · simp only [x_PartSetI, rg, go_sem, seval, Prod.fst, T.enc, foldT, fx, o1, o2, b1, eb, d1, encL_len, spValOkI_md, spValOkI_pre, spValOkI_alts, spValOkI_res, spValOkI_out, spWithin_md, spWithin_pre, spWithin_alts, spWithin_res, spWithin_out, spCloneV_md, spCloneV_pre, spCloneV_alts, spCloneV_res, spCloneV_out]
            repeat' (first | with_reducible assumption | with_reducible refine And.intro ?_ ?_ | intro _)
            all_goals first | omega | assumption | skip
            refine pw_loop (ι := Nat) (fun j => i + 1 - l.length - j) (fun j => j ≤ i + 1 - l.length)
              (fun j => ⟨[(1, .q (.c (.int .i64 i))), (5, .q (.box 5 0)), (6, .q (.box 6 0)), (8, .q (.own 46))], [(3, [.c (.int .i64 0), .c (.int .i64 n), .c (.str s), .c (.row 1 (strs ks)), .c (.row 5 (encL l))]), (5, x.enc.map .c), (6, [.c (.int .i64 0), .c (.int .i64 0), .c (.str ⟨#[]⟩), .z 1, .z 5])], [(46, 5, encL (l ++ List.replicate j T.zero))]⟩) 0 (Nat.zero_le _) (Le.of_eq (by simp)) ?_
            intro j hj
            have l1 : (l ++ List.replicate j T.zero).length = l.length + j := by simp
            rcases Nat.lt_or_ge i (l.length + j) with c | c
            · have b2 : (((l.length + j : Nat) : Int) ≤ (i : Int)) = False := eq_false (by omega)
              obtain rfl : j = i + 1 - l.length := by omega
              obtain ⟨y, hy, _, _⟩ := drop_at (l := l ++ List.replicate (i + 1 - l.length) T.zero) (i := i) (by omega)
              have a1 := encL_at hy
              have f1 := T.enc_drop5 y
              have e : (l ++ List.replicate (i + 1 - l.length) T.zero).set i x = setL l i x := rfl
              simp only [rg, go_sem, seval, Prod.fst, l1, b2, a1, f1, fx, f3, f4, e, e1, e2, foldT, encL_len, encL_set, List.append_nil, spRow_md, spRow_pre, spRow_alts, spRow_res, spRow_out, spTold_md, spTold_pre, spTold_alts, spTold_res, spTold_out]
              repeat' (first | with_reducible assumption | with_reducible refine And.intro ?_ ?_ | intro _)
              all_goals first | omega | assumption | skip
            · have b2 : (((l.length + j : Nat) : Int) ≤ (i : Int)) = True := eq_true (by omega)
              simp only [rg, go_sem, seval, Prod.fst, l1, b2, encL_len, encL_zero]
              repeat' (first | with_reducible assumption | with_reducible refine And.intro ?_ ?_ | intro _)
              all_goals first | omega | assumption | skip
              all_goals exact ⟨j + 1, by omega, by omega, Le.of_eq (by simp [List.replicate_succ'])⟩
      · have e : partSetO v a x = none := by unfold partSetO; rw [if_neg (fun h => d h.2.1)]
        obtain ⟨k, n, s, ks, l⟩ := v
        simp only [T.kind, T.list] at c d hl
        have d1 : (0 - (l.length : Int) ≤ a ∧ a ≤ 59) = False := eq_false (by omega)
        rcases c with rfl | rfl
        · simp only [x_PartSetI, rg, go_sem, seval, Prod.fst, T.enc, foldT, fx, o1, o2, e, d1, encL_len, optT, Option.getD_none, T.zero_enc, Option.isSome_none, spValOkI_md, spValOkI_pre, spValOkI_alts, spValOkI_res, spValOkI_out, spWithin_md, spWithin_pre, spWithin_alts, spWithin_res, spWithin_out]
          repeat' (first | with_reducible assumption | with_reducible refine And.intro ?_ ?_ | intro _)
          all_goals first | omega | assumption | skip
        · simp only [x_PartSetI, rg, go_sem, seval, Prod.fst, T.enc, foldT, fx, o1, o2, e, d1, encL_len, optT, Option.getD_none, T.zero_enc, Option.isSome_none, spValOkI_md, spValOkI_pre, spValOkI_alts, spValOkI_res, spValOkI_out, spWithin_md, spWithin_pre, spWithin_alts, spWithin_res, spWithin_out]
          repeat' (first | with_reducible assumption | with_reducible refine And.intro ?_ ?_ | intro _)
          all_goals first | omega | assumption | skip
    · have e : partSetO v a x = none := by unfold partSetO; rw [if_neg (fun h => c h.1)]
      obtain ⟨k, n, s, ks, l⟩ := v
      simp only [T.kind, not_or] at c
      have c1 := eq_false c.1
      have c2 := eq_false c.2
      simp only [x_PartSetI, rg, go_sem, seval, Prod.fst, T.enc, foldT, fx, o1, o2, e, c1, c2, encL_len, optT, Option.getD_none, T.zero_enc, Option.isSome_none, spValOkI_md, spValOkI_pre, spValOkI_alts, spValOkI_res, spValOkI_out, spWithin_md, spWithin_pre, spWithin_alts, spWithin_res, spWithin_out]
      repeat' (first | with_reducible assumption | with_reducible refine And.intro ?_ ?_ | intro _)
      all_goals first | omega | assumption | skip
end Go.Proofs.Pw
/- A copy is one's own: its rows are nobody else's. -/
set_option linter.unusedSimpArgs false
set_option maxRecDepth 20000
namespace Go.Proofs.Pw
set_option linter.unusedSectionVars false
variable [Globs]
end Go.Proofs.Pw
/- Trees added: the reference's. -/
set_option linter.unusedSimpArgs false
set_option maxRecDepth 20000
namespace Go.Proofs.Pw
set_option linter.unusedSectionVars false
variable [Globs]
end Go.Proofs.Pw
/- Ways: something is put at their end. -/
set_option linter.unusedSimpArgs false
set_option maxRecDepth 20000
namespace Go.Proofs.Pw
set_option linter.unusedSectionVars false
variable [Globs]
def x_l3Put : X := (.seq (.reg [⟨some 3, none, .box (.t 0) (some 5)⟩, ⟨some 5, none, .box (.t 2) (some 5)⟩, ⟨some 6, none, .alloc [(.c (.int .i64 0)), (.c (.int .i64 0)), (.c (.str ⟨#[]⟩)), (.z 1), (.z 5)]⟩, ⟨some 7, none, .mv (.k (.c (.bool false)))⟩] none [1, 3, 5, 6]) (.seq (.seq (.reg [⟨some 12, none, .mv (.t 1)⟩, ⟨some 13, none, .len (.t 12) false⟩, ⟨some 14, none, .bin false .eql (.t 13) (.k (.c (.int .i64 0)))⟩] none [1, 3, 5, 6, 14]) (.cond (.t 14) (.seq (.reg [⟨some 15, none, .load (.t 5) (some 5)⟩, ⟨none, none, .st (.t 6) (.t 15) (some 5)⟩, ⟨some 7, none, .mv (.k (.c (.bool true)))⟩] none [6, 7]) .ret) .skip)) (.seq (.mix [⟨some 17, none, .load (.t 3) (some 5)⟩, ⟨some 18, none, .mv (.t 1)⟩, ⟨some 19, none, .ia (.t 18) (.k (.c (.int .i64 0))) 3⟩, ⟨some 20, none, .load (.t 19) (some 3)⟩, ⟨some 21, none, .call 40 [(.t 17), (.t 20)]⟩, ⟨some 16, none, .mv (.t 21)⟩, ⟨some 22, none, .ext (.t 16) 0⟩, ⟨some 23, none, .ext (.t 16) 1⟩, ⟨some 8, none, .alloc [(.c (.int .i64 0)), (.c (.int .i64 0)), (.c (.str ⟨#[]⟩)), (.z 1), (.z 5)]⟩, ⟨none, none, .st (.t 8) (.t 22) (some 5)⟩] [⟨some 9, none, .mv (.t 23)⟩] [[], [], [], [], [], [], [], [], [0, 1, 2, 3, 5, 6, 7], []] [1, 3, 5, 6, 8, 9]) (.seq (.seq (.reg [⟨some 24, none, .mv (.t 9)⟩, ⟨some 25, none, .not (.t 24)⟩] none [1, 3, 5, 6, 8, 25]) (.cond (.t 25) (.seq (.reg [⟨some 26, none, .build [(.c (.int .i64 0)), (.c (.int .i64 0)), (.c (.str ⟨#[]⟩)), (.z 1), (.z 5)] []⟩, ⟨none, none, .st (.t 6) (.t 26) (some 5)⟩, ⟨some 7, none, .mv (.k (.c (.bool false)))⟩] none [6, 7]) .ret) .skip)) (.seq (.mix [⟨some 28, none, .load (.t 8) (some 5)⟩, ⟨some 29, none, .mv (.t 1)⟩, ⟨some 30, none, .sub (.t 29) (some (.k (.c (.int .i64 1)))) none 3⟩, ⟨some 31, none, .load (.t 5) (some 5)⟩, ⟨some 32, none, .call 20 [(.t 28), (.t 30), (.t 31)]⟩, ⟨some 27, none, .mv (.t 32)⟩, ⟨some 33, none, .ext (.t 27) 0⟩, ⟨some 34, none, .ext (.t 27) 1⟩, ⟨some 10, none, .alloc [(.c (.int .i64 0)), (.c (.int .i64 0)), (.c (.str ⟨#[]⟩)), (.z 1), (.z 5)]⟩, ⟨none, none, .st (.t 10) (.t 33) (some 5)⟩] [⟨some 11, none, .mv (.t 34)⟩] [[], [], [], [], [], [], [], [], [0, 1, 2, 3, 5, 6, 7], []] [1, 3, 6, 10, 11]) (.seq (.seq (.reg [⟨some 35, none, .mv (.t 11)⟩, ⟨some 36, none, .not (.t 35)⟩, ⟨some 37, none, .mv (.t 36)⟩, ⟨some 38, some (37, false), .load (.t 10) (some 5)⟩, ⟨some 39, some (37, false), .call 18 [(.t 38)]⟩, ⟨some 40, some (37, false), .not (.t 39)⟩, ⟨some 41, none, .pick (.t 37) (.k (.c (.bool true))) (.t 40)⟩] none [1, 3, 6, 10, 41]) (.cond (.t 41) (.seq (.reg [⟨some 42, none, .build [(.c (.int .i64 0)), (.c (.int .i64 0)), (.c (.str ⟨#[]⟩)), (.z 1), (.z 5)] []⟩, ⟨none, none, .st (.t 6) (.t 42) (some 5)⟩, ⟨some 7, none, .mv (.k (.c (.bool false)))⟩] none [6, 7]) .ret) .skip)) (.seq (.seq (.reg [⟨some 43, none, .mv (.t 1)⟩, ⟨some 44, none, .ia (.t 43) (.k (.c (.int .i64 0))) 3⟩, ⟨some 45, none, .fa (.t 44) 0⟩, ⟨some 46, none, .load (.t 45) none⟩] none [1, 3, 6, 10, 46]) (.cond (.t 46) (.seq (.reg [⟨some 47, none, .load (.t 3) (some 5)⟩, ⟨some 48, none, .mv (.t 1)⟩, ⟨some 49, none, .ia (.t 48) (.k (.c (.int .i64 0))) 3⟩, ⟨some 50, none, .fa (.t 49) 1⟩, ⟨some 51, none, .load (.t 50) none⟩, ⟨some 52, none, .load (.t 10) (some 5)⟩, ⟨some 53, none, .call 41 [(.t 47), (.t 51), (.t 52)]⟩, ⟨some 54, none, .ext (.t 53) 0⟩, ⟨some 55, none, .ext (.t 53) 1⟩, ⟨none, none, .st (.t 6) (.t 54) (some 5)⟩, ⟨some 7, none, .mv (.t 55)⟩] (some 9) [6, 7]) .ret) .skip)) (.seq (.reg [⟨some 56, none, .load (.t 3) (some 5)⟩, ⟨some 57, none, .mv (.t 1)⟩, ⟨some 58, none, .ia (.t 57) (.k (.c (.int .i64 0))) 3⟩, ⟨some 59, none, .fa (.t 58) 2⟩, ⟨some 60, none, .load (.t 59) none⟩, ⟨some 61, none, .load (.t 10) (some 5)⟩, ⟨some 62, none, .call 42 [(.t 56), (.t 60), (.t 61)]⟩, ⟨some 63, none, .ext (.t 62) 0⟩, ⟨some 64, none, .ext (.t 62) 1⟩, ⟨none, none, .st (.t 6) (.t 63) (some 5)⟩, ⟨some 7, none, .mv (.t 64)⟩] (some 9) [6, 7]) .ret))))))))
theorem chk_l3Put : chkX Go.Proofs.Try.prog 65 (Go.Proofs.Try.f20.body.getD .skip) x_l3Put = true := by kernel_rfl
theorem rs_l3Put : okRs Go.Proofs.Try.prog Go.Proofs.Try.f20.results.toList [.cell 6 (some 5), .tmp 7] = true := by kernel_rfl
theorem call_l3Put : okCallee Go.Proofs.Try.prog 20 = true := by kernel_rfl
def x_pathPut : X := (.seq (.reg [⟨some 3, none, .box (.t 0) (some 5)⟩, ⟨some 5, none, .box (.t 2) (some 5)⟩, ⟨some 6, none, .alloc [(.c (.int .i64 0)), (.c (.int .i64 0)), (.c (.str ⟨#[]⟩)), (.z 1), (.z 5)]⟩, ⟨some 7, none, .mv (.k (.c (.bool false)))⟩] none [1, 3, 5, 6]) (.seq (.seq (.reg [⟨some 12, none, .mv (.t 1)⟩, ⟨some 13, none, .len (.t 12) false⟩, ⟨some 14, none, .bin false .eql (.t 13) (.k (.c (.int .i64 0)))⟩] none [1, 3, 5, 6, 14]) (.cond (.t 14) (.seq (.reg [⟨some 15, none, .load (.t 5) (some 5)⟩, ⟨none, none, .st (.t 6) (.t 15) (some 5)⟩, ⟨some 7, none, .mv (.k (.c (.bool true)))⟩] none [6, 7]) .ret) .skip)) (.seq (.mix [⟨some 17, none, .load (.t 3) (some 5)⟩, ⟨some 18, none, .mv (.t 1)⟩, ⟨some 19, none, .ia (.t 18) (.k (.c (.int .i64 0))) 3⟩, ⟨some 20, none, .load (.t 19) (some 3)⟩, ⟨some 21, none, .call 48 [(.t 17), (.t 20)]⟩, ⟨some 16, none, .mv (.t 21)⟩, ⟨some 22, none, .ext (.t 16) 0⟩, ⟨some 23, none, .ext (.t 16) 1⟩, ⟨some 8, none, .alloc [(.c (.int .i64 0)), (.c (.int .i64 0)), (.c (.str ⟨#[]⟩)), (.z 1), (.z 5)]⟩, ⟨none, none, .st (.t 8) (.t 22) (some 5)⟩] [⟨some 9, none, .mv (.t 23)⟩] [[], [], [], [], [], [], [], [], [0, 1, 2, 3, 5, 6, 7], []] [1, 3, 5, 6, 8, 9]) (.seq (.seq (.reg [⟨some 24, none, .mv (.t 9)⟩, ⟨some 25, none, .not (.t 24)⟩] none [1, 3, 5, 6, 8, 25]) (.cond (.t 25) (.seq (.reg [⟨some 26, none, .build [(.c (.int .i64 0)), (.c (.int .i64 0)), (.c (.str ⟨#[]⟩)), (.z 1), (.z 5)] []⟩, ⟨none, none, .st (.t 6) (.t 26) (some 5)⟩, ⟨some 7, none, .mv (.k (.c (.bool false)))⟩] none [6, 7]) .ret) .skip)) (.seq (.mix [⟨some 28, none, .load (.t 8) (some 5)⟩, ⟨some 29, none, .mv (.t 1)⟩, ⟨some 30, none, .sub (.t 29) (some (.k (.c (.int .i64 1)))) none 3⟩, ⟨some 31, none, .load (.t 5) (some 5)⟩, ⟨some 32, none, .call 28 [(.t 28), (.t 30), (.t 31)]⟩, ⟨some 27, none, .mv (.t 32)⟩, ⟨some 33, none, .ext (.t 27) 0⟩, ⟨some 34, none, .ext (.t 27) 1⟩, ⟨some 10, none, .alloc [(.c (.int .i64 0)), (.c (.int .i64 0)), (.c (.str ⟨#[]⟩)), (.z 1), (.z 5)]⟩, ⟨none, none, .st (.t 10) (.t 33) (some 5)⟩] [⟨some 11, none, .mv (.t 34)⟩] [[], [], [], [], [], [], [], [], [0, 1, 2, 3, 5, 6, 7], []] [1, 3, 6, 10, 11]) (.seq (.seq (.reg [⟨some 35, none, .mv (.t 11)⟩, ⟨some 36, none, .not (.t 35)⟩] none [1, 3, 6, 10, 36]) (.cond (.t 36) (.seq (.reg [⟨some 37, none, .build [(.c (.int .i64 0)), (.c (.int .i64 0)), (.c (.str ⟨#[]⟩)), (.z 1), (.z 5)] []⟩, ⟨none, none, .st (.t 6) (.t 37) (some 5)⟩, ⟨some 7, none, .mv (.k (.c (.bool false)))⟩] none [6, 7]) .ret) .skip)) (.seq (.seq (.reg [⟨some 38, none, .mv (.t 1)⟩, ⟨some 39, none, .ia (.t 38) (.k (.c (.int .i64 0))) 3⟩, ⟨some 40, none, .fa (.t 39) 0⟩, ⟨some 41, none, .load (.t 40) none⟩] none [1, 3, 6, 10, 41]) (.cond (.t 41) (.seq (.reg [⟨some 42, none, .load (.t 3) (some 5)⟩, ⟨some 43, none, .mv (.t 1)⟩, ⟨some 44, none, .ia (.t 43) (.k (.c (.int .i64 0))) 3⟩, ⟨some 45, none, .fa (.t 44) 1⟩, ⟨some 46, none, .load (.t 45) none⟩, ⟨some 47, none, .load (.t 10) (some 5)⟩, ⟨some 48, none, .call 49 [(.t 42), (.t 46), (.t 47)]⟩, ⟨some 49, none, .ext (.t 48) 0⟩, ⟨some 50, none, .ext (.t 48) 1⟩, ⟨none, none, .st (.t 6) (.t 49) (some 5)⟩, ⟨some 7, none, .mv (.t 50)⟩] (some 9) [6, 7]) .ret) .skip)) (.seq (.reg [⟨some 51, none, .load (.t 3) (some 5)⟩, ⟨some 52, none, .mv (.t 1)⟩, ⟨some 53, none, .ia (.t 52) (.k (.c (.int .i64 0))) 3⟩, ⟨some 54, none, .fa (.t 53) 2⟩, ⟨some 55, none, .load (.t 54) none⟩, ⟨some 56, none, .load (.t 10) (some 5)⟩, ⟨some 57, none, .call 50 [(.t 51), (.t 55), (.t 56)]⟩, ⟨some 58, none, .ext (.t 57) 0⟩, ⟨some 59, none, .ext (.t 57) 1⟩, ⟨none, none, .st (.t 6) (.t 58) (some 5)⟩, ⟨some 7, none, .mv (.t 59)⟩] (some 9) [6, 7]) .ret))))))))
theorem chk_pathPut : chkX Go.Proofs.Try.prog 60 (Go.Proofs.Try.f28.body.getD .skip) x_pathPut = true := by kernel_rfl
theorem rs_pathPut : okRs Go.Proofs.Try.prog Go.Proofs.Try.f28.results.toList [.cell 6 (some 5), .tmp 7] = true := by kernel_rfl
theorem call_pathPut : okCallee Go.Proofs.Try.prog 28 = true := by kernel_rfl
theorem encS_take (p : List Stp) : List.take p.length (encS p) = encS p := List.take_of_length_le (by simp [encS])
theorem encS_cons (s : Stp) (p : List Stp) : encS (s :: p) = s.enc :: encS p := rfl
theorem wputO_cons {s : Stp} {p : List Stp} {v x : T} : wputO v (s :: p) x = if canGo s v then (match wputO (oneT s v) p x with
    | some y => partO s v y
    | none => none) else none := rfl
noncomputable def spL3Put (k:Nat) : Spec := Spec.of (ι := T × (List Stp) × T) [false, false, false] (fun i => [.d (.agg i.1.enc), .d (.one (.row 3 (encS i.2.1))), .d (.agg i.2.2.enc)]) (fun i => (okT i.1 ∧ okT i.2.2 ∧ ∀ s ∈ i.2.1, stpOk s) ∧ i.2.1.length < k) (fun i => [.d (.agg (optT (wputO i.1 i.2.1 i.2.2)).enc), .d (.one (.bool (decide ((wputO i.1 i.2.1 i.2.2).isSome = true))))]) (fun _ => [.gone, .gone, .gone])
theorem spL3Put_inj : ∀ i j : T × (List Stp) × T, (fun (i : T × (List Stp) × T) => ([.d (.agg i.1.enc), .d (.one (.row 3 (encS i.2.1))), .d (.agg i.2.2.enc)] : List AV)) i = (fun (i : T × (List Stp) × T) => ([.d (.agg i.1.enc), .d (.one (.row 3 (encS i.2.1))), .d (.agg i.2.2.enc)] : List AV)) j → i = j := by
  rintro ⟨v, p, x⟩ ⟨v', p', x'⟩ h
  simp only [Prod.mk.injEq]
  simpa [strs_eq, T.enc_eq, encL_eq, F.enc_eq, encF_eq, Tk.enc_eq, encTk_eq, Gn.enc_eq, ints_eq, encS_eq] using h
theorem spL3Put_md (k:Nat) : (spL3Put k).md = [false, false, false] := rfl
theorem spL3Put_pre (k:Nat) (v : T) (p : List Stp) (x : T) : (spL3Put k).pre [.d (.agg v.enc), .d (.one (.row 3 (encS p))), .d (.agg x.enc)] = ((okT v ∧ okT x ∧ ∀ s ∈ p, stpOk s) ∧ p.length < k) := Spec.of_pre' spL3Put_inj (v, p, x)
theorem spL3Put_alts (k:Nat) : (spL3Put k).alts = none := rfl
theorem spL3Put_res (k:Nat) (v : T) (p : List Stp) (x : T) : (spL3Put k).res [.d (.agg v.enc), .d (.one (.row 3 (encS p))), .d (.agg x.enc)] = [.d (.agg (optT (wputO v p x)).enc), .d (.one (.bool (decide ((wputO v p x).isSome = true))))] := Spec.of_res spL3Put_inj (v, p, x)
theorem spL3Put_out (k:Nat) (v : T) (p : List Stp) (x : T) : (spL3Put k).out [.d (.agg v.enc), .d (.one (.row 3 (encS p))), .d (.agg x.enc)] = [.gone, .gone, .gone] := Spec.of_out spL3Put_inj (v, p, x)
set_option maxHeartbeats 2000000 in
theorem l3Put_sound (k : Nat) (hS : Sound Go.Proofs.Try.prog 20 (spL3Put k)) : Sound Go.Proofs.Try.prog 20 (spL3Put (k + 1)) := by
  refine sound_fam (GOK.cons (l := [(40, spL3One), (20, spL3Put k), (41, spPartPut), (42, spPartSet)]) call_ValOk sOkT_sound (GOK.cons call_l3One l3One_sound (GOK.cons call_l3Put hS (GOK.cons call_PartPut PartPut_sound (GOK.cons call_PartSet PartSet_sound GOK.nil))))) Go.Proofs.Try.func20 (c := Go.Proofs.Try.f20.body.getD .skip) rfl (n := 65) rfl chk_l3Put rs_l3Put (fun _ => by simp) ?_ ?_
  · exact spL3Put_inj
  · rintro ⟨v, p, x⟩ ⟨⟨h1, h2, h3⟩, h4⟩
    simp only at h1 h2 h3
    have h4' : p.length < k + 1 := h4
    have f0 := T.enc_len v
    have fx := T.enc_len x
    have g1 := T.fit_mono (B := 140737488355328) (by decide) (okT_fit h1)
    cases p with
    | nil =>
      have e : wputO v [] x = some x := by cases v; rfl
      simp only [x_l3Put, rg, go_sem, seval, Prod.fst, f0, fx, e, encS, optT, Option.getD_some, Option.isSome_some, decide_true]
      repeat' (first | with_reducible assumption | with_reducible refine And.intro ?_ ?_ | intro _)
      all_goals first | omega | assumption | skip
    | cons s p =>
      have n1 : (((p.length + 1 : Nat) : Int) = 0) = False := eq_false (by omega)
      have h6 : p.length < k := by simp only [List.length_cons] at h4'; omega
      have hs := h3 s (.head _)
      have hp : ∀ t ∈ p, stpOk t := fun t ht => h3 t (.tail _ ht)
      have l3 := Stp.len3 s
      have f1 := T.enc_len (oneT s v)
      by_cases c : canGo s v
      · have c' := eq_true c
        have h5 := oneT_ok (s := s) h1
        cases hw : wputO (oneT s v) p x with
        | none =>
          have e : wputO v (s :: p) x = none := by rw [wputO_cons, if_pos c, hw]
          have q1 := spOkT_res T.zero
          have q2 := spOkT_pre T.zero
          have q3 := spOkT_out T.zero
          rw [T.zero_enc] at q1 q2 q3
          simp only [x_l3Put, rg, go_sem, seval, Prod.fst, f0, f1, fx, e, c', hw, encS_cons, encS_take, l3, n1, List.length_cons, encS_len, optT, Option.getD_none, Option.isSome_none, T.zero_enc, q1, q2, q3, spOkT_md, spOkT_pre, spOkT_alts, spOkT_res, spOkT_out, spL3One_md, spL3One_pre, spL3One_alts, spL3One_res, spL3One_out, spL3Put_md, spL3Put_alts, spL3Put_pre, spL3Put_res, spL3Put_out]
          repeat' (first | with_reducible assumption | with_reducible refine And.intro ?_ ?_ | intro _)
          all_goals first | omega | assumption | skip
        | some y =>
          have e : wputO v (s :: p) x = partO s v y := by rw [wputO_cons, if_pos c, hw]
          have oy := wputO_ok h2 hw
          have oy' := eq_true oy
          have zy := okT_size oy
          have g2 := T.fit_mono (B := 140737488355328) (by decide) (okT_fit oy)
          have fy := T.enc_len y
          have w1 : (optT (some y)).enc = y.enc := rfl
          have w2 : ((some y).isSome = true) = True := by simp
          obtain ⟨m, key, a⟩ := s
          cases m with
          | true =>
            obtain ⟨c1, c2⟩ : okS key ∧ a = 0 := by simpa [stpOk] using hs
            have r1 := spL3One_res v ⟨true, key, a⟩
            have r2 := spL3One_pre v ⟨true, key, a⟩
            have r3 := spL3One_out v ⟨true, key, a⟩
            simp only [Stp.enc] at r1 r2 r3
            have e2 : partO ⟨true, key, a⟩ v y = partPutO v key y := rfl
            have f2 := T.enc_len (optT (partPutO v key y))
            rw [e2] at e
            simp only [x_l3Put, rg, go_sem, seval, Prod.fst, f0, f1, f2, fx, fy, e, c', oy', hw, encS_cons, encS_take, Stp.enc, n1, List.length_cons, encS_len, r1, r2, r3, spOkT_md, spOkT_pre, spOkT_alts, spOkT_res, spOkT_out, spL3One_md, spL3One_alts, spPartPut_md, spPartPut_pre, spPartPut_alts, spPartPut_res, spPartPut_out, spL3Put_md, spL3Put_alts, spL3Put_pre, spL3Put_res, spL3Put_out, w1, w2]
            repeat' (first | with_reducible assumption | with_reducible refine And.intro ?_ ?_ | intro _)
            all_goals first | omega | assumption | skip
          | false =>
            obtain ⟨c1, c2, c3⟩ : key = ⟨#[]⟩ ∧ -60 ≤ a ∧ a ≤ 59 := by simpa [stpOk] using hs
            have r1 := spL3One_res v ⟨false, key, a⟩
            have r2 := spL3One_pre v ⟨false, key, a⟩
            have r3 := spL3One_out v ⟨false, key, a⟩
            simp only [Stp.enc] at r1 r2 r3
            have e2 : partO ⟨false, key, a⟩ v y = partSetO v a y := rfl
            have f2 := T.enc_len (optT (partSetO v a y))
            rw [e2] at e
            simp only [x_l3Put, rg, go_sem, seval, Prod.fst, f0, f1, f2, fx, fy, e, c', oy', hw, encS_cons, encS_take, Stp.enc, n1, List.length_cons, encS_len, r1, r2, r3, spOkT_md, spOkT_pre, spOkT_alts, spOkT_res, spOkT_out, spL3One_md, spL3One_alts, spPartSet_md, spPartSet_pre, spPartSet_alts, spPartSet_res, spPartSet_out, spL3Put_md, spL3Put_alts, spL3Put_pre, spL3Put_res, spL3Put_out, w1, w2]
            repeat' (first | with_reducible assumption | with_reducible refine And.intro ?_ ?_ | intro _)
            all_goals first | omega | assumption | skip
      · have c' := eq_false c
        have e : wputO v (s :: p) x = none := by rw [wputO_cons, if_neg c]
        simp only [x_l3Put, rg, go_sem, seval, Prod.fst, f0, f1, fx, e, c', encS_cons, encS_take, l3, n1, List.length_cons, encS_len, optT, Option.getD_none, Option.isSome_none, T.zero_enc, spL3One_md, spL3One_pre, spL3One_alts, spL3One_res, spL3One_out]
        repeat' (first | with_reducible assumption | with_reducible refine And.intro ?_ ?_ | intro _)
        all_goals first | omega | assumption | skip
theorem l3Put_all (k : Nat) : Sound Go.Proofs.Try.prog 20 (spL3Put k) := by
  induction k with
  | zero => exact Sound.none
  | succ k ih => exact l3Put_sound k ih
noncomputable def spL3PutT  : Spec := Spec.of (ι := T × (List Stp) × T) [false, false, false] (fun i => [.d (.agg i.1.enc), .d (.one (.row 3 (encS i.2.1))), .d (.agg i.2.2.enc)]) (fun i => okT i.1 ∧ okT i.2.2 ∧ ∀ s ∈ i.2.1, stpOk s) (fun i => [.d (.agg (optT (wputO i.1 i.2.1 i.2.2)).enc), .d (.one (.bool (decide ((wputO i.1 i.2.1 i.2.2).isSome = true))))]) (fun _ => [.gone, .gone, .gone])
theorem spL3PutT_inj : ∀ i j : T × (List Stp) × T, (fun (i : T × (List Stp) × T) => ([.d (.agg i.1.enc), .d (.one (.row 3 (encS i.2.1))), .d (.agg i.2.2.enc)] : List AV)) i = (fun (i : T × (List Stp) × T) => ([.d (.agg i.1.enc), .d (.one (.row 3 (encS i.2.1))), .d (.agg i.2.2.enc)] : List AV)) j → i = j := by
  rintro ⟨v, p, x⟩ ⟨v', p', x'⟩ h
  simp only [Prod.mk.injEq]
  simpa [strs_eq, T.enc_eq, encL_eq, F.enc_eq, encF_eq, Tk.enc_eq, encTk_eq, Gn.enc_eq, ints_eq, encS_eq] using h
theorem spL3PutT_md  : (spL3PutT).md = [false, false, false] := rfl
theorem spL3PutT_pre  (v : T) (p : List Stp) (x : T) : (spL3PutT).pre [.d (.agg v.enc), .d (.one (.row 3 (encS p))), .d (.agg x.enc)] = (okT v ∧ okT x ∧ ∀ s ∈ p, stpOk s) := Spec.of_pre' spL3PutT_inj (v, p, x)
theorem spL3PutT_alts  : (spL3PutT).alts = none := rfl
theorem spL3PutT_res  (v : T) (p : List Stp) (x : T) : (spL3PutT).res [.d (.agg v.enc), .d (.one (.row 3 (encS p))), .d (.agg x.enc)] = [.d (.agg (optT (wputO v p x)).enc), .d (.one (.bool (decide ((wputO v p x).isSome = true))))] := Spec.of_res spL3PutT_inj (v, p, x)
theorem spL3PutT_out  (v : T) (p : List Stp) (x : T) : (spL3PutT).out [.d (.agg v.enc), .d (.one (.row 3 (encS p))), .d (.agg x.enc)] = [.gone, .gone, .gone] := Spec.of_out spL3PutT_inj (v, p, x)
theorem l3PutT_sound : Sound Go.Proofs.Try.prog 20 spL3PutT := Sound.all (μ := fun i => i.2.1.length) l3Put_all
noncomputable def spPthPut (k:Nat) : Spec := Spec.of (ι := T × (List Stp) × T) [false, false, false] (fun i => [.d (.agg i.1.enc), .d (.one (.row 3 (encS i.2.1))), .d (.agg i.2.2.enc)]) (fun i => (okT i.1 ∧ okT i.2.2 ∧ ∀ s ∈ i.2.1, stpOk s) ∧ i.2.1.length < k) (fun i => [.d (.agg (optT (wputO i.1 i.2.1 i.2.2)).enc), .d (.one (.bool (decide ((wputO i.1 i.2.1 i.2.2).isSome = true))))]) (fun _ => [.gone, .gone, .gone])
theorem spPthPut_inj : ∀ i j : T × (List Stp) × T, (fun (i : T × (List Stp) × T) => ([.d (.agg i.1.enc), .d (.one (.row 3 (encS i.2.1))), .d (.agg i.2.2.enc)] : List AV)) i = (fun (i : T × (List Stp) × T) => ([.d (.agg i.1.enc), .d (.one (.row 3 (encS i.2.1))), .d (.agg i.2.2.enc)] : List AV)) j → i = j := by
  rintro ⟨v, p, x⟩ ⟨v', p', x'⟩ h
  simp only [Prod.mk.injEq]
  simpa [strs_eq, T.enc_eq, encL_eq, F.enc_eq, encF_eq, Tk.enc_eq, encTk_eq, Gn.enc_eq, ints_eq, encS_eq] using h
theorem spPthPut_md (k:Nat) : (spPthPut k).md = [false, false, false] := rfl
theorem spPthPut_pre (k:Nat) (v : T) (p : List Stp) (x : T) : (spPthPut k).pre [.d (.agg v.enc), .d (.one (.row 3 (encS p))), .d (.agg x.enc)] = ((okT v ∧ okT x ∧ ∀ s ∈ p, stpOk s) ∧ p.length < k) := Spec.of_pre' spPthPut_inj (v, p, x)
theorem spPthPut_alts (k:Nat) : (spPthPut k).alts = none := rfl
theorem spPthPut_res (k:Nat) (v : T) (p : List Stp) (x : T) : (spPthPut k).res [.d (.agg v.enc), .d (.one (.row 3 (encS p))), .d (.agg x.enc)] = [.d (.agg (optT (wputO v p x)).enc), .d (.one (.bool (decide ((wputO v p x).isSome = true))))] := Spec.of_res spPthPut_inj (v, p, x)
theorem spPthPut_out (k:Nat) (v : T) (p : List Stp) (x : T) : (spPthPut k).out [.d (.agg v.enc), .d (.one (.row 3 (encS p))), .d (.agg x.enc)] = [.gone, .gone, .gone] := Spec.of_out spPthPut_inj (v, p, x)
set_option maxHeartbeats 2000000 in
theorem pthPut_sound (k : Nat) (hS : Sound Go.Proofs.Try.prog 28 (spPthPut k)) : Sound Go.Proofs.Try.prog 28 (spPthPut (k + 1)) := by
  refine sound_fam (GOK.cons (l := [(28, spPthPut k), (49, spPartPutI), (50, spPartSetI)]) call_vstep vstep_sound (GOK.cons call_pathPut hS (GOK.cons call_PartPutI PartPutI_sound (GOK.cons call_PartSetI PartSetI_sound GOK.nil)))) Go.Proofs.Try.func28 (c := Go.Proofs.Try.f28.body.getD .skip) rfl (n := 60) rfl chk_pathPut rs_pathPut (fun _ => by simp) ?_ ?_
  · exact spPthPut_inj
  · rintro ⟨v, p, x⟩ ⟨⟨h1, h2, h3⟩, h4⟩
    simp only at h1 h2 h3
    have h4' : p.length < k + 1 := h4
    have f0 := T.enc_len v
    have fx := T.enc_len x
    have g1 := T.fit_mono (B := 140737488355328) (by decide) (okT_fit h1)
    cases p with
    | nil =>
      have e : wputO v [] x = some x := by cases v; rfl
      simp only [x_pathPut, rg, go_sem, seval, Prod.fst, f0, fx, e, encS, optT, Option.getD_some, Option.isSome_some, decide_true]
      repeat' (first | with_reducible assumption | with_reducible refine And.intro ?_ ?_ | intro _)
      all_goals first | omega | assumption | skip
    | cons s p =>
      have n1 : (((p.length + 1 : Nat) : Int) = 0) = False := eq_false (by omega)
      have h6 : p.length < k := by simp only [List.length_cons] at h4'; omega
      have hs := h3 s (.head _)
      have hp : ∀ t ∈ p, stpOk t := fun t ht => h3 t (.tail _ ht)
      have l3 := Stp.len3 s
      have f1 := T.enc_len (oneT s v)
      by_cases c : canGo s v
      · have c' := eq_true c
        have h5 := oneT_ok (s := s) h1
        cases hw : wputO (oneT s v) p x with
        | none =>
          have e : wputO v (s :: p) x = none := by rw [wputO_cons, if_pos c, hw]
          simp only [x_pathPut, rg, go_sem, seval, Prod.fst, f0, f1, fx, e, c', hw, encS_cons, encS_take, l3, n1, List.length_cons, encS_len, optT, Option.getD_none, Option.isSome_none, T.zero_enc, spStep_md, spStep_pre, spStep_alts, spStep_res, spStep_out, spPthPut_md, spPthPut_alts, spPthPut_pre, spPthPut_res, spPthPut_out]
          repeat' (first | with_reducible assumption | with_reducible refine And.intro ?_ ?_ | intro _)
          all_goals first | omega | assumption | skip
        | some y =>
          have e : wputO v (s :: p) x = partO s v y := by rw [wputO_cons, if_pos c, hw]
          have oy := wputO_ok h2 hw
          have oy' := eq_true oy
          have zy := okT_size oy
          have g2 := T.fit_mono (B := 140737488355328) (by decide) (okT_fit oy)
          have fy := T.enc_len y
          have w1 : (optT (some y)).enc = y.enc := rfl
          have w2 : ((some y).isSome = true) = True := by simp
          obtain ⟨m, key, a⟩ := s
          cases m with
          | true =>
            obtain ⟨c1, c2⟩ : okS key ∧ a = 0 := by simpa [stpOk] using hs
            have r1 := spStep_res v ⟨true, key, a⟩
            have r2 := spStep_pre v ⟨true, key, a⟩
            have r3 := spStep_out v ⟨true, key, a⟩
            simp only [Stp.enc] at r1 r2 r3
            have e2 : partO ⟨true, key, a⟩ v y = partPutO v key y := rfl
            have f2 := T.enc_len (optT (partPutO v key y))
            rw [e2] at e
            simp only [x_pathPut, rg, go_sem, seval, Prod.fst, f0, f1, f2, fx, fy, e, c', oy', hw, encS_cons, encS_take, Stp.enc, n1, List.length_cons, encS_len, r1, r2, r3, spStep_md, spStep_alts, spPartPutI_md, spPartPutI_pre, spPartPutI_alts, spPartPutI_res, spPartPutI_out, spPthPut_md, spPthPut_alts, spPthPut_pre, spPthPut_res, spPthPut_out, w1, w2]
            repeat' (first | with_reducible assumption | with_reducible refine And.intro ?_ ?_ | intro _)
            all_goals first | omega | assumption | skip
          | false =>
            obtain ⟨c1, c2, c3⟩ : key = ⟨#[]⟩ ∧ -60 ≤ a ∧ a ≤ 59 := by simpa [stpOk] using hs
            have r1 := spStep_res v ⟨false, key, a⟩
            have r2 := spStep_pre v ⟨false, key, a⟩
            have r3 := spStep_out v ⟨false, key, a⟩
            simp only [Stp.enc] at r1 r2 r3
            have e2 : partO ⟨false, key, a⟩ v y = partSetO v a y := rfl
            have f2 := T.enc_len (optT (partSetO v a y))
            rw [e2] at e
            simp only [x_pathPut, rg, go_sem, seval, Prod.fst, f0, f1, f2, fx, fy, e, c', oy', hw, encS_cons, encS_take, Stp.enc, n1, List.length_cons, encS_len, r1, r2, r3, spStep_md, spStep_alts, spPartSetI_md, spPartSetI_pre, spPartSetI_alts, spPartSetI_res, spPartSetI_out, spPthPut_md, spPthPut_alts, spPthPut_pre, spPthPut_res, spPthPut_out, w1, w2]
            repeat' (first | with_reducible assumption | with_reducible refine And.intro ?_ ?_ | intro _)
            all_goals first | omega | assumption | skip
      · have c' := eq_false c
        have e : wputO v (s :: p) x = none := by rw [wputO_cons, if_neg c]
        simp only [x_pathPut, rg, go_sem, seval, Prod.fst, f0, f1, fx, e, c', encS_cons, encS_take, l3, n1, List.length_cons, encS_len, optT, Option.getD_none, Option.isSome_none, T.zero_enc, spStep_md, spStep_pre, spStep_alts, spStep_res, spStep_out]
        repeat' (first | with_reducible assumption | with_reducible refine And.intro ?_ ?_ | intro _)
        all_goals first | omega | assumption | skip
theorem pthPut_all (k : Nat) : Sound Go.Proofs.Try.prog 28 (spPthPut k) := by
  induction k with
  | zero => exact Sound.none
  | succ k ih => exact pthPut_sound k ih
noncomputable def spPthPutT  : Spec := Spec.of (ι := T × (List Stp) × T) [false, false, false] (fun i => [.d (.agg i.1.enc), .d (.one (.row 3 (encS i.2.1))), .d (.agg i.2.2.enc)]) (fun i => okT i.1 ∧ okT i.2.2 ∧ ∀ s ∈ i.2.1, stpOk s) (fun i => [.d (.agg (optT (wputO i.1 i.2.1 i.2.2)).enc), .d (.one (.bool (decide ((wputO i.1 i.2.1 i.2.2).isSome = true))))]) (fun _ => [.gone, .gone, .gone])
theorem spPthPutT_inj : ∀ i j : T × (List Stp) × T, (fun (i : T × (List Stp) × T) => ([.d (.agg i.1.enc), .d (.one (.row 3 (encS i.2.1))), .d (.agg i.2.2.enc)] : List AV)) i = (fun (i : T × (List Stp) × T) => ([.d (.agg i.1.enc), .d (.one (.row 3 (encS i.2.1))), .d (.agg i.2.2.enc)] : List AV)) j → i = j := by
  rintro ⟨v, p, x⟩ ⟨v', p', x'⟩ h
  simp only [Prod.mk.injEq]
  simpa [strs_eq, T.enc_eq, encL_eq, F.enc_eq, encF_eq, Tk.enc_eq, encTk_eq, Gn.enc_eq, ints_eq, encS_eq] using h
theorem spPthPutT_md  : (spPthPutT).md = [false, false, false] := rfl
theorem spPthPutT_pre  (v : T) (p : List Stp) (x : T) : (spPthPutT).pre [.d (.agg v.enc), .d (.one (.row 3 (encS p))), .d (.agg x.enc)] = (okT v ∧ okT x ∧ ∀ s ∈ p, stpOk s) := Spec.of_pre' spPthPutT_inj (v, p, x)
theorem spPthPutT_alts  : (spPthPutT).alts = none := rfl
theorem spPthPutT_res  (v : T) (p : List Stp) (x : T) : (spPthPutT).res [.d (.agg v.enc), .d (.one (.row 3 (encS p))), .d (.agg x.enc)] = [.d (.agg (optT (wputO v p x)).enc), .d (.one (.bool (decide ((wputO v p x).isSome = true))))] := Spec.of_res spPthPutT_inj (v, p, x)
theorem spPthPutT_out  (v : T) (p : List Stp) (x : T) : (spPthPutT).out [.d (.agg v.enc), .d (.one (.row 3 (encS p))), .d (.agg x.enc)] = [.gone, .gone, .gone] := Spec.of_out spPthPutT_inj (v, p, x)
theorem pthPutT_sound : Sound Go.Proofs.Try.prog 28 spPthPutT := Sound.all (μ := fun i => i.2.1.length) pthPut_all
end Go.Proofs.Pw
/- Ways: both programs' PathPut. -/
set_option linter.unusedSimpArgs false
set_option maxRecDepth 20000
namespace Go.Proofs.Pw
set_option linter.unusedSectionVars false
variable [Globs]
def x_PathPut : X := (.seq (.reg [⟨some 3, none, .box (.t 0) (some 5)⟩, ⟨some 5, none, .box (.t 2) (some 5)⟩, ⟨some 6, none, .alloc [(.c (.int .i64 0)), (.c (.int .i64 0)), (.c (.str ⟨#[]⟩)), (.z 1), (.z 5)]⟩, ⟨some 7, none, .mv (.k (.c (.bool false)))⟩] none [1, 3, 5, 6]) (.seq (.seq (.reg [⟨some 10, none, .load (.t 3) (some 5)⟩, ⟨some 11, none, .call 18 [(.t 10)]⟩, ⟨some 12, none, .not (.t 11)⟩, ⟨some 13, none, .mv (.t 12)⟩, ⟨some 14, some (13, false), .mv (.t 1)⟩, ⟨some 15, some (13, false), .call 19 [(.t 14)]⟩, ⟨some 16, some (13, false), .not (.t 15)⟩, ⟨some 17, none, .pick (.t 13) (.k (.c (.bool true))) (.t 16)⟩, ⟨some 18, none, .mv (.t 17)⟩, ⟨some 19, some (18, false), .load (.t 5) (some 5)⟩, ⟨some 20, some (18, false), .call 18 [(.t 19)]⟩, ⟨some 21, some (18, false), .not (.t 20)⟩, ⟨some 22, none, .pick (.t 18) (.k (.c (.bool true))) (.t 21)⟩] none [1, 3, 5, 6, 22]) (.cond (.t 22) (.seq (.reg [⟨some 23, none, .build [(.c (.int .i64 0)), (.c (.int .i64 0)), (.c (.str ⟨#[]⟩)), (.z 1), (.z 5)] []⟩, ⟨none, none, .st (.t 6) (.t 23) (some 5)⟩, ⟨some 7, none, .mv (.k (.c (.bool false)))⟩] none [6, 7]) .ret) .skip)) (.seq (.reg [⟨some 25, none, .load (.t 3) (some 5)⟩, ⟨some 26, none, .mv (.t 1)⟩, ⟨some 27, none, .load (.t 5) (some 5)⟩, ⟨some 28, none, .call 20 [(.t 25), (.t 26), (.t 27)]⟩, ⟨some 24, none, .mv (.t 28)⟩, ⟨some 29, none, .ext (.t 24) 0⟩, ⟨some 30, none, .ext (.t 24) 1⟩, ⟨some 8, none, .alloc [(.c (.int .i64 0)), (.c (.int .i64 0)), (.c (.str ⟨#[]⟩)), (.z 1), (.z 5)]⟩, ⟨none, none, .st (.t 8) (.t 29) (some 5)⟩, ⟨some 9, none, .mv (.t 30)⟩] none [6, 8, 9]) (.seq (.seq (.reg [⟨some 31, none, .mv (.t 9)⟩, ⟨some 32, none, .not (.t 31)⟩] none [6, 8, 32]) (.cond (.t 32) (.seq (.reg [⟨some 33, none, .build [(.c (.int .i64 0)), (.c (.int .i64 0)), (.c (.str ⟨#[]⟩)), (.z 1), (.z 5)] []⟩, ⟨none, none, .st (.t 6) (.t 33) (some 5)⟩, ⟨some 7, none, .mv (.k (.c (.bool false)))⟩] none [6, 7]) .ret) .skip)) (.seq (.reg [⟨some 34, none, .load (.t 8) (some 5)⟩, ⟨some 35, none, .call 21 [(.t 34)]⟩, ⟨some 36, none, .ext (.t 35) 0⟩, ⟨some 37, none, .ext (.t 35) 1⟩, ⟨none, none, .st (.t 6) (.t 36) (some 5)⟩, ⟨some 7, none, .mv (.t 37)⟩] none [6, 7]) .ret)))))
theorem chk_PathPut : chkX Go.Proofs.Try.prog 38 (Go.Proofs.Try.f6.body.getD .skip) x_PathPut = true := by kernel_rfl
theorem rs_PathPut : okRs Go.Proofs.Try.prog Go.Proofs.Try.f6.results.toList [.cell 6 (some 5), .tmp 7] = true := by kernel_rfl
theorem call_PathPut : okCallee Go.Proofs.Try.prog 6 = true := by kernel_rfl
def x_PathPutI : X := (.seq (.reg [⟨some 3, none, .box (.t 0) (some 5)⟩, ⟨some 5, none, .box (.t 2) (some 5)⟩, ⟨some 6, none, .alloc [(.c (.int .i64 0)), (.c (.int .i64 0)), (.c (.str ⟨#[]⟩)), (.z 1), (.z 5)]⟩, ⟨some 7, none, .mv (.k (.c (.bool false)))⟩] none [1, 3, 5, 6]) (.seq (.seq (.reg [⟨some 8, none, .load (.t 3) (some 5)⟩, ⟨some 9, none, .call 25 [(.t 8)]⟩, ⟨some 10, none, .not (.t 9)⟩, ⟨some 11, none, .mv (.t 10)⟩, ⟨some 12, some (11, false), .mv (.t 1)⟩, ⟨some 13, some (11, false), .call 26 [(.t 12)]⟩, ⟨some 14, some (11, false), .not (.t 13)⟩, ⟨some 15, none, .pick (.t 11) (.k (.c (.bool true))) (.t 14)⟩, ⟨some 16, none, .mv (.t 15)⟩, ⟨some 17, some (16, false), .load (.t 5) (some 5)⟩, ⟨some 18, some (16, false), .call 25 [(.t 17)]⟩, ⟨some 19, some (16, false), .not (.t 18)⟩, ⟨some 20, none, .pick (.t 16) (.k (.c (.bool true))) (.t 19)⟩] none [1, 3, 5, 6, 20]) (.cond (.t 20) (.seq (.reg [⟨some 21, none, .build [(.c (.int .i64 0)), (.c (.int .i64 0)), (.c (.str ⟨#[]⟩)), (.z 1), (.z 5)] []⟩, ⟨none, none, .st (.t 6) (.t 21) (some 5)⟩, ⟨some 7, none, .mv (.k (.c (.bool false)))⟩] none [6, 7]) .ret) .skip)) (.seq (.reg [⟨some 22, none, .load (.t 3) (some 5)⟩, ⟨some 23, none, .mv (.t 1)⟩, ⟨some 24, none, .load (.t 5) (some 5)⟩, ⟨some 25, none, .call 28 [(.t 22), (.t 23), (.t 24)]⟩, ⟨some 26, none, .ext (.t 25) 0⟩, ⟨some 27, none, .ext (.t 25) 1⟩, ⟨some 28, none, .call 27 [(.t 26), (.t 27)]⟩, ⟨some 29, none, .ext (.t 28) 0⟩, ⟨some 30, none, .ext (.t 28) 1⟩, ⟨none, none, .st (.t 6) (.t 29) (some 5)⟩, ⟨some 7, none, .mv (.t 30)⟩] none [6, 7]) .ret)))
theorem chk_PathPutI : chkX Go.Proofs.Try.prog 31 (Go.Proofs.Try.f9.body.getD .skip) x_PathPutI = true := by kernel_rfl
theorem rs_PathPutI : okRs Go.Proofs.Try.prog Go.Proofs.Try.f9.results.toList [.cell 6 (some 5), .tmp 7] = true := by kernel_rfl
theorem call_PathPutI : okCallee Go.Proofs.Try.prog 9 = true := by kernel_rfl
theorem pathPutO_not {v x : T} {p : List Stp} (h : ¬ (okT v ∧ wayOk p ∧ okT x)) : pathPutO v p x = none := if_neg h
theorem pathPutO_ok2 {v x : T} {p : List Stp} (h1 : okT v) (h2 : wayOk p) (h3 : okT x) : pathPutO v p x = wputO v p x := if_pos ⟨h1, h2, h3⟩
theorem toldT_wput {v x : T} {p : List Stp} (hx : okT x) : toldT (decide ((wputO v p x).isSome = true)) (optT (wputO v p x)) = optT (wputO v p x) := by
  cases h : wputO v p x with
  | none => simp [toldT, optT]
  | some y => have := wputO_ok hx h; simp [toldT, optT, this]
noncomputable def spPathPut  : Spec := Spec.of (ι := T × (List Stp) × T) [false, false, false] (fun i => [.d (.agg i.1.enc), .d (.one (.row 3 (encS i.2.1))), .d (.agg i.2.2.enc)]) (fun i => i.1.fit 140737488355328 ∧ sizeT i.1 ≤ 1048577 ∧ wayFit i.2.1 ∧ i.2.2.fit 140737488355328 ∧ sizeT i.2.2 ≤ 1048577) (fun i => [.d (.agg (optT (pathPutO i.1 i.2.1 i.2.2)).enc), .d (.one (.bool (decide ((pathPutO i.1 i.2.1 i.2.2).isSome = true))))]) (fun _ => [.gone, .gone, .gone])
theorem spPathPut_inj : ∀ i j : T × (List Stp) × T, (fun (i : T × (List Stp) × T) => ([.d (.agg i.1.enc), .d (.one (.row 3 (encS i.2.1))), .d (.agg i.2.2.enc)] : List AV)) i = (fun (i : T × (List Stp) × T) => ([.d (.agg i.1.enc), .d (.one (.row 3 (encS i.2.1))), .d (.agg i.2.2.enc)] : List AV)) j → i = j := by
  rintro ⟨v, p, x⟩ ⟨v', p', x'⟩ h
  simp only [Prod.mk.injEq]
  simpa [strs_eq, T.enc_eq, encL_eq, F.enc_eq, encF_eq, Tk.enc_eq, encTk_eq, Gn.enc_eq, ints_eq, encS_eq] using h
theorem spPathPut_md  : (spPathPut).md = [false, false, false] := rfl
theorem spPathPut_pre  (v : T) (p : List Stp) (x : T) : (spPathPut).pre [.d (.agg v.enc), .d (.one (.row 3 (encS p))), .d (.agg x.enc)] = (v.fit 140737488355328 ∧ sizeT v ≤ 1048577 ∧ wayFit p ∧ x.fit 140737488355328 ∧ sizeT x ≤ 1048577) := Spec.of_pre' spPathPut_inj (v, p, x)
theorem spPathPut_alts  : (spPathPut).alts = none := rfl
theorem spPathPut_res  (v : T) (p : List Stp) (x : T) : (spPathPut).res [.d (.agg v.enc), .d (.one (.row 3 (encS p))), .d (.agg x.enc)] = [.d (.agg (optT (pathPutO v p x)).enc), .d (.one (.bool (decide ((pathPutO v p x).isSome = true))))] := Spec.of_res spPathPut_inj (v, p, x)
theorem spPathPut_out  (v : T) (p : List Stp) (x : T) : (spPathPut).out [.d (.agg v.enc), .d (.one (.row 3 (encS p))), .d (.agg x.enc)] = [.gone, .gone, .gone] := Spec.of_out spPathPut_inj (v, p, x)
set_option maxHeartbeats 2000000 in
theorem PathPut_sound : Sound Go.Proofs.Try.prog 6 spPathPut := by
  refine sound_fam (GOK.cons (l := [(19, spPathOk), (20, spL3PutT), (21, spL2Told)]) call_ValOk sOkT_sound (GOK.cons call_PathOk PathOk_sound (GOK.cons call_l3Put l3PutT_sound (GOK.cons call_l2Told l2Told_sound GOK.nil)))) Go.Proofs.Try.func6 (c := Go.Proofs.Try.f6.body.getD .skip) rfl (n := 38) rfl chk_PathPut rs_PathPut (fun _ => by simp) ?_ ?_
  · exact spPathPut_inj
  · rintro ⟨v, p, x⟩ ⟨h1, h2, h3, h4, h5⟩
    simp only at h1 h2 h3 h4 h5
    have f0 := T.enc_len v
    have fx := T.enc_len x
    by_cases c1 : okT v
    · by_cases c2 : wayOk p
      · by_cases c3 : okT x
        · have e := pathPutO_ok2 c1 c2 c3
          have d1 := eq_true c1
          have d2 := eq_true c2
          have d3 := eq_true c3
          cases hw : wputO v p x with
          | none =>
            rw [hw] at e
            have fz := T.enc_len T.zero
            have w1 : (optT none).enc = T.zero.enc := rfl
            have w2 : ((none : Option T).isSome = true) = False := by simp
            simp only [x_PathPut, rg, go_sem, seval, Prod.fst, f0, fx, fz, e, d1, d2, d3, hw, w1, w2, T.zero_enc, spOkT_md, spOkT_pre, spOkT_alts, spOkT_res, spOkT_out, spPathOk_md, spPathOk_pre, spPathOk_alts, spPathOk_res, spPathOk_out, spL3PutT_md, spL3PutT_pre, spL3PutT_alts, spL3PutT_res, spL3PutT_out]
            repeat' (first | with_reducible assumption | with_reducible refine And.intro ?_ ?_ | intro _)
            all_goals first | omega | assumption | exact c2.1 _ ‹_› | skip
          | some y =>
            rw [hw] at e
            have fy := T.enc_len y
            have oy := wputO_ok c3 hw
            have zy := okT_size oy
            have gy := T.fit_mono (B := 2000000) (by decide) (okT_fit oy)
            have oy' := eq_true oy
            have w1 : (optT (some y)).enc = y.enc := rfl
            have w2 : ((some y).isSome = true) = True := by simp
            have w3 := toldT_ok oy
            simp only [x_PathPut, rg, go_sem, seval, Prod.fst, f0, fx, fy, e, d1, d2, d3, hw, w1, w2, w3, oy', spOkT_md, spOkT_pre, spOkT_alts, spOkT_res, spOkT_out, spPathOk_md, spPathOk_pre, spPathOk_alts, spPathOk_res, spPathOk_out, spL3PutT_md, spL3PutT_pre, spL3PutT_alts, spL3PutT_res, spL3PutT_out, spL2Told_md, spL2Told_pre, spL2Told_alts, spL2Told_res, spL2Told_out]
            repeat' (first | with_reducible assumption | with_reducible refine And.intro ?_ ?_ | intro _)
            all_goals first | omega | assumption | exact c2.1 _ ‹_› | skip
        · have e := pathPutO_not (v := v) (p := p) (x := x) (fun h => c3 h.2.2)
          have d1 := eq_true c1
          have d2 := eq_true c2
          have d3 := eq_false c3
          have w1 : (optT none).enc = T.zero.enc := rfl
          have w2 : ((none : Option T).isSome = true) = False := by simp
          simp only [x_PathPut, rg, go_sem, seval, Prod.fst, f0, fx, e, d1, d2, d3, w1, w2, T.zero_enc, spOkT_md, spOkT_pre, spOkT_alts, spOkT_res, spOkT_out, spPathOk_md, spPathOk_pre, spPathOk_alts, spPathOk_res, spPathOk_out]
          repeat' (first | with_reducible assumption | with_reducible refine And.intro ?_ ?_ | intro _)
          all_goals first | omega | assumption | exact c2.1 _ ‹_› | skip
      · have e := pathPutO_not (v := v) (p := p) (x := x) (fun h => c2 h.2.1)
        have d1 := eq_true c1
        have d2 := eq_false c2
        have w1 : (optT none).enc = T.zero.enc := rfl
        have w2 : ((none : Option T).isSome = true) = False := by simp
        simp only [x_PathPut, rg, go_sem, seval, Prod.fst, f0, fx, e, d1, d2, w1, w2, T.zero_enc, spOkT_md, spOkT_pre, spOkT_alts, spOkT_res, spOkT_out, spPathOk_md, spPathOk_pre, spPathOk_alts, spPathOk_res, spPathOk_out]
        repeat' (first | with_reducible assumption | with_reducible refine And.intro ?_ ?_ | intro _)
        all_goals first | omega | assumption | skip
    · have e := pathPutO_not (v := v) (p := p) (x := x) (fun h => c1 h.1)
      have d1 := eq_false c1
      have w1 : (optT none).enc = T.zero.enc := rfl
      have w2 : ((none : Option T).isSome = true) = False := by simp
      simp only [x_PathPut, rg, go_sem, seval, Prod.fst, f0, fx, e, d1, w1, w2, T.zero_enc, spOkT_md, spOkT_pre, spOkT_alts, spOkT_res, spOkT_out, spPathOk_md, spPathOk_pre, spPathOk_alts, spPathOk_res, spPathOk_out]
      repeat' (first | with_reducible assumption | with_reducible refine And.intro ?_ ?_ | intro _)
      all_goals first | omega | assumption | skip
noncomputable def spPathPutIX  : Spec := Spec.of (ι := T × (List Stp) × T) [false, false, false] (fun i => [.d (.agg i.1.enc), .d (.one (.row 3 (encS i.2.1))), .d (.agg i.2.2.enc)]) (fun i => i.1.fit 140737488355328 ∧ sizeT i.1 ≤ 1048577 ∧ wayFit i.2.1 ∧ i.2.2.fit 140737488355328 ∧ sizeT i.2.2 ≤ 1048577) (fun i => [.ag (agX (optT (pathPutO i.1 i.2.1 i.2.2))), .d (.one (.bool (decide ((pathPutO i.1 i.2.1 i.2.2).isSome = true))))]) (fun _ => [.gone, .gone, .gone])
theorem spPathPutIX_inj : ∀ i j : T × (List Stp) × T, (fun (i : T × (List Stp) × T) => ([.d (.agg i.1.enc), .d (.one (.row 3 (encS i.2.1))), .d (.agg i.2.2.enc)] : List AV)) i = (fun (i : T × (List Stp) × T) => ([.d (.agg i.1.enc), .d (.one (.row 3 (encS i.2.1))), .d (.agg i.2.2.enc)] : List AV)) j → i = j := by
  rintro ⟨v, p, x⟩ ⟨v', p', x'⟩ h
  simp only [Prod.mk.injEq]
  simpa [strs_eq, T.enc_eq, encL_eq, F.enc_eq, encF_eq, Tk.enc_eq, encTk_eq, Gn.enc_eq, ints_eq, encS_eq] using h
theorem spPathPutIX_md  : (spPathPutIX).md = [false, false, false] := rfl
theorem spPathPutIX_pre  (v : T) (p : List Stp) (x : T) : (spPathPutIX).pre [.d (.agg v.enc), .d (.one (.row 3 (encS p))), .d (.agg x.enc)] = (v.fit 140737488355328 ∧ sizeT v ≤ 1048577 ∧ wayFit p ∧ x.fit 140737488355328 ∧ sizeT x ≤ 1048577) := Spec.of_pre' spPathPutIX_inj (v, p, x)
theorem spPathPutIX_alts  : (spPathPutIX).alts = none := rfl
theorem spPathPutIX_res  (v : T) (p : List Stp) (x : T) : (spPathPutIX).res [.d (.agg v.enc), .d (.one (.row 3 (encS p))), .d (.agg x.enc)] = [.ag (agX (optT (pathPutO v p x))), .d (.one (.bool (decide ((pathPutO v p x).isSome = true))))] := Spec.of_res spPathPutIX_inj (v, p, x)
theorem spPathPutIX_out  (v : T) (p : List Stp) (x : T) : (spPathPutIX).out [.d (.agg v.enc), .d (.one (.row 3 (encS p))), .d (.agg x.enc)] = [.gone, .gone, .gone] := Spec.of_out spPathPutIX_inj (v, p, x)
set_option maxHeartbeats 2000000 in
theorem PathPutIX_sound : Sound Go.Proofs.Try.prog 9 spPathPutIX := by
  refine sound_fam (GOK.cons (l := [(26, spPathOkI), (28, spPthPutT), (27, spToldX)]) call_ValOkI valOkI_sound (GOK.cons call_PathOkI PathOkI_sound (GOK.cons call_pathPut pthPutT_sound (GOK.cons call_told toldX_sound GOK.nil)))) Go.Proofs.Try.func9 (c := Go.Proofs.Try.f9.body.getD .skip) rfl (n := 31) rfl chk_PathPutI rs_PathPutI (fun _ => by simp) ?_ ?_
  · exact spPathPutIX_inj
  · rintro ⟨v, p, x⟩ ⟨h1, h2, h3, h4, h5⟩
    simp only at h1 h2 h3 h4 h5
    have f0 := T.enc_len v
    have fx := T.enc_len x
    by_cases c1 : okT v
    · have d1 : ((okI v 1 60).1 = true) = True := eq_true ((okI_iff _).2 c1)
      by_cases c2 : wayOk p
      · have d2 := eq_true c2
        by_cases c3 : okT x
        · have e := pathPutO_ok2 c1 c2 c3
          have d3 : ((okI x 1 60).1 = true) = True := eq_true ((okI_iff _).2 c3)
          have ot : okT (optT (wputO v p x)) := optT_ok fun y h => wputO_ok c3 h
          have w1 := toldT_wput (v := v) (p := p) c3
          have ft := T.enc_len (optT (wputO v p x))
          have g1 := T.fit_mono (B := 2000000) (by decide) (okT_fit ot)
          have ot' := eq_true ot
          simp only [x_PathPutI, rg, go_sem, seval, Prod.fst, f0, fx, ft, e, d1, d2, d3, w1, ot', agX_out, zk, zn, zs, zks, zl, strs_e, encLX_e, spValOkI_md, spValOkI_pre, spValOkI_alts, spValOkI_res, spValOkI_out, spPathOkI_md, spPathOkI_pre, spPathOkI_alts, spPathOkI_res, spPathOkI_out, spPthPutT_md, spPthPutT_pre, spPthPutT_alts, spPthPutT_res, spPthPutT_out, spToldX_md, spToldX_pre, spToldX_alts, spToldX_res, spToldX_out, Bool.false_or, Bool.or_true, Bool.not_true, Bool.false_eq_true, decide_eq_true_eq, and_true]
          repeat' (first | with_reducible assumption | with_reducible refine And.intro ?_ ?_ | intro _)
          all_goals first | omega | assumption | exact c2.1 _ ‹_› | skip
        · have e := pathPutO_not (v := v) (p := p) (x := x) (fun h => c3 h.2.2)
          have d3 : ((okI x 1 60).1 = true) = False := eq_false (fun h => c3 ((okI_iff _).1 h))
          have w1 : optT none = T.zero := rfl
          have w2 : ((none : Option T).isSome = true) = False := by simp
          simp only [x_PathPutI, rg, go_sem, seval, Prod.fst, f0, fx, e, d1, d2, d3, w1, w2, agX_out, zk, zn, zs, zks, zl, strs_e, encLX_e, spValOkI_md, spValOkI_pre, spValOkI_alts, spValOkI_res, spValOkI_out, spPathOkI_md, spPathOkI_pre, spPathOkI_alts, spPathOkI_res, spPathOkI_out, Bool.false_or, Bool.or_true, Bool.not_true, Bool.false_eq_true]
          repeat' (first | with_reducible assumption | with_reducible refine And.intro ?_ ?_ | intro _)
          all_goals first | omega | assumption | skip
      · have e := pathPutO_not (v := v) (p := p) (x := x) (fun h => c2 h.2.1)
        have d2 := eq_false c2
        have w1 : optT none = T.zero := rfl
        have w2 : ((none : Option T).isSome = true) = False := by simp
        simp only [x_PathPutI, rg, go_sem, seval, Prod.fst, f0, fx, e, d1, d2, w1, w2, agX_out, zk, zn, zs, zks, zl, strs_e, encLX_e, spValOkI_md, spValOkI_pre, spValOkI_alts, spValOkI_res, spValOkI_out, spPathOkI_md, spPathOkI_pre, spPathOkI_alts, spPathOkI_res, spPathOkI_out, Bool.false_or, Bool.or_true, Bool.not_true, Bool.false_eq_true]
        repeat' (first | with_reducible assumption | with_reducible refine And.intro ?_ ?_ | intro _)
        all_goals first | omega | assumption | skip
    · have e := pathPutO_not (v := v) (p := p) (x := x) (fun h => c1 h.1)
      have d1 : ((okI v 1 60).1 = true) = False := eq_false (fun h => c1 ((okI_iff _).1 h))
      have w1 : optT none = T.zero := rfl
      have w2 : ((none : Option T).isSome = true) = False := by simp
      simp only [x_PathPutI, rg, go_sem, seval, Prod.fst, f0, fx, e, d1, w1, w2, agX_out, zk, zn, zs, zks, zl, strs_e, encLX_e, spValOkI_md, spValOkI_pre, spValOkI_alts, spValOkI_res, spValOkI_out, spPathOkI_md, spPathOkI_pre, spPathOkI_alts, spPathOkI_res, spPathOkI_out, Bool.false_or, Bool.or_true, Bool.not_true, Bool.false_eq_true]
      repeat' (first | with_reducible assumption | with_reducible refine And.intro ?_ ?_ | intro _)
      all_goals first | omega | assumption | skip
end Go.Proofs.Pw
/- Marks on trees told by their parts. -/
set_option linter.unusedSimpArgs false
namespace Go.Proofs.Pw
theorem foldM (t : T) (n : Int) : DV.agg [C.int .i64 t.kind, C.int .i64 t.n, C.str t.s, C.row 1 (strs (mkV t n).keys), C.row 5 (encL (mkV t n).list)] = DV.agg (mkV t n).enc := by cases t; rfl
theorem killL_map (d : List Nat) (cs : List C) : (cs.map Q.c).map (Q.killL d) = cs.map Q.c := by rw [List.map_map]; rfl
attribute [go_sem] killL_map dtR_strs callW AV.weak Pt.toC AV.dtb Pt.dtb Option.getD_some Option.isSome_some
variable [Globs]
theorem spMkV_preX (t : T) (n : Int) : spMkV.pre [.ag [.c (.int .i64 t.kind), .c (.int .i64 t.n), .c (.str t.s), .o 1 (strs t.keys), .o 5 (encLX t.list)], .d (.one (.int .i64 n))] = (t.fit 140737488355328 ∧ 0 ≤ n ∧ n + nmV t ≤ 4611686018427387904) := by rw [← agX_out, spMkV_pre]
theorem spMkV_resX (t : T) (n : Int) : spMkV.res [.ag [.c (.int .i64 t.kind), .c (.int .i64 t.n), .c (.str t.s), .o 1 (strs t.keys), .o 5 (encLX t.list)], .d (.one (.int .i64 n))] = [.d (.one (.int .i64 (n + nmV t)))] := by rw [← agX_out, spMkV_res]
theorem spMkV_outX (t : T) (n : Int) : spMkV.out [.ag [.c (.int .i64 t.kind), .c (.int .i64 t.n), .c (.str t.s), .o 1 (strs t.keys), .o 5 (encLX t.list)], .d (.one (.int .i64 n))] = [.ag (agX (mkV t n)), .gone] := by rw [← agX_out, spMkV_out]
end Go.Proofs.Pw
