/- Rows: each tree once; whether a tree is there. -/
import Derived.Test.YtalbhhciphpbeaaPwRwL
import Derived.Test.YtalbhhciphpbeaaPwPlOnce
import Derived.Test.YtalbhhciphpbeaaPwSame
import Derived.Test.YtalbhhciphpbeaaPwDr4
set_option linter.unusedSimpArgs false
set_option linter.unusedVariables false
set_option linter.unusedSimpArgs false
set_option maxRecDepth 20000
namespace Go.Proofs.Pw
set_option linter.unusedSectionVars false
variable [Globs]
def x_Comp : X := (.gh (.seq (.reg [⟨some 4, none, .mv (.k (.z 5))⟩] none [0, 1]) (.seq (.seq (.reg [⟨some 8, none, .mv (.t 0)⟩, ⟨some 9, none, .len (.t 8) false⟩, ⟨some 10, none, .bin false .lss (.t 9) (.k (.c (.int .i64 2)))⟩] none [0, 1, 10]) (.cond (.t 10) (.seq (.reg [⟨some 11, none, .mv (.t 0)⟩, ⟨some 4, none, .mv (.t 11)⟩] none [4]) (.gh .ret)) .skip)) (.seq (.seq (.reg [⟨some 5, none, .mv (.k (.c (.int .i64 1)))⟩] none [0, 1, 5]) (.block 0 (.loop (.seq (.seq (.reg [⟨some 12, none, .mv (.t 5)⟩, ⟨some 13, none, .mv (.t 0)⟩, ⟨some 14, none, .len (.t 13) false⟩, ⟨some 15, none, .bin false .lss (.t 12) (.t 14)⟩] none [0, 1, 5, 15]) (.cond (.t 15) .skip (.exit 0))) (.seq (.block 1 (.seq (.reg [⟨some 18, none, .mv (.t 1)⟩, ⟨some 19, none, .mv (.t 0)⟩, ⟨some 20, none, .mv (.t 5)⟩, ⟨some 21, none, .ia (.t 19) (.t 20) 5⟩, ⟨some 22, none, .load (.t 21) (some 5)⟩, ⟨some 23, none, .mv (.t 0)⟩, ⟨some 24, none, .mv (.t 5)⟩, ⟨some 25, none, .bin false .sub (.t 24) (.k (.c (.int .i64 1)))⟩, ⟨some 26, none, .ia (.t 23) (.t 25) 5⟩, ⟨some 27, none, .load (.t 26) (some 5)⟩, ⟨some 28, none, .calli (.t 18) [(.t 22), (.t 27)]⟩] (some 10) [0, 1, 5, 28]) (.cond (.t 28) (.seq (.reg [⟨some 29, none, .mv (.t 0)⟩, ⟨some 30, none, .mv (.t 5)⟩, ⟨some 31, none, .sub (.t 29) (some (.t 30)) none 5⟩, ⟨some 6, none, .mv (.t 31)⟩] none [0, 1, 5, 6]) (.seq (.seq (.reg [⟨some 7, none, .mv (.k (.c (.int .i64 1)))⟩] none [0, 1, 5, 6, 7]) (.block 2 (.loop (.seq (.seq (.reg [⟨some 32, none, .mv (.t 7)⟩, ⟨some 33, none, .mv (.t 6)⟩, ⟨some 34, none, .len (.t 33) false⟩, ⟨some 35, none, .bin false .lss (.t 32) (.t 34)⟩] none [0, 1, 5, 6, 7, 35]) (.cond (.t 35) .skip (.exit 2))) (.seq (.block 3 (.seq (.reg [⟨some 38, none, .mv (.t 1)⟩, ⟨some 39, none, .mv (.t 6)⟩, ⟨some 40, none, .mv (.t 7)⟩, ⟨some 41, none, .ia (.t 39) (.t 40) 5⟩, ⟨some 42, none, .load (.t 41) (some 5)⟩, ⟨some 43, none, .mv (.t 6)⟩, ⟨some 44, none, .mv (.t 7)⟩, ⟨some 45, none, .bin false .sub (.t 44) (.k (.c (.int .i64 1)))⟩, ⟨some 46, none, .ia (.t 43) (.t 45) 5⟩, ⟨some 47, none, .load (.t 46) (some 5)⟩, ⟨some 48, none, .calli (.t 38) [(.t 42), (.t 47)]⟩, ⟨some 49, none, .not (.t 48)⟩] (some 10) [0, 1, 5, 6, 7, 49]) (.cond (.t 49) (.seq (.reg [⟨some 50, none, .mv (.t 0)⟩, ⟨some 51, none, .mv (.t 5)⟩, ⟨some 52, none, .mv (.t 6)⟩, ⟨some 53, none, .mv (.t 7)⟩, ⟨some 54, none, .ia (.t 52) (.t 53) 5⟩, ⟨some 55, none, .load (.t 54) (some 5)⟩, ⟨some 56, none, .ia (.t 50) (.t 51) 5⟩, ⟨none, none, .st (.t 56) (.t 55) (some 5)⟩] none [0, 1, 5, 6, 7]) (.reg [⟨some 57, none, .mv (.t 5)⟩, ⟨some 58, none, .bin false .add (.t 57) (.k (.c (.int .i64 1)))⟩, ⟨some 5, none, .mv (.t 58)⟩] none [0, 1, 5, 6, 7])) .skip))) (.reg [⟨some 36, none, .mv (.t 7)⟩, ⟨some 37, none, .bin false .add (.t 36) (.k (.c (.int .i64 1)))⟩, ⟨some 7, none, .mv (.t 37)⟩] none [0, 1, 5, 6, 7])))))) (.seq (.reg [⟨some 59, none, .mv (.t 0)⟩, ⟨some 60, none, .mv (.t 5)⟩, ⟨some 61, none, .sub (.t 59) (some (.t 60)) none 5⟩, ⟨none, none, .clr (.t 61) [(.int .i64 0), (.int .i64 0), (.str ⟨#[]⟩), (.row 1 []), (.row 5 [])]⟩] none [0, 5]) (.seq (.reg [⟨some 62, none, .mv (.t 0)⟩, ⟨some 63, none, .mv (.t 5)⟩, ⟨some 64, none, .sub (.t 62) none (some (.t 63)) 5⟩, ⟨some 4, none, .mv (.t 64)⟩] none [4]) (.gh .ret))))) .skip))) (.reg [⟨some 16, none, .mv (.t 5)⟩, ⟨some 17, none, .bin false .add (.t 16) (.k (.c (.int .i64 1)))⟩, ⟨some 5, none, .mv (.t 17)⟩] none [0, 1, 5])))))) (.seq (.reg [⟨some 65, none, .mv (.t 0)⟩, ⟨some 4, none, .mv (.t 65)⟩] none [4]) (.gh .ret))))))
theorem chk_Comp : chkX Go.Proofs.Try.prog 66 (Go.Proofs.Try.f39.body.getD .skip) x_Comp = true := by kernel_rfl
theorem rs_Comp : okRs Go.Proofs.Try.prog Go.Proofs.Try.f39.results.toList [.tmp 4] = true := by kernel_rfl
theorem call_Comp : okCallee Go.Proofs.Try.prog 39 = true := by kernel_rfl
def x_RowOnceI : X := (.seq (.reg [⟨some 1, none, .box (.t 0) (some 5)⟩, ⟨some 2, none, .alloc [(.c (.int .i64 0)), (.c (.int .i64 0)), (.c (.str ⟨#[]⟩)), (.z 1), (.z 5)]⟩, ⟨some 3, none, .mv (.k (.c (.bool false)))⟩] none [1, 2]) (.seq (.seq (.reg [⟨some 4, none, .load (.t 1) (some 5)⟩, ⟨some 5, none, .call 28 [(.t 4)]⟩, ⟨some 6, none, .not (.t 5)⟩] none [1, 2, 6]) (.cond (.t 6) (.seq (.reg [⟨some 7, none, .build [(.c (.int .i64 0)), (.c (.int .i64 0)), (.c (.str ⟨#[]⟩)), (.z 1), (.z 5)] []⟩, ⟨none, none, .st (.t 2) (.t 7) (some 5)⟩, ⟨some 3, none, .mv (.k (.c (.bool false)))⟩] none [2, 3]) .ret) .skip)) (.seq (.reg [⟨some 8, none, .fa (.t 1) 4⟩, ⟨some 9, none, .load (.t 8) none⟩, ⟨some 10, none, .call 31 [(.t 9)]⟩, ⟨some 11, none, .call 39 [(.t 10), (.k (.c (.fn 40)))]⟩, ⟨some 12, none, .call 30 [(.t 11)]⟩, ⟨some 13, none, .call 29 [(.t 12), (.k (.c (.bool true)))]⟩, ⟨some 14, none, .ext (.t 13) 0⟩, ⟨some 15, none, .ext (.t 13) 1⟩, ⟨none, none, .st (.t 2) (.t 14) (some 5)⟩, ⟨some 3, none, .mv (.t 15)⟩] none [2, 3]) .ret)))
theorem chk_RowOnceI : chkX Go.Proofs.Try.prog 16 (Go.Proofs.Try.f17.body.getD .skip) x_RowOnceI = true := by kernel_rfl
theorem rs_RowOnceI : okRs Go.Proofs.Try.prog Go.Proofs.Try.f17.results.toList [.cell 2 (some 5), .tmp 3] = true := by kernel_rfl
theorem call_RowOnceI : okCallee Go.Proofs.Try.prog 17 = true := by kernel_rfl
def x_l4Once : X := (.seq (.reg [⟨some 2, none, .mv (.k (.z 5))⟩] none [0]) (.seq (.reg [⟨some 6, none, .mv (.t 0)⟩, ⟨some 7, none, .call 25 [(.t 6)]⟩, ⟨some 3, none, .mv (.t 7)⟩] none [3]) (.seq (.reg [⟨some 8, none, .bsl 5 []⟩, ⟨some 4, none, .mv (.t 8)⟩] none [3, 4]) (.seq (.seq (.reg [⟨some 5, none, .mv (.k (.c (.int .i64 0)))⟩] none [3, 4, 5]) (.block 0 (.loop (.seq (.seq (.reg [⟨some 9, none, .mv (.t 5)⟩, ⟨some 10, none, .mv (.t 3)⟩, ⟨some 11, none, .len (.t 10) false⟩, ⟨some 12, none, .bin false .lss (.t 9) (.t 11)⟩] none [3, 4, 5, 12]) (.cond (.t 12) .skip (.exit 0))) (.seq (.block 1 (.seq (.reg [⟨some 15, none, .mv (.t 5)⟩, ⟨some 16, none, .bin false .eql (.t 15) (.k (.c (.int .i64 0)))⟩, ⟨some 17, none, .mv (.t 16)⟩, ⟨some 18, some (17, false), .mv (.t 3)⟩, ⟨some 19, some (17, false), .mv (.t 5)⟩, ⟨some 20, some (17, false), .ia (.t 18) (.t 19) 5⟩, ⟨some 21, some (17, false), .load (.t 20) (some 5)⟩, ⟨some 22, some (17, false), .mv (.t 3)⟩, ⟨some 23, some (17, false), .mv (.t 5)⟩, ⟨some 24, some (17, false), .bin false .sub (.t 23) (.k (.c (.int .i64 1)))⟩, ⟨some 25, some (17, false), .ia (.t 22) (.t 24) 5⟩, ⟨some 26, some (17, false), .load (.t 25) (some 5)⟩, ⟨some 27, some (17, false), .call 43 [(.t 21), (.t 26)]⟩, ⟨some 28, some (17, false), .not (.t 27)⟩, ⟨some 29, none, .pick (.t 17) (.k (.c (.bool true))) (.t 28)⟩] (some 12) [3, 4, 5, 29]) (.cond (.t 29) (.reg [⟨some 30, none, .mv (.t 4)⟩, ⟨some 31, none, .mv (.t 3)⟩, ⟨some 32, none, .mv (.t 5)⟩, ⟨some 33, none, .ia (.t 31) (.t 32) 5⟩, ⟨some 34, none, .load (.t 33) (some 5)⟩, ⟨some 35, none, .bsl 5 [((.t 34), (some 5))]⟩, ⟨some 36, none, .app (.t 30) (.t 35) 5 80 []⟩, ⟨some 4, none, .mv (.t 36)⟩] none [3, 4, 5]) .skip))) (.reg [⟨some 13, none, .mv (.t 5)⟩, ⟨some 14, none, .bin false .add (.t 13) (.k (.c (.int .i64 1)))⟩, ⟨some 5, none, .mv (.t 14)⟩] none [3, 4, 5])))))) (.seq (.reg [⟨some 37, none, .mv (.t 4)⟩, ⟨some 2, none, .mv (.t 37)⟩] none [2]) .ret)))))
theorem chk_l4Once : chkX Go.Proofs.Try.prog 38 (Go.Proofs.Try.f38.body.getD .skip) x_l4Once = true := by kernel_rfl
theorem rs_l4Once : okRs Go.Proofs.Try.prog Go.Proofs.Try.f38.results.toList [.tmp 2] = true := by kernel_rfl
theorem call_l4Once : okCallee Go.Proofs.Try.prog 38 = true := by kernel_rfl
def x_RowOnce : X := (.seq (.reg [⟨some 1, none, .box (.t 0) (some 5)⟩, ⟨some 2, none, .alloc [(.c (.int .i64 0)), (.c (.int .i64 0)), (.c (.str ⟨#[]⟩)), (.z 1), (.z 5)]⟩, ⟨some 3, none, .mv (.k (.c (.bool false)))⟩] none [1, 2]) (.seq (.seq (.reg [⟨some 4, none, .load (.t 1) (some 5)⟩, ⟨some 5, none, .call 22 [(.t 4)]⟩, ⟨some 6, none, .not (.t 5)⟩] none [1, 2, 6]) (.cond (.t 6) (.seq (.reg [⟨some 7, none, .build [(.c (.int .i64 0)), (.c (.int .i64 0)), (.c (.str ⟨#[]⟩)), (.z 1), (.z 5)] []⟩, ⟨none, none, .st (.t 2) (.t 7) (some 5)⟩, ⟨some 3, none, .mv (.k (.c (.bool false)))⟩] none [2, 3]) .ret) .skip)) (.seq (.reg [⟨some 8, none, .fa (.t 1) 4⟩, ⟨some 9, none, .load (.t 8) none⟩, ⟨some 10, none, .call 38 [(.t 9)]⟩, ⟨some 11, none, .call 24 [(.t 10)]⟩, ⟨some 12, none, .call 23 [(.t 11)]⟩, ⟨some 13, none, .ext (.t 12) 0⟩, ⟨some 14, none, .ext (.t 12) 1⟩, ⟨none, none, .st (.t 2) (.t 13) (some 5)⟩, ⟨some 3, none, .mv (.t 14)⟩] none [2, 3]) .ret)))
theorem chk_RowOnce : chkX Go.Proofs.Try.prog 15 (Go.Proofs.Try.f16.body.getD .skip) x_RowOnce = true := by kernel_rfl
theorem rs_RowOnce : okRs Go.Proofs.Try.prog Go.Proofs.Try.f16.results.toList [.cell 2 (some 5), .tmp 3] = true := by kernel_rfl
theorem call_RowOnce : okCallee Go.Proofs.Try.prog 16 = true := by kernel_rfl
noncomputable def spComp  : Spec := Spec.of (ι := (List T)) [true, false] (fun i => [.own 5 (encL i), .d (.one (.fn 40))]) (fun i => lenB 1000000 i.length ∧ fitL 140737488355328 i) (fun i => [.own 5 (encL (onc i))]) (fun _ => [.gone, .gone])
theorem spComp_inj : ∀ i j : (List T), (fun (i : (List T)) => ([.own 5 (encL i), .d (.one (.fn 40))] : List AV)) i = (fun (i : (List T)) => ([.own 5 (encL i), .d (.one (.fn 40))] : List AV)) j → i = j := by
  intro l l' h
  simpa [strs_eq, T.enc_eq, encL_eq, F.enc_eq, encF_eq, Tk.enc_eq, encTk_eq, Gn.enc_eq, ints_eq] using h
theorem spComp_md  : (spComp).md = [true, false] := rfl
theorem spComp_pre  (l : List T) : (spComp).pre [.own 5 (encL l), .d (.one (.fn 40))] = (lenB 1000000 l.length ∧ fitL 140737488355328 l) := Spec.of_pre' spComp_inj l
theorem spComp_alts  : (spComp).alts = none := rfl
theorem spComp_res  (l : List T) : (spComp).res [.own 5 (encL l), .d (.one (.fn 40))] = [.own 5 (encL (onc l))] := Spec.of_res spComp_inj l
theorem spComp_out  (l : List T) : (spComp).out [.own 5 (encL l), .d (.one (.fn 40))] = [.gone, .gone] := Spec.of_out spComp_inj l
set_option maxHeartbeats 2000000 in
theorem Comp_sound : Sound Go.Proofs.Try.prog 39 spComp := by
  refine sound_fam (GOK.cons call_ValSameI sameIV_sound GOK.nil) Go.Proofs.Try.func39 (c := Go.Proofs.Try.f39.body.getD .skip) rfl (n := 66) rfl chk_Comp rs_Comp (fun _ => by simp) ?_ ?_
  · exact spComp_inj
  · rintro l ⟨h1, h2⟩
    simp only [lenB] at h1
    simp only [x_Comp]
    refine gh_skip ?_
    simp only [rg, go_sem, seval, Prod.fst, encL_len]
    repeat' (first | with_reducible assumption | with_reducible refine And.intro ?_ ?_ | intro _)
    all_goals first | omega | skip
    · have e : onc l = l := onc_of_lt (by
        cases l with
        | nil => exact List.Pairwise.nil
        | cons x l => cases l with
          | nil => simp
          | cons y l => simp at h1; simp_all; omega)
      refine gh_skip ?_
      simp only [rg, go_sem, seval, e]
    refine pw_loop (ι := Nat) (fun k => l.length - k) (fun k => 1 ≤ k ∧ k ≤ l.length ∧ oncN l k = l.take k)
      (fun k => ⟨[(0, .q (.own 1000000066)), (1, .q (.c (.fn 40))), (5, .q (.c (.int .i64 k)))], [], [(1000000066, 5, encL l)]⟩) 1 ⟨Nat.le_refl _, by omega, ?_⟩ (Le.refl _) ?_
    · obtain ⟨x, hx⟩ : ∃ x, l[0]? = some x := ⟨l[0]'(by omega), List.getElem?_eq_getElem _⟩
      rw [oncN_new hx (.inl rfl), take_snoc hx]; simp [oncN]
    · rintro k ⟨g1, g2, g3⟩
      rcases Nat.lt_or_ge k l.length with hlt | hge
      · obtain ⟨x, hx, hd, hmem⟩ := drop_at hlt
        obtain ⟨y, hy, _, hmem'⟩ := drop_at (l := l) (i := k - 1) (by omega)
        have b1 : ((k : Int) < (l.length : Int)) = True := eq_true (by omega)
        have b3 : ((k : Int) - 1).toNat = k - 1 := by omega
        have a1 := encL_at hx
        have a2 := encL_at hy
        have f1 := T.enc_len x
        have f2 := T.enc_len y
        have f3 := fitL_mem h2 x hmem
        have f4 := fitL_mem h2 y hmem'
        simp only [rg, go_sem, seval, Prod.fst, b1, b3, a1, a2, f1, f2, encL_len, spSameIV_md, spSameIV_pre, spSameIV_alts, spSameIV_res, spSameIV_out, spSameIV_md, spSameIV_pre, spSameIV_ne, ↓spSameIV_all, spSameIV_all]
        repeat' (first | with_reducible assumption | with_reducible refine And.intro ?_ ?_ | intro _)
        all_goals first | omega | assumption | skip
        · rename_i hxy _
          have hxy' : x = y := hxy
          subst hxy'
          have e0 : oncN l (k + 1) = l.take k := by rw [oncN_old hx (by omega) hy, g3]
          refine pw_loop (ι := Nat) (fun z => l.length - k - z) (fun z => 1 ≤ z ∧ z ≤ l.length - k ∧ (oncN l (k + z)).length < k + z)
            (fun z => ⟨[(0, .q (.own 1000000066)), (1, .q (.c (.fn 40))), (5, .q (.c (.int .i64 (oncN l (k + z)).length))), (6, .q (.vw 1000000066 5 k (l.length - k))), (7, .q (.c (.int .i64 z)))], [], [(1000000066, 5, encL (oncN l (k + z) ++ l.drop (oncN l (k + z)).length))]⟩) 1 ⟨Nat.le_refl _, by omega, ?_⟩ ?_ ?_
          · rw [e0]; simp; omega
          · refine Le.of_eq ?_
            have e1 : (l.take k).length = k := by simp; omega
            rw [e0, e1, List.take_append_drop]
            rfl
          · rintro z ⟨c1, c2, c3⟩
            generalize ho : oncN l (k + z) = o at c3 ⊢
            have rd : ∀ j, o.length ≤ j → (o ++ l.drop o.length)[j]? = l[j]? := fun j hj => by
              rw [List.getElem?_append_right hj, List.getElem?_drop]; congr 1; omega
            have d1 : (o ++ l.drop o.length).length = l.length := by simp; omega
            rcases Nat.lt_or_ge z (l.length - k) with hz | hz
            · obtain ⟨x', hx', _, hm⟩ := drop_at (l := l) (i := k + z) (by omega)
              obtain ⟨y', hy', _, hm'⟩ := drop_at (l := l) (i := k + (z - 1)) (by omega)
              have b4 : ((z : Int) < ((l.length - k : Nat) : Int)) = True := eq_true (by omega)
              have b5 : ((z : Int) - 1).toNat = z - 1 := by omega
              have a3 := encL_at ((rd (k + z) (by omega)).trans hx')
              have a4 := encL_at ((rd (k + (z - 1)) (by omega)).trans hy')
              have f5 := T.enc_len x'
              have f6 := T.enc_len y'
              have f7 := fitL_mem h2 x' hm
              have f8 := fitL_mem h2 y' hm'
              obtain ⟨w, hw, hwd, _⟩ := drop_at (l := l) (i := o.length) (by omega)
              have a5 := encL_at ((rd o.length (Nat.le_refl _)).trans hw)
              have e8 : (o ++ l.drop o.length).set o.length x' = o ++ [x'] ++ l.drop (o ++ [x']).length := by
                rw [hwd, List.set_append_right _ _ (Nat.le_refl _)]; simp
              simp only [rg, go_sem, seval, Prod.fst, b4, b5, a3, a4, a5, f5, f6, d1, T.enc_drop5, encL_set, e8, List.append_nil, encL_len, spSameIV_md, spSameIV_pre, spSameIV_alts, spSameIV_res, spSameIV_out, spSameIV_md, spSameIV_pre, spSameIV_ne, ↓spSameIV_all, spSameIV_all]
              repeat' (first | with_reducible assumption | with_reducible refine And.intro ?_ ?_ | intro _)
              all_goals first | omega | assumption | skip
              · have hne : ¬ x' = y' := by assumption
                have e9 : oncN l (k + (z + 1)) = o ++ [x'] := by
                  rw [← ho]
                  exact oncN_new (i := k + z) hx' (.inr (by rw [show k + z - 1 = k + (z - 1) by omega, hy']; intro h; exact hne (by rw [Option.some.inj h])))
                refine ⟨z + 1, ⟨by omega, by omega, by rw [e9]; simp; omega⟩, by omega, Le.of_eq ?_⟩
                rw [e9]; simp
              · have heq' : x' = y' := by first | assumption | exact Classical.not_not.1 (by assumption)
                have e9 : oncN l (k + (z + 1)) = o := by
                  rw [← ho]
                  exact oncN_old (i := k + z) hx' (by omega) (by rw [show k + z - 1 = k + (z - 1) by omega, hy', heq'])
                refine ⟨z + 1, ⟨by omega, by omega, by rw [e9]; omega⟩, by omega, Le.of_eq ?_⟩
                rw [e9]; simp
            · obtain rfl : z = l.length - k := by omega
              have b4 : ((((l.length - k : Nat) : Int)) < ((l.length - k : Nat) : Int)) = False := eq_false (by omega)
              have k1 : (encL (o ++ l.drop o.length)).take o.length = encL o := by rw [encL_takeL]; congr 1; exact List.take_left' rfl
              have k2 : o.length + (l.length - o.length) = l.length := by omega
              have k3 : (encL (o ++ l.drop o.length)).drop l.length = [] := List.drop_of_length_le (by rw [encL_len, d1]; exact Nat.le_refl _)
              have k4 : (encL o ++ List.replicate (l.length - o.length) [C.int .i64 0, C.int .i64 0, C.str ⟨#[]⟩, C.row 1 [], C.row 5 []]).length = l.length := by rw [List.length_append, encL_len, List.length_replicate]; omega
              have k5 : (encL o ++ List.replicate (l.length - o.length) [C.int .i64 0, C.int .i64 0, C.str ⟨#[]⟩, C.row 1 [], C.row 5 []]).take o.length = encL o := List.take_left' (encL_len o)
              have k6 : onc l = o := by rw [← ho]; unfold onc; congr 1; omega
              simp only [rg, go_sem, seval, Prod.fst, b4, d1, k1, k2, k3, k4, List.append_nil, encL_len]
              repeat' (first | with_reducible assumption | with_reducible refine And.intro ?_ ?_ | intro _)
              all_goals first | omega | assumption | skip
              refine gh_le (Le.cut (t := 4) (r := 1000000066) (d := 77) (sz := 5) (n := o.length) rfl rfl (by rw [k4]; omega) (by decide)) ?_
              simp only [rg, go_sem, seval, Prod.fst, k5, k6]
        · rename_i hxy _
          exact ⟨k + 1, ⟨by omega, by omega, by rw [oncN_new hx (.inr (by rw [hy]; intro h; exact hxy (Option.some.inj h).symm)), take_snoc hx, g3]⟩, by omega, Le.refl _⟩
      · obtain rfl : k = l.length := by omega
        have b1 : ((l.length : Int) < (l.length : Int)) = False := eq_false (by omega)
        have e : onc l = l := by unfold onc; rw [g3, List.take_length]
        simp only [rg, go_sem, seval, Prod.fst, b1, encL_len]
        repeat' (first | with_reducible assumption | with_reducible refine And.intro ?_ ?_ | intro _)
        all_goals first | omega | skip
        refine gh_skip ?_
        simp only [rg, go_sem, seval, e]
noncomputable instance (x : T) (l : List T) : Decidable (x ∈ l) := Classical.propDecidable _
noncomputable def spL4Once  : Spec := Spec.of (ι := (List T)) [false] (fun i => [.d (.one (.row 5 (encL i)))]) (fun i => lenB 1000000 i.length ∧ fitL 140737488355328 i) (fun i => [.own 5 (encL (onceL i))]) (fun _ => [.gone])
theorem spL4Once_inj : ∀ i j : (List T), (fun (i : (List T)) => ([.d (.one (.row 5 (encL i)))] : List AV)) i = (fun (i : (List T)) => ([.d (.one (.row 5 (encL i)))] : List AV)) j → i = j := by
  intro l l' h
  simpa [strs_eq, T.enc_eq, encL_eq, F.enc_eq, encF_eq, Tk.enc_eq, encTk_eq, Gn.enc_eq, ints_eq] using h
theorem spL4Once_md  : (spL4Once).md = [false] := rfl
theorem spL4Once_pre  (l : List T) : (spL4Once).pre [.d (.one (.row 5 (encL l)))] = (lenB 1000000 l.length ∧ fitL 140737488355328 l) := Spec.of_pre' spL4Once_inj l
theorem spL4Once_alts  : (spL4Once).alts = none := rfl
theorem spL4Once_res  (l : List T) : (spL4Once).res [.d (.one (.row 5 (encL l)))] = [.own 5 (encL (onceL l))] := Spec.of_res spL4Once_inj l
theorem spL4Once_out  (l : List T) : (spL4Once).out [.d (.one (.row 5 (encL l)))] = [.gone] := Spec.of_out spL4Once_inj l
theorem sizeL_perm {a b : List T} (h : a.Perm b) : sizeL a = sizeL b := by
  induction h with
  | nil => rfl
  | cons x _ ih => simp only [sizeL, ih]
  | swap x y l => simp only [sizeL]; omega
  | trans _ _ h1 h2 => exact h1.trans h2
theorem sizeL_sub {a b : List T} (h : a.Sublist b) : sizeL a ≤ sizeL b := by
  induction h with
  | slnil => exact Int.le_refl _
  | cons x _ ih =>
    have h3 := manyT_le x 0
    simp only [sizeL]; omega
  | cons_cons x _ ih => simp only [sizeL]; omega
theorem l4Once_sound : Sound Go.Proofs.Try.prog 38 spL4Once := by
  refine sound_fam (GOK.cons call_l4Sort l4Sort_sound (GOK.cons call_ValSame sameV_sound GOK.nil)) Go.Proofs.Try.func38 (c := Go.Proofs.Try.f38.body.getD .skip) rfl (n := 38) rfl chk_l4Once rs_l4Once (fun _ => by simp) ?_ ?_
  · exact spL4Once_inj
  · rintro l ⟨h1, h2⟩
    simp only [lenB] at h1
    have h3 : fitL 140737488355328 (sortC cmpT l) := fitL_perm h2 (sortC_perm cmpT_is l)
    have h4 : (sortC cmpT l).length = l.length := (sortC_perm cmpT_is l).length_eq
    have e : onceL l = onc (sortC cmpT l) := rfl
    simp only [x_l4Once, rg, go_sem, seval, encL_len, e, spL4Sort_md, spL4Sort_pre, spL4Sort_alts, spL4Sort_res, spL4Sort_out]
    generalize sortC cmpT l = s at h3 h4
    repeat' (first | with_reducible assumption | with_reducible refine And.intro ?_ ?_ | intro _)
    all_goals first | omega | assumption | skip
    refine pw_loop (ι := Nat) (fun i => s.length - i) (fun i => i ≤ s.length)
      (fun i => ⟨[(3, .q (.own 7)), (4, .q (.own 80)), (5, .q (.c (.int .i64 i)))], [], [(7, 5, encL s), (80, 5, encL (oncN s i))]⟩) 0 (Nat.zero_le _) ?_ ?_
    · refine Le.own (t := 4) (d := 80) (sz := 5) (by decide) (by simp) (by simp [Q.killO]) ?_
      simp [PV.map, Q.killO]
    · intro i hi
      rcases Nat.lt_or_ge i s.length with hlt | hge
      · obtain ⟨x, hx, _, hmem⟩ := drop_at hlt
        obtain ⟨y, hy, _, hmem'⟩ := drop_at (l := s) (i := i - 1) (by omega)
        have b1 : ((i : Int) < (s.length : Int)) = True := eq_true (by omega)
        have b3 : ((i : Int) - 1).toNat = i - 1 := by omega
        have b2 : ((i : Int) = 0) = (i = 0) := propext (by omega)
        have a1 := encL_at hx
        have a2 := encL_at hy
        have f1 := T.enc_len x
        have f2 := T.enc_len y
        have f3 := fitL_mem h3 x hmem
        have f4 := fitL_mem h3 y hmem'
        have f5 := oncN_len s i
        by_cases c : i = 0
        · subst c
          simp only [rg, go_sem, seval, Prod.fst, b1, b2, b3, a1, a2, f1, f2, encL_len, encL_appL, encL_one, spSameV_md, spSameV_pre, spSameV_alts, spSameV_res, spSameV_out, spSameV_md, spSameV_pre, spSameV_ne, ↓spSameV_all, spSameV_all]
          repeat' (first | with_reducible assumption | with_reducible refine And.intro ?_ ?_ | intro _)
          all_goals first | omega | assumption | skip
          refine ⟨1, by omega, by omega, Le.of_eq ?_⟩
          rw [oncN_new (i := 0) hx (.inl rfl)]; rfl
        · simp only [rg, go_sem, seval, Prod.fst, b1, b2, b3, a1, a2, f1, f2, c, encL_len, encL_appL, encL_one, spSameV_md, spSameV_pre, spSameV_alts, spSameV_res, spSameV_out, spSameV_md, spSameV_pre, spSameV_ne, ↓spSameV_all, spSameV_all]
          repeat' (first | with_reducible assumption | with_reducible refine And.intro ?_ ?_ | intro _)
          all_goals first | omega | assumption | skip
          · have hne : ¬ x = y := by assumption
            refine ⟨i + 1, by omega, by omega, Le.of_eq ?_⟩
            rw [oncN_new hx (.inr (by rw [hy]; intro h; exact hne (by rw [Option.some.inj h])))]; rfl
          · have heq : x = y := by first | assumption | exact Classical.not_not.1 (by assumption)
            refine ⟨i + 1, by omega, by omega, Le.of_eq ?_⟩
            rw [oncN_old hx (by omega) (by rw [hy, heq])]; rfl
      · have b1 : ((i : Int) < (s.length : Int)) = False := eq_false (by omega)
        obtain rfl : i = s.length := by omega
        simp only [rg, go_sem, seval, b1, encL_len]
        repeat' (first | with_reducible assumption | with_reducible refine And.intro ?_ ?_ | intro _)
        all_goals first | omega | assumption | rfl | skip
open Classical in
noncomputable def onceT (v : T) : T := if rowT v then .mk 5 0 ⟨#[]⟩ [] (onceL v.list) else T.zero
theorem onceT_row {l : List T} (h : okT (.mk 5 0 ⟨#[]⟩ [] l)) : onceT (.mk 5 0 ⟨#[]⟩ [] l) = .mk 5 0 ⟨#[]⟩ [] (onceL l) := if_pos (rowT_row.2 h)
theorem onceT_not {v : T} (h : ¬ rowT v) : onceT v = T.zero := if_neg h
theorem once_ok {l : List T} (h : okT (.mk 5 0 ⟨#[]⟩ [] l)) : okT (.mk 5 0 ⟨#[]⟩ [] (onceL l)) := okT_row_sub (okT_row_perm h (sortC_perm cmpT_is l)) (onc_sub _)
theorem rowT_fit {B : Int} (h0 : 0 ≤ B) {l : List T} (h1 : lenB B l.length) (h2 : fitL B l) : (T.mk 5 0 ⟨#[]⟩ [] l).fit B :=
  ⟨by unfold i64; omega, by unfold i64; omega, by unfold lenB; exact h0, ⟨by unfold lenB; exact h0, by simp⟩, h1, h2⟩
theorem onceL_fit {B : Int} {l : List T} (h : fitL B l) : fitL B (onceL l) := fitL_of fun t ht => fitL_mem h t ((onceL_mem l t).1 ht)
theorem onceL_size (l : List T) : sizeL (onceL l) ≤ sizeL l := by have := sizeL_sub (onc_sub (sortC cmpT l)); rw [sizeL_perm (sortC_perm cmpT_is l)] at this; exact this
end Go.Proofs.Pw
