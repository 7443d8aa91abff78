/- Rows: each tree once; whether a tree is there. -/
import Derived.Test.YtaldfcjengfibaaPwT13
import Derived.Test.YtaldfcjengfibaaPwT14
import Derived.Test.YtaldfcjengfibaaPwT12
import Derived.Test.YtaldfcjengfibaaPwT10
set_option linter.unusedSimpArgs false
set_option linter.unusedVariables false
set_option linter.unusedSimpArgs false
set_option maxRecDepth 20000
namespace Go.Proofs.Pw
set_option linter.unusedSectionVars false
variable [Globs]
def x_Comp : X := (.gh (.seq (.reg [⟨some 4, none, .mv (.k (.z 5))⟩] none [0, 1]) (.seq (.seq (.reg [⟨some 8, none, .mv (.t 0)⟩, ⟨some 9, none, .len (.t 8) false⟩, ⟨some 10, none, .bin false .lss (.t 9) (.k (.c (.int .i64 2)))⟩] none [0, 1, 10]) (.cond (.t 10) (.seq (.reg [⟨some 11, none, .mv (.t 0)⟩, ⟨some 4, none, .mv (.t 11)⟩] none [4]) (.gh .ret)) .skip)) (.seq (.seq (.reg [⟨some 5, none, .mv (.k (.c (.int .i64 1)))⟩] none [0, 1, 5]) (.block 0 (.loop (.seq (.seq (.reg [⟨some 12, none, .mv (.t 5)⟩, ⟨some 13, none, .mv (.t 0)⟩, ⟨some 14, none, .len (.t 13) false⟩, ⟨some 15, none, .bin false .lss (.t 12) (.t 14)⟩] none [0, 1, 5, 15]) (.cond (.t 15) .skip (.exit 0))) (.seq (.block 1 (.seq (.reg [⟨some 18, none, .mv (.t 1)⟩, ⟨some 19, none, .mv (.t 0)⟩, ⟨some 20, none, .mv (.t 5)⟩, ⟨some 21, none, .ia (.t 19) (.t 20) 5⟩, ⟨some 22, none, .load (.t 21) (some 5)⟩, ⟨some 23, none, .mv (.t 0)⟩, ⟨some 24, none, .mv (.t 5)⟩, ⟨some 25, none, .bin false .sub (.t 24) (.k (.c (.int .i64 1)))⟩, ⟨some 26, none, .ia (.t 23) (.t 25) 5⟩, ⟨some 27, none, .load (.t 26) (some 5)⟩, ⟨some 28, none, .calli (.t 18) [(.t 22), (.t 27)]⟩] (some 10) [0, 1, 5, 28]) (.cond (.t 28) (.seq (.reg [⟨some 29, none, .mv (.t 0)⟩, ⟨some 30, none, .mv (.t 5)⟩, ⟨some 31, none, .sub (.t 29) (some (.t 30)) none 5⟩, ⟨some 6, none, .mv (.t 31)⟩] none [0, 1, 5, 6]) (.seq (.seq (.reg [⟨some 7, none, .mv (.k (.c (.int .i64 1)))⟩] none [0, 1, 5, 6, 7]) (.block 2 (.loop (.seq (.seq (.reg [⟨some 32, none, .mv (.t 7)⟩, ⟨some 33, none, .mv (.t 6)⟩, ⟨some 34, none, .len (.t 33) false⟩, ⟨some 35, none, .bin false .lss (.t 32) (.t 34)⟩] none [0, 1, 5, 6, 7, 35]) (.cond (.t 35) .skip (.exit 2))) (.seq (.block 3 (.seq (.reg [⟨some 38, none, .mv (.t 1)⟩, ⟨some 39, none, .mv (.t 6)⟩, ⟨some 40, none, .mv (.t 7)⟩, ⟨some 41, none, .ia (.t 39) (.t 40) 5⟩, ⟨some 42, none, .load (.t 41) (some 5)⟩, ⟨some 43, none, .mv (.t 6)⟩, ⟨some 44, none, .mv (.t 7)⟩, ⟨some 45, none, .bin false .sub (.t 44) (.k (.c (.int .i64 1)))⟩, ⟨some 46, none, .ia (.t 43) (.t 45) 5⟩, ⟨some 47, none, .load (.t 46) (some 5)⟩, ⟨some 48, none, .calli (.t 38) [(.t 42), (.t 47)]⟩, ⟨some 49, none, .not (.t 48)⟩] (some 10) [0, 1, 5, 6, 7, 49]) (.cond (.t 49) (.seq (.reg [⟨some 50, none, .mv (.t 0)⟩, ⟨some 51, none, .mv (.t 5)⟩, ⟨some 52, none, .mv (.t 6)⟩, ⟨some 53, none, .mv (.t 7)⟩, ⟨some 54, none, .ia (.t 52) (.t 53) 5⟩, ⟨some 55, none, .load (.t 54) (some 5)⟩, ⟨some 56, none, .ia (.t 50) (.t 51) 5⟩, ⟨none, none, .st (.t 56) (.t 55) (some 5)⟩] none [0, 1, 5, 6, 7]) (.reg [⟨some 57, none, .mv (.t 5)⟩, ⟨some 58, none, .bin false .add (.t 57) (.k (.c (.int .i64 1)))⟩, ⟨some 5, none, .mv (.t 58)⟩] none [0, 1, 5, 6, 7])) .skip))) (.reg [⟨some 36, none, .mv (.t 7)⟩, ⟨some 37, none, .bin false .add (.t 36) (.k (.c (.int .i64 1)))⟩, ⟨some 7, none, .mv (.t 37)⟩] none [0, 1, 5, 6, 7])))))) (.seq (.reg [⟨some 59, none, .mv (.t 0)⟩, ⟨some 60, none, .mv (.t 5)⟩, ⟨some 61, none, .sub (.t 59) (some (.t 60)) none 5⟩, ⟨none, none, .clr (.t 61) [(.int .i64 0), (.int .i64 0), (.str ⟨#[]⟩), (.row 1 []), (.row 5 [])]⟩] none [0, 5]) (.seq (.reg [⟨some 62, none, .mv (.t 0)⟩, ⟨some 63, none, .mv (.t 5)⟩, ⟨some 64, none, .sub (.t 62) none (some (.t 63)) 5⟩, ⟨some 4, none, .mv (.t 64)⟩] none [4]) (.gh .ret))))) .skip))) (.reg [⟨some 16, none, .mv (.t 5)⟩, ⟨some 17, none, .bin false .add (.t 16) (.k (.c (.int .i64 1)))⟩, ⟨some 5, none, .mv (.t 17)⟩] none [0, 1, 5])))))) (.seq (.reg [⟨some 65, none, .mv (.t 0)⟩, ⟨some 4, none, .mv (.t 65)⟩] none [4]) (.gh .ret))))))
theorem chk_Comp : chkX Go.Proofs.Try.prog 66 (Go.Proofs.Try.f51.body.getD .skip) x_Comp = true := by kernel_rfl
theorem rs_Comp : okRs Go.Proofs.Try.prog Go.Proofs.Try.f51.results.toList [.tmp 4] = true := by kernel_rfl
theorem call_Comp : okCallee Go.Proofs.Try.prog 51 = true := by kernel_rfl
def x_l4Once : X := (.seq (.reg [⟨some 2, none, .mv (.k (.z 5))⟩] none [0]) (.seq (.reg [⟨some 6, none, .mv (.t 0)⟩, ⟨some 7, none, .call 77 [(.t 6)]⟩, ⟨some 3, none, .mv (.t 7)⟩] none [3]) (.seq (.reg [⟨some 8, none, .bsl 5 []⟩, ⟨some 4, none, .mv (.t 8)⟩] none [3, 4]) (.seq (.seq (.reg [⟨some 5, none, .mv (.k (.c (.int .i64 0)))⟩] none [3, 4, 5]) (.block 0 (.loop (.seq (.seq (.reg [⟨some 9, none, .mv (.t 5)⟩, ⟨some 10, none, .mv (.t 3)⟩, ⟨some 11, none, .len (.t 10) false⟩, ⟨some 12, none, .bin false .lss (.t 9) (.t 11)⟩] none [3, 4, 5, 12]) (.cond (.t 12) .skip (.exit 0))) (.seq (.block 1 (.seq (.reg [⟨some 15, none, .mv (.t 5)⟩, ⟨some 16, none, .bin false .eql (.t 15) (.k (.c (.int .i64 0)))⟩, ⟨some 17, none, .mv (.t 16)⟩, ⟨some 18, some (17, false), .mv (.t 3)⟩, ⟨some 19, some (17, false), .mv (.t 5)⟩, ⟨some 20, some (17, false), .ia (.t 18) (.t 19) 5⟩, ⟨some 21, some (17, false), .load (.t 20) (some 5)⟩, ⟨some 22, some (17, false), .mv (.t 3)⟩, ⟨some 23, some (17, false), .mv (.t 5)⟩, ⟨some 24, some (17, false), .bin false .sub (.t 23) (.k (.c (.int .i64 1)))⟩, ⟨some 25, some (17, false), .ia (.t 22) (.t 24) 5⟩, ⟨some 26, some (17, false), .load (.t 25) (some 5)⟩, ⟨some 27, some (17, false), .call 55 [(.t 21), (.t 26)]⟩, ⟨some 28, some (17, false), .not (.t 27)⟩, ⟨some 29, none, .pick (.t 17) (.k (.c (.bool true))) (.t 28)⟩] (some 12) [3, 4, 5, 29]) (.cond (.t 29) (.reg [⟨some 30, none, .mv (.t 4)⟩, ⟨some 31, none, .mv (.t 3)⟩, ⟨some 32, none, .mv (.t 5)⟩, ⟨some 33, none, .ia (.t 31) (.t 32) 5⟩, ⟨some 34, none, .load (.t 33) (some 5)⟩, ⟨some 35, none, .bsl 5 [((.t 34), (some 5))]⟩, ⟨some 36, none, .app (.t 30) (.t 35) 5 80 []⟩, ⟨some 4, none, .mv (.t 36)⟩] none [3, 4, 5]) .skip))) (.reg [⟨some 13, none, .mv (.t 5)⟩, ⟨some 14, none, .bin false .add (.t 13) (.k (.c (.int .i64 1)))⟩, ⟨some 5, none, .mv (.t 14)⟩] none [3, 4, 5])))))) (.seq (.reg [⟨some 37, none, .mv (.t 4)⟩, ⟨some 2, none, .mv (.t 37)⟩] none [2]) .ret)))))
theorem chk_l4Once : chkX Go.Proofs.Try.prog 38 (Go.Proofs.Try.f54.body.getD .skip) x_l4Once = true := by kernel_rfl
theorem rs_l4Once : okRs Go.Proofs.Try.prog Go.Proofs.Try.f54.results.toList [.tmp 2] = true := by kernel_rfl
theorem call_l4Once : okCallee Go.Proofs.Try.prog 54 = true := by kernel_rfl
noncomputable def spComp  : Spec := Spec.of (ι := (List T)) [true, false] (fun i => [.own 5 (encL i), .d (.one (.fn 11))]) (fun i => lenB 1000000 i.length ∧ fitL 140737488355328 i) (fun i => [.own 5 (encL (onc i))]) (fun _ => [.gone, .gone])
theorem spComp_inj : ∀ i j : (List T), (fun (i : (List T)) => ([.own 5 (encL i), .d (.one (.fn 11))] : List AV)) i = (fun (i : (List T)) => ([.own 5 (encL i), .d (.one (.fn 11))] : List AV)) j → i = j := by
  intro l l' h
  simpa [strs_eq, T.enc_eq, encL_eq, F.enc_eq, encF_eq, Tk.enc_eq, encTk_eq, Gn.enc_eq, ints_eq] using h
theorem spComp_md  : (spComp).md = [true, false] := rfl
theorem spComp_pre  (l : List T) : (spComp).pre [.own 5 (encL l), .d (.one (.fn 11))] = (lenB 1000000 l.length ∧ fitL 140737488355328 l) := Spec.of_pre' spComp_inj l
theorem spComp_alts  : (spComp).alts = none := rfl
theorem spComp_res  (l : List T) : (spComp).res [.own 5 (encL l), .d (.one (.fn 11))] = [.own 5 (encL (onc l))] := Spec.of_res spComp_inj l
theorem spComp_out  (l : List T) : (spComp).out [.own 5 (encL l), .d (.one (.fn 11))] = [.gone, .gone] := Spec.of_out spComp_inj l
set_option maxHeartbeats 2000000 in
theorem Comp_sound : Sound Go.Proofs.Try.prog 51 spComp := by
  refine sound_fam (GOK.cons call_ValSameI sameIV_sound GOK.nil) Go.Proofs.Try.func51 (c := Go.Proofs.Try.f51.body.getD .skip) rfl (n := 66) rfl chk_Comp rs_Comp (fun _ => by simp) ?_ ?_
  · exact spComp_inj
  · rintro l ⟨h1, h2⟩
    simp only [lenB] at h1
    simp only [x_Comp]
    refine gh_skip ?_
    simp only [rg, go_sem, seval, Prod.fst, encL_len]
    repeat' (first | with_reducible assumption | with_reducible refine And.intro ?_ ?_ | intro _)
    all_goals first | omega | skip
    · have e : onc l = l := onc_of_lt (by
        cases l with
        | nil => exact List.Pairwise.nil
        | cons x l => cases l with
          | nil => simp
          | cons y l => simp at h1; simp_all; omega)
      refine gh_skip ?_
      simp only [rg, go_sem, seval, e]
    refine pw_loop (ι := Nat) (fun k => l.length - k) (fun k => 1 ≤ k ∧ k ≤ l.length ∧ oncN l k = l.take k)
      (fun k => ⟨[(0, .q (.own 1000000066)), (1, .q (.c (.fn 11))), (5, .q (.c (.int .i64 k)))], [], [(1000000066, 5, encL l)]⟩) 1 ⟨Nat.le_refl _, by omega, ?_⟩ (Le.refl _) ?_
    · obtain ⟨x, hx⟩ : ∃ x, l[0]? = some x := ⟨l[0]'(by omega), List.getElem?_eq_getElem _⟩
      rw [oncN_new hx (.inl rfl), take_snoc hx]; simp [oncN]
    · rintro k ⟨g1, g2, g3⟩
      rcases Nat.lt_or_ge k l.length with hlt | hge
      · obtain ⟨x, hx, hd, hmem⟩ := drop_at hlt
        obtain ⟨y, hy, _, hmem'⟩ := drop_at (l := l) (i := k - 1) (by omega)
        have b1 : ((k : Int) < (l.length : Int)) = True := eq_true (by omega)
        have b3 : ((k : Int) - 1).toNat = k - 1 := by omega
        have a1 := encL_at hx
        have a2 := encL_at hy
        have f1 := T.enc_len x
        have f2 := T.enc_len y
        have f3 := fitL_mem h2 x hmem
        have f4 := fitL_mem h2 y hmem'
        simp only [rg, go_sem, seval, Prod.fst, b1, b3, a1, a2, f1, f2, encL_len, spSameIV_md, spSameIV_pre, spSameIV_alts, spSameIV_res, spSameIV_out, spSameIV_md, spSameIV_pre, spSameIV_ne, ↓spSameIV_all, spSameIV_all]
        repeat' (first | with_reducible assumption | with_reducible refine And.intro ?_ ?_ | intro _)
        all_goals first | omega | assumption | skip
        · rename_i hxy _
          have hxy' : x = y := hxy
          subst hxy'
          have e0 : oncN l (k + 1) = l.take k := by rw [oncN_old hx (by omega) hy, g3]
          refine pw_loop (ι := Nat) (fun z => l.length - k - z) (fun z => 1 ≤ z ∧ z ≤ l.length - k ∧ (oncN l (k + z)).length < k + z)
            (fun z => ⟨[(0, .q (.own 1000000066)), (1, .q (.c (.fn 11))), (5, .q (.c (.int .i64 (oncN l (k + z)).length))), (6, .q (.vw 1000000066 5 k (l.length - k))), (7, .q (.c (.int .i64 z)))], [], [(1000000066, 5, encL (oncN l (k + z) ++ l.drop (oncN l (k + z)).length))]⟩) 1 ⟨Nat.le_refl _, by omega, ?_⟩ ?_ ?_
          · rw [e0]; simp; omega
          · refine Le.of_eq ?_
            have e1 : (l.take k).length = k := by simp; omega
            rw [e0, e1, List.take_append_drop]
            rfl
          · rintro z ⟨c1, c2, c3⟩
            generalize ho : oncN l (k + z) = o at c3 ⊢
            have rd : ∀ j, o.length ≤ j → (o ++ l.drop o.length)[j]? = l[j]? := fun j hj => by
              rw [List.getElem?_append_right hj, List.getElem?_drop]; congr 1; omega
            have d1 : (o ++ l.drop o.length).length = l.length := by simp; omega
            rcases Nat.lt_or_ge z (l.length - k) with hz | hz
            · obtain ⟨x', hx', _, hm⟩ := drop_at (l := l) (i := k + z) (by omega)
              obtain ⟨y', hy', _, hm'⟩ := drop_at (l := l) (i := k + (z - 1)) (by omega)
              have b4 : ((z : Int) < ((l.length - k : Nat) : Int)) = True := eq_true (by omega)
              have b5 : ((z : Int) - 1).toNat = z - 1 := by omega
              have a3 := encL_at ((rd (k + z) (by omega)).trans hx')
              have a4 := encL_at ((rd (k + (z - 1)) (by omega)).trans hy')
              have f5 := T.enc_len x'
              have f6 := T.enc_len y'
              have f7 := fitL_mem h2 x' hm
              have f8 := fitL_mem h2 y' hm'
              obtain ⟨w, hw, hwd, _⟩ := drop_at (l := l) (i := o.length) (by omega)
              have a5 := encL_at ((rd o.length (Nat.le_refl _)).trans hw)
              have e8 : (o ++ l.drop o.length).set o.length x' = o ++ [x'] ++ l.drop (o ++ [x']).length := by
                rw [hwd, List.set_append_right _ _ (Nat.le_refl _)]; simp
              simp only [rg, go_sem, seval, Prod.fst, b4, b5, a3, a4, a5, f5, f6, d1, T.enc_drop5, encL_set, e8, List.append_nil, encL_len, spSameIV_md, spSameIV_pre, spSameIV_alts, spSameIV_res, spSameIV_out, spSameIV_md, spSameIV_pre, spSameIV_ne, ↓spSameIV_all, spSameIV_all]
              repeat' (first | with_reducible assumption | with_reducible refine And.intro ?_ ?_ | intro _)
              all_goals first | omega | assumption | skip
              · have hne : ¬ x' = y' := by assumption
                have e9 : oncN l (k + (z + 1)) = o ++ [x'] := by
                  rw [← ho]
                  exact oncN_new (i := k + z) hx' (.inr (by rw [show k + z - 1 = k + (z - 1) by omega, hy']; intro h; exact hne (by rw [Option.some.inj h])))
                refine ⟨z + 1, ⟨by omega, by omega, by rw [e9]; simp; omega⟩, by omega, Le.of_eq ?_⟩
                rw [e9]; simp
              · have heq' : x' = y' := by first | assumption | exact Classical.not_not.1 (by assumption)
                have e9 : oncN l (k + (z + 1)) = o := by
                  rw [← ho]
                  exact oncN_old (i := k + z) hx' (by omega) (by rw [show k + z - 1 = k + (z - 1) by omega, hy', heq'])
                refine ⟨z + 1, ⟨by omega, by omega, by rw [e9]; omega⟩, by omega, Le.of_eq ?_⟩
                rw [e9]; simp
            · obtain rfl : z = l.length - k := by omega
              have b4 : ((((l.length - k : Nat) : Int)) < ((l.length - k : Nat) : Int)) = False := eq_false (by omega)
              have k1 : (encL (o ++ l.drop o.length)).take o.length = encL o := by rw [encL_takeL]; congr 1; exact List.take_left' rfl
              have k2 : o.length + (l.length - o.length) = l.length := by omega
              have k3 : (encL (o ++ l.drop o.length)).drop l.length = [] := List.drop_of_length_le (by rw [encL_len, d1]; exact Nat.le_refl _)
              have k4 : (encL o ++ List.replicate (l.length - o.length) [C.int .i64 0, C.int .i64 0, C.str ⟨#[]⟩, C.row 1 [], C.row 5 []]).length = l.length := by rw [List.length_append, encL_len, List.length_replicate]; omega
              have k5 : (encL o ++ List.replicate (l.length - o.length) [C.int .i64 0, C.int .i64 0, C.str ⟨#[]⟩, C.row 1 [], C.row 5 []]).take o.length = encL o := List.take_left' (encL_len o)
              have k6 : onc l = o := by rw [← ho]; unfold onc; congr 1; omega
              simp only [rg, go_sem, seval, Prod.fst, b4, d1, k1, k2, k3, k4, List.append_nil, encL_len]
              repeat' (first | with_reducible assumption | with_reducible refine And.intro ?_ ?_ | intro _)
              all_goals first | omega | assumption | skip
              refine gh_le (Le.cut (t := 4) (r := 1000000066) (d := 77) (sz := 5) (n := o.length) rfl rfl (by rw [k4]; omega) (by decide)) ?_
              simp only [rg, go_sem, seval, Prod.fst, k5, k6]
        · rename_i hxy _
          exact ⟨k + 1, ⟨by omega, by omega, by rw [oncN_new hx (.inr (by rw [hy]; intro h; exact hxy (Option.some.inj h).symm)), take_snoc hx, g3]⟩, by omega, Le.refl _⟩
      · obtain rfl : k = l.length := by omega
        have b1 : ((l.length : Int) < (l.length : Int)) = False := eq_false (by omega)
        have e : onc l = l := by unfold onc; rw [g3, List.take_length]
        simp only [rg, go_sem, seval, Prod.fst, b1, encL_len]
        repeat' (first | with_reducible assumption | with_reducible refine And.intro ?_ ?_ | intro _)
        all_goals first | omega | skip
        refine gh_skip ?_
        simp only [rg, go_sem, seval, e]
noncomputable instance (x : T) (l : List T) : Decidable (x ∈ l) := Classical.propDecidable _
noncomputable def spL4Once  : Spec := Spec.of (ι := (List T)) [false] (fun i => [.d (.one (.row 5 (encL i)))]) (fun i => lenB 1000000 i.length ∧ fitL 140737488355328 i) (fun i => [.own 5 (encL (onceL i))]) (fun _ => [.gone])
theorem spL4Once_inj : ∀ i j : (List T), (fun (i : (List T)) => ([.d (.one (.row 5 (encL i)))] : List AV)) i = (fun (i : (List T)) => ([.d (.one (.row 5 (encL i)))] : List AV)) j → i = j := by
  intro l l' h
  simpa [strs_eq, T.enc_eq, encL_eq, F.enc_eq, encF_eq, Tk.enc_eq, encTk_eq, Gn.enc_eq, ints_eq] using h
theorem spL4Once_md  : (spL4Once).md = [false] := rfl
theorem spL4Once_pre  (l : List T) : (spL4Once).pre [.d (.one (.row 5 (encL l)))] = (lenB 1000000 l.length ∧ fitL 140737488355328 l) := Spec.of_pre' spL4Once_inj l
theorem spL4Once_alts  : (spL4Once).alts = none := rfl
theorem spL4Once_res  (l : List T) : (spL4Once).res [.d (.one (.row 5 (encL l)))] = [.own 5 (encL (onceL l))] := Spec.of_res spL4Once_inj l
theorem spL4Once_out  (l : List T) : (spL4Once).out [.d (.one (.row 5 (encL l)))] = [.gone] := Spec.of_out spL4Once_inj l
theorem l4Once_sound : Sound Go.Proofs.Try.prog 54 spL4Once := by
  refine sound_fam (GOK.cons call_l4Sort l4Sort_sound (GOK.cons call_ValSame sameV_sound GOK.nil)) Go.Proofs.Try.func54 (c := Go.Proofs.Try.f54.body.getD .skip) rfl (n := 38) rfl chk_l4Once rs_l4Once (fun _ => by simp) ?_ ?_
  · exact spL4Once_inj
  · rintro l ⟨h1, h2⟩
    simp only [lenB] at h1
    have h3 : fitL 140737488355328 (sortC cmpT l) := fitL_perm h2 (sortC_perm cmpT_is l)
    have h4 : (sortC cmpT l).length = l.length := (sortC_perm cmpT_is l).length_eq
    have e : onceL l = onc (sortC cmpT l) := rfl
    simp only [x_l4Once, rg, go_sem, seval, encL_len, e, spL4Sort_md, spL4Sort_pre, spL4Sort_alts, spL4Sort_res, spL4Sort_out]
    generalize sortC cmpT l = s at h3 h4
    repeat' (first | with_reducible assumption | with_reducible refine And.intro ?_ ?_ | intro _)
    all_goals first | omega | assumption | skip
    refine pw_loop (ι := Nat) (fun i => s.length - i) (fun i => i ≤ s.length)
      (fun i => ⟨[(3, .q (.own 7)), (4, .q (.own 80)), (5, .q (.c (.int .i64 i)))], [], [(7, 5, encL s), (80, 5, encL (oncN s i))]⟩) 0 (Nat.zero_le _) ?_ ?_
    · refine Le.own (t := 4) (d := 80) (sz := 5) (by decide) (by simp) (by simp [Q.killO]) ?_
      simp [PV.map, Q.killO]
    · intro i hi
      rcases Nat.lt_or_ge i s.length with hlt | hge
      · obtain ⟨x, hx, _, hmem⟩ := drop_at hlt
        obtain ⟨y, hy, _, hmem'⟩ := drop_at (l := s) (i := i - 1) (by omega)
        have b1 : ((i : Int) < (s.length : Int)) = True := eq_true (by omega)
        have b3 : ((i : Int) - 1).toNat = i - 1 := by omega
        have b2 : ((i : Int) = 0) = (i = 0) := propext (by omega)
        have a1 := encL_at hx
        have a2 := encL_at hy
        have f1 := T.enc_len x
        have f2 := T.enc_len y
        have f3 := fitL_mem h3 x hmem
        have f4 := fitL_mem h3 y hmem'
        have f5 := oncN_len s i
        by_cases c : i = 0
        · subst c
          simp only [rg, go_sem, seval, Prod.fst, b1, b2, b3, a1, a2, f1, f2, encL_len, encL_appL, encL_one, spSameV_md, spSameV_pre, spSameV_alts, spSameV_res, spSameV_out, spSameV_md, spSameV_pre, spSameV_ne, ↓spSameV_all, spSameV_all]
          repeat' (first | with_reducible assumption | with_reducible refine And.intro ?_ ?_ | intro _)
          all_goals first | omega | assumption | skip
          refine ⟨1, by omega, by omega, Le.of_eq ?_⟩
          rw [oncN_new (i := 0) hx (.inl rfl)]; rfl
        · simp only [rg, go_sem, seval, Prod.fst, b1, b2, b3, a1, a2, f1, f2, c, encL_len, encL_appL, encL_one, spSameV_md, spSameV_pre, spSameV_alts, spSameV_res, spSameV_out, spSameV_md, spSameV_pre, spSameV_ne, ↓spSameV_all, spSameV_all]
          repeat' (first | with_reducible assumption | with_reducible refine And.intro ?_ ?_ | intro _)
          all_goals first | omega | assumption | skip
          · have hne : ¬ x = y := by assumption
            refine ⟨i + 1, by omega, by omega, Le.of_eq ?_⟩
            rw [oncN_new hx (.inr (by rw [hy]; intro h; exact hne (by rw [Option.some.inj h])))]; rfl
          · have heq : x = y := by first | assumption | exact Classical.not_not.1 (by assumption)
            refine ⟨i + 1, by omega, by omega, Le.of_eq ?_⟩
            rw [oncN_old hx (by omega) (by rw [hy, heq])]; rfl
      · have b1 : ((i : Int) < (s.length : Int)) = False := eq_false (by omega)
        obtain rfl : i = s.length := by omega
        simp only [rg, go_sem, seval, b1, encL_len]
        repeat' (first | with_reducible assumption | with_reducible refine And.intro ?_ ?_ | intro _)
        all_goals first | omega | assumption | rfl | skip
theorem rowT_fit {B : Int} (h0 : 0 ≤ B) {l : List T} (h1 : lenB B l.length) (h2 : fitL B l) : (T.mk 5 0 ⟨#[]⟩ [] l).fit B :=
  ⟨by unfold i64; omega, by unfold i64; omega, by unfold lenB; exact h0, ⟨by unfold lenB; exact h0, by simp⟩, h1, h2⟩
theorem onceL_fit {B : Int} {l : List T} (h : fitL B l) : fitL B (onceL l) := fitL_of fun t ht => fitL_mem h t ((onceL_mem l t).1 ht)
end Go.Proofs.Pw
/- Rows, grouped by what stands under a key. -/
namespace Go.Proofs.Pw
set_option linter.unusedSectionVars false
variable [Globs]
/-- Where in a list of keys a key is, from i on. -/
def idxS (x : ByteArray) : Nat → List ByteArray → Int
  | _, [] => -1
  | i, y :: r => if x = y then i else idxS x (i + 1) r
theorem idxS_rng {x : ByteArray} : ∀ {l : List ByteArray} {i : Nat}, -1 ≤ idxS x i l ∧ idxS x i l < i + l.length
  | [], i => by simp [idxS]; omega
  | y :: r, i => by
    have := idxS_rng (x := x) (l := r) (i := i + 1)
    simp only [idxS, List.length_cons]
    split <;> omega
open Classical in
/-- What stands under a key. -/
noncomputable def getT (key : ByteArray) (v : T) : T := if v.kind = 6 ∧ 0 ≤ idxS key 0 v.keys then v.list.getD (idxS key 0 v.keys).toNat T.zero else T.zero
def getOk (v : T) : Prop := v.kind = 6 ∨ v.kind = 0
noncomputable instance (v : T) : Decidable (getOk v) := Classical.propDecidable _
theorem okT_keys {k n : Int} {s : ByteArray} {ks : List ByteArray} {l : List T} (h : okT (.mk k n s ks l)) (hk : k = 6) : ks.length = l.length := by
  have := h.1; simp only [formT] at this; exact (this.2.2.2.2.2.2.2.2.2.2.1 hk).1
theorem okT_none {v : T} (h : okT v) (hk : v.kind = 0) : v = T.zero := by
  obtain ⟨k, n, s, ks, l⟩ := v
  have := h.1; simp only [formT] at this
  simp only [T.kind] at hk
  obtain ⟨_, h1, h2, h3, h4, _⟩ := this
  have e1 : n = 0 := by omega
  have e2 : s = ⟨#[]⟩ := by rcases h2 with h | h; omega; exact h
  have e3 : ks = [] := by rcases h3 with h | h; omega; exact h
  have e4 : l = [] := by rcases h4 with h | h; omega; exact h
  subst e1 e2 e3 e4 hk; rfl
theorem getT_mem {key : ByteArray} {v : T} (h : okT v) : getT key v = T.zero ∨ getT key v ∈ v.list := by
  unfold getT
  split
  · rename_i c
    obtain ⟨k, n, s, ks, l⟩ := v
    have hl := okT_keys h c.1
    have hr := idxS_rng (x := key) (l := ks) (i := 0)
    simp only [T.keys, T.list] at c ⊢
    have hlt : (idxS key 0 ks).toNat < l.length := by omega
    right
    rw [List.getD_eq_getElem?_getD, List.getElem?_eq_getElem hlt]; simp
  · exact .inl rfl
theorem okT_zero' : okT T.zero := ⟨by simp [T.zero, formT, formL, okS_nil], by simp [T.zero, manyT, manyL]⟩
theorem getT_ok {key : ByteArray} {v : T} (h : okT v) : okT (getT key v) := by
  rcases getT_mem (key := key) h with e | e
  · rw [e]; exact okT_zero'
  · obtain ⟨k, n, s, ks, l⟩ := v; exact okT_elem h e
theorem fitL_in {B : Int} : ∀ {l : List T}, fitL B l → ∀ t ∈ l, t.fit B
  | _ :: _, h, t, ht => by
    rcases List.mem_cons.1 ht with rfl | ht
    · exact h.1
    · exact fitL_in h.2 t ht
theorem getT_fit {B : Int} (h0 : 0 ≤ B) {key : ByteArray} {v : T} (h : okT v) (hf : v.fit B) : (getT key v).fit B := by
  rcases getT_mem (key := key) h with e | e
  · rw [e]; exact ⟨by unfold i64; omega, by unfold i64; omega, by unfold lenB; exact h0, ⟨by unfold lenB; exact h0, by simp⟩, by unfold lenB; exact h0, trivial⟩
  · obtain ⟨k, n, s, ks, l⟩ := v; exact fitL_in hf.2.2.2.2.2 _ e
open Classical in
noncomputable def pickL (key : ByteArray) (l : List T) (y : T) : List T := l.filter fun x => decide (getT key x = y)
noncomputable def marks (key : ByteArray) (l : List T) : List T := l.map (getT key)
noncomputable def byL (key : ByteArray) (l : List T) : List T := (onceL (marks key l)).map fun y => T.mk 5 0 ⟨#[]⟩ [] (pickL key l y)
def byOk (v : T) (key : ByteArray) : Prop := rowT v ∧ okS key ∧ ∀ x ∈ v.list, getOk x
noncomputable instance (v : T) (key : ByteArray) : Decidable (byOk v key) := Classical.propDecidable _
noncomputable def byT (v : T) (key : ByteArray) : T := if byOk v key then toldT true (.mk 5 0 ⟨#[]⟩ [] (byL key v.list)) else T.zero
theorem pickL_take {key : ByteArray} {l : List T} {i : Nat} {x y : T} (hx : l[i]? = some x) : pickL key (l.take (i + 1)) y = pickL key (l.take i) y ++ (if getT key x = y then [x] else []) := by
  unfold pickL
  rw [take_snoc hx, List.filter_append]
  congr 1
  by_cases h : getT key x = y <;> simp [h]
theorem pickL_mem {key : ByteArray} {l : List T} {x y : T} : x ∈ pickL key l y ↔ x ∈ l ∧ getT key x = y := by simp [pickL]
/-- Each is counted once. -/
theorem count_aux {key : ByteArray} {x : T} : ∀ {ys : List T}, ys.Pairwise (fun a b => cmpT a b < 0) → ∀ l : List T,
    (ys.map fun y => (pickL key (x :: l) y).length).sum = (ys.map fun y => (pickL key l y).length).sum + (if getT key x ∈ ys then 1 else 0)
  | [], _, l => by simp
  | y :: ys, h, l => by
    have ih := count_aux (key := key) (x := x) (List.pairwise_cons.1 h).2 l
    have hn : getT key x = y → getT key x ∉ ys := fun e k => by
      have := (List.pairwise_cons.1 h).1 _ k
      rw [e, cmpT_is.self] at this; omega
    simp only [List.map_cons, List.sum_cons, ih]
    by_cases e : getT key x = y
    · have h1 : (pickL key (x :: l) y).length = (pickL key l y).length + 1 := by simp [pickL, e]
      rw [h1, if_neg (hn e), if_pos (by rw [e]; simp)]; omega
    · have h1 : (pickL key (x :: l) y).length = (pickL key l y).length := by simp [pickL, e]
      rw [h1]
      by_cases m : getT key x ∈ ys
      · rw [if_pos m, if_pos (by simp [m])]; omega
      · rw [if_neg m, if_neg (by simp [m, e])]; omega
theorem count_by {key : ByteArray} {ys : List T} (h : ys.Pairwise (fun a b => cmpT a b < 0)) : ∀ {l : List T}, (∀ x ∈ l, getT key x ∈ ys) → (ys.map fun y => (pickL key l y).length).sum = l.length
  | [], _ => by induction ys with
    | nil => rfl
    | cons y ys ih => simp [pickL] at ih ⊢; exact ih (List.pairwise_cons.1 h).2
  | x :: l, hm => by
    rw [count_aux h, count_by h (fun x hx => hm x (by simp [hx])), if_pos (hm x (by simp))]; simp
theorem onceL_pw (l : List T) : (onceL l).Pairwise (fun a b => cmpT a b < 0) := onc_lt (sortC_srt cmpT_is l)
theorem byL_count (key : ByteArray) (l : List T) : ((byL key l).map fun g => g.list.length).sum = l.length := by
  have := count_by (key := key) (onceL_pw (marks key l)) (l := l) (fun x hx => (onceL_mem _ _).2 (List.mem_map.2 ⟨x, hx, rfl⟩))
  rw [← this]; unfold byL; rw [List.map_map]; rfl
theorem byL_len (key : ByteArray) (l : List T) : (byL key l).length ≤ l.length := by
  unfold byL; rw [List.length_map]; have := onceL_len (marks key l); unfold marks at this; rwa [List.length_map] at this
/-- The rows of a row put together. -/
def flatL : List T → List T
  | [] => []
  | x :: l => (if x.kind = 5 then x.list else [x]) ++ flatL l
theorem flatL_app (a b : List T) : flatL (a ++ b) = flatL a ++ flatL b := by
  induction a with
  | nil => rfl
  | cons x a ih => simp only [List.cons_append, flatL, ih, List.append_assoc]
theorem flatL_len {l : List T} (h : ∀ x ∈ l, x.kind = 5) : (flatL l).length = (l.map fun g => g.list.length).sum := by
  induction l with
  | nil => rfl
  | cons x l ih => simp only [flatL, if_pos (h x (by simp)), List.length_append, List.map_cons, List.sum_cons]; rw [ih (fun y hy => h y (by simp [hy]))]
noncomputable def flatT (v : T) : T := if rowT v then toldT true (.mk 5 0 ⟨#[]⟩ [] (flatL v.list)) else T.zero
theorem size_aux {key : ByteArray} {x : T} : ∀ {ys : List T}, ys.Pairwise (fun a b => cmpT a b < 0) → ∀ l : List T,
    (ys.map fun y => sizeL (pickL key (x :: l) y)).sum = (ys.map fun y => sizeL (pickL key l y)).sum + (if getT key x ∈ ys then sizeT x else 0)
  | [], _, l => by simp
  | y :: ys, h, l => by
    have ih := size_aux (key := key) (x := x) (List.pairwise_cons.1 h).2 l
    have hn : getT key x = y → getT key x ∉ ys := fun e k => by
      have := (List.pairwise_cons.1 h).1 _ k
      rw [e, cmpT_is.self] at this; omega
    simp only [List.map_cons, List.sum_cons, ih]
    by_cases e : getT key x = y
    · have h1 : sizeL (pickL key (x :: l) y) = sizeT x + sizeL (pickL key l y) := by simp [pickL, e, sizeL]
      rw [h1, if_neg (hn e), if_pos (by rw [e]; simp)]; omega
    · have h1 : sizeL (pickL key (x :: l) y) = sizeL (pickL key l y) := by simp [pickL, e]
      rw [h1]
      by_cases m : getT key x ∈ ys
      · rw [if_pos m, if_pos (by simp [m])]; omega
      · rw [if_neg m, if_neg (by simp [m, e])]; omega
theorem size_by {key : ByteArray} {ys : List T} (h : ys.Pairwise (fun a b => cmpT a b < 0)) : ∀ {l : List T}, (ys.map fun y => sizeL (pickL key l y)).sum ≤ sizeL l
  | [] => by
    have : ∀ zs : List T, (zs.map fun y => sizeL (pickL key [] y)).sum = 0 := fun zs => by
      induction zs with
      | nil => rfl
      | cons y zs ih => simp only [List.map_cons, List.sum_cons, ih]; simp [pickL, sizeL]
    rw [this]; simp [sizeL]
  | x :: l => by
    have := size_by (key := key) h (l := l)
    have h3 := manyT_le x 0
    rw [size_aux h]; simp only [sizeL]
    split <;> omega
theorem sizeL_rows (ys : List T) (f : T → List T) : sizeL (ys.map fun y => T.mk 5 0 ⟨#[]⟩ [] (f y)) = ys.length + (ys.map fun y => sizeL (f y)).sum := by
  induction ys with
  | nil => simp [sizeL]
  | cons y ys ih => simp only [List.map_cons, sizeL, sizeT, ih, List.sum_cons, List.length_cons]; omega
theorem byL_size (key : ByteArray) (l : List T) : sizeL (byL key l) ≤ l.length + sizeL l := by
  unfold byL
  rw [sizeL_rows]
  have h1 := size_by (key := key) (onceL_pw (marks key l)) (l := l)
  have h2 := onceL_len (marks key l)
  have h3 : (marks key l).length = l.length := List.length_map ..
  omega
theorem pickL_len (key : ByteArray) (l : List T) (y : T) : (pickL key l y).length ≤ l.length := List.length_filter_le _ _
theorem pickL_ne {key : ByteArray} {l : List T} {y : T} (h : y ∈ marks key l) : pickL key l y ≠ [] := by
  obtain ⟨x, hx, rfl⟩ := List.mem_map.1 h
  exact List.ne_nil_of_mem (pickL_mem.2 ⟨hx, rfl⟩)
theorem byL_fit {B : Int} (h0 : 0 ≤ B) {key : ByteArray} {l : List T} (h1 : lenB B l.length) (h2 : fitL B l) : fitL B (byL key l) := by
  refine fitL_of fun g hg => ?_
  obtain ⟨y, _, rfl⟩ := List.mem_map.1 hg
  refine ⟨by unfold i64; omega, by unfold i64; omega, by unfold lenB; exact h0, ⟨by unfold lenB; exact h0, by simp⟩, ?_, fitL_of fun t ht => fitL_in h2 t (pickL_mem.1 ht).1⟩
  have := pickL_len key l y
  unfold lenB at h1 ⊢; omega
theorem marks_fit {B : Int} (h0 : 0 ≤ B) {key : ByteArray} {l : List T} (ho : ∀ x ∈ l, okT x) (h2 : fitL B l) : fitL B (marks key l) := by
  refine fitL_of fun g hg => ?_
  obtain ⟨x, hx, rfl⟩ := List.mem_map.1 hg
  exact getT_fit h0 (ho x hx) (fitL_in h2 x hx)
theorem marks_take {key : ByteArray} {l : List T} {i : Nat} {x : T} (hx : l[i]? = some x) : marks key (l.take (i + 1)) = marks key (l.take i) ++ [getT key x] := by
  unfold marks; rw [take_snoc hx, List.map_append]; rfl
theorem flatL_take {l : List T} {i : Nat} {x : T} (hx : l[i]? = some x) : flatL (l.take (i + 1)) = flatL (l.take i) ++ (if x.kind = 5 then x.list else [x]) := by
  rw [take_snoc hx, flatL_app]; congr 1; simp [flatL]
theorem flatL_le {l : List T} (i : Nat) : (flatL (l.take i)).length ≤ (flatL l).length := by
  have : flatL l = flatL (l.take i) ++ flatL (l.drop i) := by rw [← flatL_app, List.take_append_drop]
  rw [this]; simp
theorem flatL_fit {B : Int} {l : List T} (h : fitL B l) : fitL B (flatL l) := by
  refine fitL_of fun t ht => ?_
  induction l with
  | nil => simp [flatL] at ht
  | cons x l ih =>
    simp only [flatL] at ht
    rcases List.mem_append.1 ht with ht | ht
    · split at ht
      · obtain ⟨k, n, s, ks, li⟩ := x; exact fitL_in h.1.2.2.2.2.2 t ht
      · simp only [List.mem_singleton] at ht; rw [ht]; exact h.1
    · exact ih h.2 ht
open Classical in
/-- Keys and trees, a key put in its place. -/
noncomputable def putS (key : ByteArray) (x : T) : Bool → List ByteArray → List T → List ByteArray × List T
  | done, k :: ks, t :: l =>
    let d := !done && !decide (sl k key)
    let r := putS key x (done || d) ks l
    ((if d then [key] else []) ++ (if k = key then [] else [k]) ++ r.1, (if d then [x] else []) ++ (if k = key then [] else [t]) ++ r.2)
  | done, _, _ => if done then ([], []) else ([key], [x])
theorem putS_len (key : ByteArray) (x : T) : ∀ (done : Bool) (ks : List ByteArray) (l : List T), (putS key x done ks l).1.length ≤ ks.length + (if done then 0 else 1) ∧ (putS key x done ks l).2.length ≤ l.length + (if done then 0 else 1)
  | done, k :: ks, t :: l => by
    have ih := putS_len key x (done || (!done && !decide (sl k key))) ks l
    simp only [putS]
    by_cases d : k = key
    · subst d
      have hs : ¬ sl k k := sl_irrefl k
      cases done <;> simp [hs] at ih ⊢ <;> omega
    · by_cases c : sl k key <;> cases done <;> simp [c, d] at ih ⊢ <;> omega
  | done, [], l => by cases done <;> simp [putS]
  | done, k :: ks, [] => by cases done <;> simp [putS]
theorem putS_mem (key : ByteArray) (x : T) : ∀ (done : Bool) (ks : List ByteArray) (l : List T), (∀ s ∈ (putS key x done ks l).1, s = key ∨ s ∈ ks) ∧ (∀ t ∈ (putS key x done ks l).2, t = x ∨ t ∈ l)
  | done, k :: ks, t :: l => by
    have ih := putS_mem key x (done || (!done && !decide (sl k key))) ks l
    simp only [putS]
    refine ⟨fun s hs => ?_, fun s hs => ?_⟩
    · rcases List.mem_append.1 hs with hs | hs
      · rcases List.mem_append.1 hs with hs | hs
        · split at hs <;> simp at hs; exact .inl hs
        · split at hs <;> simp at hs; exact .inr (by simp [hs])
      · rcases ih.1 s hs with h | h
        · exact .inl h
        · exact .inr (by simp [h])
    · rcases List.mem_append.1 hs with hs | hs
      · rcases List.mem_append.1 hs with hs | hs
        · split at hs <;> simp at hs; exact .inl hs
        · split at hs <;> simp at hs; exact .inr (by simp [hs])
      · rcases ih.2 s hs with h | h
        · exact .inl h
        · exact .inr (by simp [h])
  | done, [], l => by cases done <;> simp [putS]
  | done, k :: ks, [] => by cases done <;> simp [putS]
theorem putS_size (key : ByteArray) (x : T) : ∀ (done : Bool) (ks : List ByteArray) (l : List T), sizeL (putS key x done ks l).2 ≤ sizeL l + (if done then 0 else sizeT x)
  | done, k :: ks, t :: l => by
    have ih := putS_size key x (done || (!done && !decide (sl k key))) ks l
    have h3 := manyT_le t 0
    have h4 := manyT_le x 0
    simp only [putS]
    by_cases d : k = key
    · subst d
      have hs : ¬ sl k k := sl_irrefl k
      cases done <;> simp [hs, sizeL] at ih ⊢ <;> omega
    · by_cases c : sl k key <;> cases done <;> simp [c, d, sizeL] at ih ⊢ <;> omega
  | done, [], l => by
    have h := manyL_le l 0
    cases done <;> simp [putS, sizeL] <;> omega
  | done, k :: ks, [] => by cases done <;> simp [putS, sizeL]
end Go.Proofs.Pw
/- Parts under a key; rows grouped by them; rows put together. -/
set_option linter.unusedSimpArgs false
set_option maxRecDepth 20000
namespace Go.Proofs.Pw
set_option linter.unusedSectionVars false
variable [Globs]
def x_IdxS : X := (.seq (.reg [⟨some 4, none, .mv (.k (.c (.int .i64 0)))⟩] none [0, 1]) (.seq (.seq (.reg [⟨some 6, none, .mv (.t 0)⟩, ⟨some 7, none, .len (.t 6) false⟩, ⟨some 8, none, .mv (.k (.c (.int .i64 0)))⟩] none [0, 1, 7, 8]) (.block 0 (.loop (.seq (.reg [⟨some 9, none, .bin false .lss (.t 8) (.t 7)⟩] none [0, 1, 7, 8, 9]) (.seq (.cond (.t 9) .skip (.exit 0)) (.seq (.block 1 (.seq (.reg [⟨some 10, none, .mv (.t 8)⟩, ⟨some 5, none, .mv (.t 10)⟩] none [0, 1, 5, 7, 8]) (.seq (.reg [⟨some 11, none, .mv (.t 1)⟩, ⟨some 12, none, .mv (.t 0)⟩, ⟨some 13, none, .mv (.t 5)⟩, ⟨some 14, none, .ia (.t 12) (.t 13) 1⟩, ⟨some 15, none, .load (.t 14) none⟩, ⟨some 16, none, .bin false .eql (.t 11) (.t 15)⟩] none [0, 1, 5, 7, 8, 16]) (.cond (.t 16) (.seq (.reg [⟨some 17, none, .mv (.t 5)⟩, ⟨some 4, none, .mv (.t 17)⟩] none [4]) .ret) .skip)))) (.reg [⟨some 18, none, .bin false .add (.t 8) (.k (.c (.int .i64 1)))⟩, ⟨some 8, none, .mv (.t 18)⟩] none [0, 1, 7, 8]))))))) (.seq (.reg [⟨some 4, none, .mv (.k (.c (.int .i64 (-1))))⟩] none [4]) .ret)))
theorem chk_IdxS : chkX Go.Proofs.Try.prog 19 (Go.Proofs.Try.f75.body.getD .skip) x_IdxS = true := by kernel_rfl
theorem rs_IdxS : okRs Go.Proofs.Try.prog Go.Proofs.Try.f75.results.toList [.tmp 4] = true := by kernel_rfl
theorem call_IdxS : okCallee Go.Proofs.Try.prog 75 = true := by kernel_rfl
def x_l2Key : X := (.seq (.reg [⟨some 2, none, .box (.t 0) (some 5)⟩, ⟨some 4, none, .mv (.k (.c (.int .i64 0)))⟩] none [1, 2]) (.seq (.seq (.reg [⟨some 5, none, .mv (.k (.c (.int .i64 0)))⟩] none [1, 2, 5]) (.block 0 (.loop (.seq (.seq (.reg [⟨some 6, none, .mv (.t 5)⟩, ⟨some 7, none, .fa (.t 2) 3⟩, ⟨some 8, none, .load (.t 7) none⟩, ⟨some 9, none, .len (.t 8) false⟩, ⟨some 10, none, .bin false .lss (.t 6) (.t 9)⟩] none [1, 2, 5, 10]) (.cond (.t 10) .skip (.exit 0))) (.seq (.block 1 (.seq (.reg [⟨some 13, none, .fa (.t 2) 3⟩, ⟨some 14, none, .load (.t 13) none⟩, ⟨some 15, none, .mv (.t 5)⟩, ⟨some 16, none, .ia (.t 14) (.t 15) 1⟩, ⟨some 17, none, .load (.t 16) none⟩, ⟨some 18, none, .mv (.t 1)⟩, ⟨some 19, none, .bin false .eql (.t 17) (.t 18)⟩] none [1, 2, 5, 19]) (.cond (.t 19) (.seq (.reg [⟨some 20, none, .mv (.t 5)⟩, ⟨some 4, none, .mv (.t 20)⟩] none [4]) .ret) .skip))) (.reg [⟨some 11, none, .mv (.t 5)⟩, ⟨some 12, none, .bin false .add (.t 11) (.k (.c (.int .i64 1)))⟩, ⟨some 5, none, .mv (.t 12)⟩] none [1, 2, 5])))))) (.seq (.reg [⟨some 4, none, .mv (.k (.c (.int .i64 (-1))))⟩] none [4]) .ret)))
theorem chk_l2Key : chkX Go.Proofs.Try.prog 21 (Go.Proofs.Try.f76.body.getD .skip) x_l2Key = true := by kernel_rfl
theorem rs_l2Key : okRs Go.Proofs.Try.prog Go.Proofs.Try.f76.results.toList [.tmp 4] = true := by kernel_rfl
theorem call_l2Key : okCallee Go.Proofs.Try.prog 76 = true := by kernel_rfl
def x_get : X := (.seq (.reg [⟨some 2, none, .box (.t 0) (some 5)⟩, ⟨some 4, none, .alloc [(.c (.int .i64 0)), (.c (.int .i64 0)), (.c (.str ⟨#[]⟩)), (.z 1), (.z 5)]⟩, ⟨some 5, none, .mv (.k (.c (.bool false)))⟩] none [1, 2, 4]) (.seq (.seq (.reg [⟨some 7, none, .fa (.t 2) 0⟩, ⟨some 8, none, .load (.t 7) none⟩, ⟨some 9, none, .bin false .eql (.t 8) (.k (.c (.int .i64 6)))⟩] none [1, 2, 4, 9]) (.cond (.t 9) (.seq (.reg [⟨some 10, none, .fa (.t 2) 3⟩, ⟨some 11, none, .load (.t 10) none⟩, ⟨some 12, none, .mv (.t 1)⟩, ⟨some 13, none, .call 75 [(.t 11), (.t 12)]⟩, ⟨some 6, none, .mv (.t 13)⟩] none [2, 4, 6]) (.seq (.reg [⟨some 14, none, .mv (.t 6)⟩, ⟨some 15, none, .bin false .geq (.t 14) (.k (.c (.int .i64 0)))⟩] none [2, 4, 6, 15]) (.cond (.t 15) (.seq (.reg [⟨some 16, none, .fa (.t 2) 4⟩, ⟨some 17, none, .load (.t 16) none⟩, ⟨some 18, none, .mv (.t 6)⟩, ⟨some 19, none, .ia (.t 17) (.t 18) 5⟩, ⟨some 20, none, .load (.t 19) (some 5)⟩, ⟨none, none, .st (.t 4) (.t 20) (some 5)⟩, ⟨some 5, none, .mv (.k (.c (.bool true)))⟩] none [4, 5]) .ret) .skip))) .skip)) (.seq (.mix [⟨some 21, none, .build [(.c (.int .i64 0)), (.c (.int .i64 0)), (.c (.str ⟨#[]⟩)), (.z 1), (.z 5)] []⟩, ⟨some 22, none, .fa (.t 2) 0⟩, ⟨some 23, none, .load (.t 22) none⟩, ⟨some 24, none, .bin false .eql (.t 23) (.k (.c (.int .i64 6)))⟩, ⟨some 25, none, .mv (.t 24)⟩, ⟨some 26, some (25, false), .fa (.t 2) 0⟩, ⟨some 27, some (25, false), .load (.t 26) none⟩, ⟨some 28, some (25, false), .bin false .eql (.t 27) (.k (.c (.int .i64 0)))⟩, ⟨some 29, none, .pick (.t 25) (.k (.c (.bool true))) (.t 28)⟩, ⟨none, none, .st (.t 4) (.t 21) (some 5)⟩] [⟨some 5, none, .mv (.t 29)⟩] [[], [], [], [], [], [], [], [], [], [6]] [4, 5]) .ret)))
theorem chk_get : chkX Go.Proofs.Try.prog 30 (Go.Proofs.Try.f50.body.getD .skip) x_get = true := by kernel_rfl
theorem rs_get : okRs Go.Proofs.Try.prog Go.Proofs.Try.f50.results.toList [.cell 4 (some 5), .tmp 5] = true := by kernel_rfl
theorem call_get : okCallee Go.Proofs.Try.prog 50 = true := by kernel_rfl
def x_l2Get : X := (.seq (.reg [⟨some 2, none, .box (.t 0) (some 5)⟩, ⟨some 4, none, .alloc [(.c (.int .i64 0)), (.c (.int .i64 0)), (.c (.str ⟨#[]⟩)), (.z 1), (.z 5)]⟩, ⟨some 5, none, .mv (.k (.c (.bool false)))⟩] none [1, 2, 4]) (.seq (.seq (.reg [⟨some 7, none, .fa (.t 2) 0⟩, ⟨some 8, none, .load (.t 7) none⟩, ⟨some 9, none, .bin false .eql (.t 8) (.k (.c (.int .i64 0)))⟩] none [1, 2, 4, 9]) (.cond (.t 9) (.seq (.reg [⟨some 10, none, .load (.t 2) (some 5)⟩, ⟨none, none, .st (.t 4) (.t 10) (some 5)⟩, ⟨some 5, none, .mv (.k (.c (.bool true)))⟩] none [4, 5]) .ret) .skip)) (.seq (.seq (.reg [⟨some 11, none, .fa (.t 2) 0⟩, ⟨some 12, none, .load (.t 11) none⟩, ⟨some 13, none, .bin false .neq (.t 12) (.k (.c (.int .i64 6)))⟩] none [1, 2, 4, 13]) (.cond (.t 13) (.seq (.reg [⟨some 14, none, .build [(.c (.int .i64 0)), (.c (.int .i64 0)), (.c (.str ⟨#[]⟩)), (.z 1), (.z 5)] []⟩, ⟨none, none, .st (.t 4) (.t 14) (some 5)⟩, ⟨some 5, none, .mv (.k (.c (.bool false)))⟩] none [4, 5]) .ret) .skip)) (.seq (.reg [⟨some 15, none, .load (.t 2) (some 5)⟩, ⟨some 16, none, .mv (.t 1)⟩, ⟨some 17, none, .call 76 [(.t 15), (.t 16)]⟩, ⟨some 6, none, .mv (.t 17)⟩] none [2, 4, 6]) (.seq (.seq (.reg [⟨some 18, none, .mv (.t 6)⟩, ⟨some 19, none, .bin false .lss (.t 18) (.k (.c (.int .i64 0)))⟩] none [2, 4, 6, 19]) (.cond (.t 19) (.seq (.reg [⟨some 20, none, .build [(.c (.int .i64 0)), (.c (.int .i64 0)), (.c (.str ⟨#[]⟩)), (.z 1), (.z 5)] []⟩, ⟨none, none, .st (.t 4) (.t 20) (some 5)⟩, ⟨some 5, none, .mv (.k (.c (.bool true)))⟩] none [4, 5]) .ret) .skip)) (.seq (.reg [⟨some 21, none, .fa (.t 2) 4⟩, ⟨some 22, none, .load (.t 21) none⟩, ⟨some 23, none, .mv (.t 6)⟩, ⟨some 24, none, .ia (.t 22) (.t 23) 5⟩, ⟨some 25, none, .load (.t 24) (some 5)⟩, ⟨none, none, .st (.t 4) (.t 25) (some 5)⟩, ⟨some 5, none, .mv (.k (.c (.bool true)))⟩] none [4, 5]) .ret))))))
theorem chk_l2Get : chkX Go.Proofs.Try.prog 26 (Go.Proofs.Try.f53.body.getD .skip) x_l2Get = true := by kernel_rfl
theorem rs_l2Get : okRs Go.Proofs.Try.prog Go.Proofs.Try.f53.results.toList [.cell 4 (some 5), .tmp 5] = true := by kernel_rfl
theorem call_l2Get : okCallee Go.Proofs.Try.prog 53 = true := by kernel_rfl
def x_PartGet : X := (.seq (.reg [⟨some 2, none, .box (.t 0) (some 5)⟩, ⟨some 4, none, .alloc [(.c (.int .i64 0)), (.c (.int .i64 0)), (.c (.str ⟨#[]⟩)), (.z 1), (.z 5)]⟩, ⟨some 5, none, .mv (.k (.c (.bool false)))⟩] none [1, 2, 4]) (.seq (.seq (.reg [⟨some 6, none, .load (.t 2) (some 5)⟩, ⟨some 7, none, .call 35 [(.t 6)]⟩, ⟨some 8, none, .not (.t 7)⟩, ⟨some 9, none, .mv (.t 8)⟩, ⟨some 10, some (9, false), .mv (.t 1)⟩, ⟨some 11, some (9, false), .call 49 [(.t 10)]⟩, ⟨some 12, some (9, false), .not (.t 11)⟩, ⟨some 13, none, .pick (.t 9) (.k (.c (.bool true))) (.t 12)⟩] none [1, 2, 4, 13]) (.cond (.t 13) (.seq (.reg [⟨some 14, none, .build [(.c (.int .i64 0)), (.c (.int .i64 0)), (.c (.str ⟨#[]⟩)), (.z 1), (.z 5)] []⟩, ⟨none, none, .st (.t 4) (.t 14) (some 5)⟩, ⟨some 5, none, .mv (.k (.c (.bool false)))⟩] none [4, 5]) .ret) .skip)) (.seq (.reg [⟨some 15, none, .load (.t 2) (some 5)⟩, ⟨some 16, none, .mv (.t 1)⟩, ⟨some 17, none, .call 50 [(.t 15), (.t 16)]⟩, ⟨some 18, none, .ext (.t 17) 0⟩, ⟨some 19, none, .ext (.t 17) 1⟩, ⟨some 20, none, .call 28 [(.t 18), (.t 19)]⟩, ⟨some 21, none, .ext (.t 20) 0⟩, ⟨some 22, none, .ext (.t 20) 1⟩, ⟨none, none, .st (.t 4) (.t 21) (some 5)⟩, ⟨some 5, none, .mv (.t 22)⟩] none [4, 5]) .ret)))
theorem chk_PartGet : chkX Go.Proofs.Try.prog 23 (Go.Proofs.Try.f21.body.getD .skip) x_PartGet = true := by kernel_rfl
theorem rs_PartGet : okRs Go.Proofs.Try.prog Go.Proofs.Try.f21.results.toList [.cell 4 (some 5), .tmp 5] = true := by kernel_rfl
theorem call_PartGet : okCallee Go.Proofs.Try.prog 21 = true := by kernel_rfl
noncomputable def spIdxS  : Spec := Spec.of (ι := (List ByteArray) × ByteArray) [false, false] (fun i => [.d (.one (.row 1 (strs i.1))), .d (.one (.str i.2))]) (fun i => lenB 140737488355328 i.1.length) (fun i => [.d (.one (.int .i64 (idxS i.2 0 i.1)))]) (fun _ => [.gone, .gone])
theorem spIdxS_inj : ∀ i j : (List ByteArray) × ByteArray, (fun (i : (List ByteArray) × ByteArray) => ([.d (.one (.row 1 (strs i.1))), .d (.one (.str i.2))] : List AV)) i = (fun (i : (List ByteArray) × ByteArray) => ([.d (.one (.row 1 (strs i.1))), .d (.one (.str i.2))] : List AV)) j → i = j := by
  rintro ⟨l, x⟩ ⟨l', x'⟩ h
  simp only [Prod.mk.injEq]
  simpa [strs_eq, T.enc_eq, encL_eq, F.enc_eq, encF_eq, Tk.enc_eq, encTk_eq, Gn.enc_eq, ints_eq] using h
theorem spIdxS_md  : (spIdxS).md = [false, false] := rfl
theorem spIdxS_pre  (l : List ByteArray) (x : ByteArray) : (spIdxS).pre [.d (.one (.row 1 (strs l))), .d (.one (.str x))] = (lenB 140737488355328 l.length) := Spec.of_pre' spIdxS_inj (l, x)
theorem spIdxS_alts  : (spIdxS).alts = none := rfl
theorem spIdxS_res  (l : List ByteArray) (x : ByteArray) : (spIdxS).res [.d (.one (.row 1 (strs l))), .d (.one (.str x))] = [.d (.one (.int .i64 (idxS x 0 l)))] := Spec.of_res spIdxS_inj (l, x)
theorem spIdxS_out  (l : List ByteArray) (x : ByteArray) : (spIdxS).out [.d (.one (.row 1 (strs l))), .d (.one (.str x))] = [.gone, .gone] := Spec.of_out spIdxS_inj (l, x)
theorem IdxS_sound : Sound Go.Proofs.Try.prog 75 spIdxS := by
  refine sound_fam GOK.nil Go.Proofs.Try.func75 (c := Go.Proofs.Try.f75.body.getD .skip) rfl (n := 19) rfl chk_IdxS rs_IdxS (fun _ => by simp) ?_ ?_
  · exact spIdxS_inj
  · rintro ⟨l, x⟩ h2
    simp only [lenB] at h2
    simp only [x_IdxS, rg, go_sem, seval]
    repeat' (first | with_reducible assumption | with_reducible refine And.intro ?_ ?_ | intro _)
    all_goals first | omega | assumption | skip
    refine pw_loop (ι := Nat) (fun i => l.length - i) (fun i => i ≤ l.length ∧ idxS x i (l.drop i) = idxS x 0 l)
      (fun i => ⟨[(0, .q (.c (.row 1 (strs l)))), (1, .q (.c (.str x))), (7, .q (.c (.int .i64 l.length))), (8, .q (.c (.int .i64 i)))], [], []⟩) 0 ⟨Nat.zero_le _, rfl⟩ (Le.refl _) ?_
    rintro i ⟨g1, g2⟩
    rcases Nat.lt_or_ge i l.length with hlt | hge
    · obtain ⟨y, hy, hd, hmem⟩ := drop_at hlt
      have b1 : ((i : Int) < (l.length : Int)) = True := eq_true (by omega)
      have a1 := strs_at hy
      rw [hd, idxS] at g2
      simp only [rg, go_sem, seval, b1, a1]
      repeat' (first | with_reducible assumption | with_reducible refine And.intro ?_ ?_ | intro _)
      all_goals first | omega | assumption | skip
      · have h : x = y := by assumption
        rw [← g2, if_pos h]
      · have h : ¬ x = y := by assumption
        rw [if_neg h] at g2
        exact ⟨i + 1, ⟨by omega, g2⟩, by omega, Le.refl _⟩
    · obtain rfl : i = l.length := by omega
      have b1 : ((l.length : Int) < (l.length : Int)) = False := eq_false (by omega)
      rw [List.drop_length, idxS] at g2
      simp only [rg, go_sem, seval, b1, ← g2]
noncomputable def spL2Key  : Spec := Spec.of (ι := T × ByteArray) [false, false] (fun i => [.d (.agg i.1.enc), .d (.one (.str i.2))]) (fun i => i.1.fit 140737488355328) (fun i => [.d (.one (.int .i64 (idxS i.2 0 i.1.keys)))]) (fun _ => [.gone, .gone])
theorem spL2Key_inj : ∀ i j : T × ByteArray, (fun (i : T × ByteArray) => ([.d (.agg i.1.enc), .d (.one (.str i.2))] : List AV)) i = (fun (i : T × ByteArray) => ([.d (.agg i.1.enc), .d (.one (.str i.2))] : List AV)) j → i = j := by
  rintro ⟨v, x⟩ ⟨v', x'⟩ h
  simp only [Prod.mk.injEq]
  simpa [strs_eq, T.enc_eq, encL_eq, F.enc_eq, encF_eq, Tk.enc_eq, encTk_eq, Gn.enc_eq, ints_eq] using h
theorem spL2Key_md  : (spL2Key).md = [false, false] := rfl
theorem spL2Key_pre  (v : T) (x : ByteArray) : (spL2Key).pre [.d (.agg v.enc), .d (.one (.str x))] = (v.fit 140737488355328) := Spec.of_pre' spL2Key_inj (v, x)
theorem spL2Key_alts  : (spL2Key).alts = none := rfl
theorem spL2Key_res  (v : T) (x : ByteArray) : (spL2Key).res [.d (.agg v.enc), .d (.one (.str x))] = [.d (.one (.int .i64 (idxS x 0 v.keys)))] := Spec.of_res spL2Key_inj (v, x)
theorem spL2Key_out  (v : T) (x : ByteArray) : (spL2Key).out [.d (.agg v.enc), .d (.one (.str x))] = [.gone, .gone] := Spec.of_out spL2Key_inj (v, x)
theorem l2Key_sound : Sound Go.Proofs.Try.prog 76 spL2Key := by
  refine sound_fam GOK.nil Go.Proofs.Try.func76 (c := Go.Proofs.Try.f76.body.getD .skip) rfl (n := 21) rfl chk_l2Key rs_l2Key (fun _ => by simp) ?_ ?_
  · exact spL2Key_inj
  · rintro ⟨v, x⟩ h2
    obtain ⟨k, n, s, l, li⟩ := v
    have h3 : (l.length : Int) ≤ 140737488355328 := h2.2.2.2.1.1
    simp only [x_l2Key, rg, go_sem, seval, T.enc, T.keys]
    refine pw_loop (ι := Nat) (fun i => l.length - i) (fun i => i ≤ l.length ∧ idxS x i (l.drop i) = idxS x 0 l)
      (fun i => ⟨[(1, .q (.c (.str x))), (2, .q (.box 2 0)), (5, .q (.c (.int .i64 i)))], [(2, [.c (.int .i64 k), .c (.int .i64 n), .c (.str s), .c (.row 1 (strs l)), .c (.row 5 (encL li))])], []⟩) 0 ⟨Nat.zero_le _, rfl⟩ (Le.refl _) ?_
    rintro i ⟨g1, g2⟩
    rcases Nat.lt_or_ge i l.length with hlt | hge
    · obtain ⟨y, hy, hd, hmem⟩ := drop_at hlt
      have b1 : ((i : Int) < (l.length : Int)) = True := eq_true (by omega)
      have a1 := strs_at hy
      rw [hd, idxS] at g2
      simp only [rg, go_sem, seval, b1, a1]
      repeat' (first | with_reducible assumption | with_reducible refine And.intro ?_ ?_ | intro _)
      all_goals first | omega | assumption | skip
      · have h : y = x := by assumption
        rw [← g2, if_pos h.symm]
      · have h : ¬ y = x := by assumption
        rw [if_neg (fun e => h e.symm)] at g2
        exact ⟨i + 1, ⟨by omega, g2⟩, by omega, Le.refl _⟩
    · obtain rfl : i = l.length := by omega
      have b1 : ((l.length : Int) < (l.length : Int)) = False := eq_false (by omega)
      rw [List.drop_length, idxS] at g2
      simp only [rg, go_sem, seval, b1, ← g2]
noncomputable def spGet  : Spec := Spec.of (ι := T × ByteArray) [false, false] (fun i => [.d (.agg i.1.enc), .d (.one (.str i.2))]) (fun i => i.1.fit 140737488355328 ∧ okT i.1) (fun i => [.d (.agg (getT i.2 i.1).enc), .d (.one (.bool (decide (getOk i.1))))]) (fun _ => [.gone, .gone])
theorem spGet_inj : ∀ i j : T × ByteArray, (fun (i : T × ByteArray) => ([.d (.agg i.1.enc), .d (.one (.str i.2))] : List AV)) i = (fun (i : T × ByteArray) => ([.d (.agg i.1.enc), .d (.one (.str i.2))] : List AV)) j → i = j := by
  rintro ⟨v, x⟩ ⟨v', x'⟩ h
  simp only [Prod.mk.injEq]
  simpa [strs_eq, T.enc_eq, encL_eq, F.enc_eq, encF_eq, Tk.enc_eq, encTk_eq, Gn.enc_eq, ints_eq] using h
theorem spGet_md  : (spGet).md = [false, false] := rfl
theorem spGet_pre  (v : T) (x : ByteArray) : (spGet).pre [.d (.agg v.enc), .d (.one (.str x))] = (v.fit 140737488355328 ∧ okT v) := Spec.of_pre' spGet_inj (v, x)
theorem spGet_alts  : (spGet).alts = none := rfl
theorem spGet_res  (v : T) (x : ByteArray) : (spGet).res [.d (.agg v.enc), .d (.one (.str x))] = [.d (.agg (getT x v).enc), .d (.one (.bool (decide (getOk v))))] := Spec.of_res spGet_inj (v, x)
theorem spGet_out  (v : T) (x : ByteArray) : (spGet).out [.d (.agg v.enc), .d (.one (.str x))] = [.gone, .gone] := Spec.of_out spGet_inj (v, x)
theorem get_sound : Sound Go.Proofs.Try.prog 50 spGet := by
  refine sound_fam (GOK.cons call_IdxS IdxS_sound GOK.nil) Go.Proofs.Try.func50 (c := Go.Proofs.Try.f50.body.getD .skip) rfl (n := 30) rfl chk_get rs_get (fun _ => by simp) ?_ ?_
  · exact spGet_inj
  · rintro ⟨v, x⟩ ⟨h2, h4⟩
    obtain ⟨k, n, s, l, li⟩ := v
    have h3 : (l.length : Int) ≤ 140737488355328 := h2.2.2.2.1.1
    have hr := idxS_rng (x := x) (l := l) (i := 0)
    by_cases c : k = 6
    · subst c
      have hl : l.length = li.length := okT_keys h4 rfl
      have eo : getOk (T.mk 6 n s l li) = True := eq_true (.inl rfl)
      by_cases d : 0 ≤ idxS x 0 l
      · have b1 : (idxS x 0 l ≥ 0) = True := eq_true d
        obtain ⟨y, hy, _, hmem⟩ := drop_at (l := li) (i := (idxS x 0 l).toNat) (by omega)
        have a1 := encL_at hy
        have f1 := T.enc_len y
        have e : getT x (T.mk 6 n s l li) = y := by
          unfold getT; rw [if_pos ⟨rfl, d⟩]; simp [T.list, T.keys, List.getD_eq_getElem?_getD, hy]
        simp only [x_get, rg, go_sem, seval, Prod.fst, T.enc, e, eo, b1, a1, f1, encL_len, spIdxS_md, spIdxS_pre, spIdxS_alts, spIdxS_res, spIdxS_out]
        repeat' (first | with_reducible assumption | with_reducible refine And.intro ?_ ?_ | intro _)
        all_goals first | omega | assumption | skip
      · have b1 : (idxS x 0 l ≥ 0) = False := eq_false d
        have e : getT x (T.mk 6 n s l li) = T.zero := by
          unfold getT; rw [if_neg (fun h => d h.2)]
        simp only [x_get, rg, go_sem, seval, Prod.fst, T.enc, e, eo, b1, spIdxS_md, spIdxS_pre, spIdxS_alts, spIdxS_res, spIdxS_out]
        repeat' (first | with_reducible assumption | with_reducible refine And.intro ?_ ?_ | intro _)
        all_goals first | omega | assumption | exact T.zero_enc | skip
    · have e : getT x (T.mk k n s l li) = T.zero := by
        unfold getT; rw [if_neg (fun h => c h.1)]
      have b0 : (k = 6) = False := eq_false c
      have eo : getOk (T.mk k n s l li) = (k = 0) := propext ⟨fun h => h.resolve_left c, .inr⟩
      simp only [x_get, rg, go_sem, seval, Prod.fst, T.enc, e, eo, b0]
      repeat' (first | with_reducible assumption | with_reducible refine And.intro ?_ ?_ | intro _)
      all_goals first | omega | assumption | exact T.zero_enc | skip
noncomputable def spL2Get  : Spec := Spec.of (ι := T × ByteArray) [false, false] (fun i => [.d (.agg i.1.enc), .d (.one (.str i.2))]) (fun i => i.1.fit 140737488355328 ∧ okT i.1) (fun i => [.d (.agg (getT i.2 i.1).enc), .d (.one (.bool (decide (getOk i.1))))]) (fun _ => [.gone, .gone])
theorem spL2Get_inj : ∀ i j : T × ByteArray, (fun (i : T × ByteArray) => ([.d (.agg i.1.enc), .d (.one (.str i.2))] : List AV)) i = (fun (i : T × ByteArray) => ([.d (.agg i.1.enc), .d (.one (.str i.2))] : List AV)) j → i = j := by
  rintro ⟨v, x⟩ ⟨v', x'⟩ h
  simp only [Prod.mk.injEq]
  simpa [strs_eq, T.enc_eq, encL_eq, F.enc_eq, encF_eq, Tk.enc_eq, encTk_eq, Gn.enc_eq, ints_eq] using h
theorem spL2Get_md  : (spL2Get).md = [false, false] := rfl
theorem spL2Get_pre  (v : T) (x : ByteArray) : (spL2Get).pre [.d (.agg v.enc), .d (.one (.str x))] = (v.fit 140737488355328 ∧ okT v) := Spec.of_pre' spL2Get_inj (v, x)
theorem spL2Get_alts  : (spL2Get).alts = none := rfl
theorem spL2Get_res  (v : T) (x : ByteArray) : (spL2Get).res [.d (.agg v.enc), .d (.one (.str x))] = [.d (.agg (getT x v).enc), .d (.one (.bool (decide (getOk v))))] := Spec.of_res spL2Get_inj (v, x)
theorem spL2Get_out  (v : T) (x : ByteArray) : (spL2Get).out [.d (.agg v.enc), .d (.one (.str x))] = [.gone, .gone] := Spec.of_out spL2Get_inj (v, x)
theorem l2Get_sound : Sound Go.Proofs.Try.prog 53 spL2Get := by
  refine sound_fam (GOK.cons call_l2Key l2Key_sound GOK.nil) Go.Proofs.Try.func53 (c := Go.Proofs.Try.f53.body.getD .skip) rfl (n := 26) rfl chk_l2Get rs_l2Get (fun _ => by simp) ?_ ?_
  · exact spL2Get_inj
  · rintro ⟨v, x⟩ ⟨h2, h4⟩
    obtain ⟨k, n, s, l, li⟩ := v
    have f0 := T.enc_len (T.mk k n s l li)
    have h3 : (l.length : Int) ≤ 140737488355328 := h2.2.2.2.1.1
    have hr := idxS_rng (x := x) (l := l) (i := 0)
    by_cases c : k = 6
    · subst c
      have hl : l.length = li.length := okT_keys h4 rfl
      have eo : getOk (T.mk 6 n s l li) = True := eq_true (.inl rfl)
      by_cases d : 0 ≤ idxS x 0 l
      · have b1 : (idxS x 0 l < 0) = False := eq_false (by omega)
        obtain ⟨y, hy, _, hmem⟩ := drop_at (l := li) (i := (idxS x 0 l).toNat) (by omega)
        have a1 := encL_at hy
        have f1 := T.enc_len y
        have e : getT x (T.mk 6 n s l li) = y := by
          unfold getT; rw [if_pos ⟨rfl, d⟩]; simp [T.list, T.keys, List.getD_eq_getElem?_getD, hy]
        simp only [x_l2Get, rg, go_sem, seval, Prod.fst, T.enc, foldT, T.keys, e, eo, b1, a1, f1, encL_len, spL2Key_md, spL2Key_pre, spL2Key_alts, spL2Key_res, spL2Key_out]
        repeat' (first | with_reducible assumption | with_reducible refine And.intro ?_ ?_ | intro _)
        all_goals first | omega | assumption | skip
      · have b1 : (idxS x 0 l < 0) = True := eq_true (by omega)
        have e : getT x (T.mk 6 n s l li) = T.zero := by
          unfold getT; rw [if_neg (fun h => d h.2)]
        simp only [x_l2Get, rg, go_sem, seval, Prod.fst, T.enc, foldT, T.keys, e, eo, b1, spL2Key_md, spL2Key_pre, spL2Key_alts, spL2Key_res, spL2Key_out]
        repeat' (first | with_reducible assumption | with_reducible refine And.intro ?_ ?_ | intro _)
        all_goals first | omega | assumption | exact T.zero_enc | skip
    · have b0 : (k = 6) = False := eq_false c
      by_cases d : k = 0
      · have hz := okT_none h4 d
        rw [hz]
        have e : getT x T.zero = T.zero := by
          unfold getT; rw [if_neg (fun h => absurd h.1 (by decide))]
        have eo : getOk T.zero = True := eq_true (.inr rfl)
        have z1 : T.zero = T.mk 0 0 ⟨#[]⟩ [] [] := rfl
        simp only [x_l2Get, rg, go_sem, seval, Prod.fst, e, eo]
        simp only [z1, T.enc, rg, go_sem, seval, Prod.fst]
        repeat' (first | with_reducible assumption | with_reducible refine And.intro ?_ ?_ | intro _)
        all_goals first | omega | assumption | exact T.zero_enc | skip
      · have e : getT x (T.mk k n s l li) = T.zero := by
          unfold getT; rw [if_neg (fun h => c h.1)]
        have b1 : (k = 0) = False := eq_false d
        have eo : getOk (T.mk k n s l li) = False := eq_false (fun h => h.elim c d)
        simp only [x_l2Get, rg, go_sem, seval, Prod.fst, T.enc, e, eo, b0, b1]
        repeat' (first | with_reducible assumption | with_reducible refine And.intro ?_ ?_ | intro _)
        all_goals first | omega | assumption | exact T.zero_enc | skip
noncomputable def spPartGet  : Spec := Spec.of (ι := T × ByteArray) [false, false] (fun i => [.d (.agg i.1.enc), .d (.one (.str i.2))]) (fun i => i.1.fit 1000000 ∧ okT i.1 ∧ okS i.2 ∧ lenB 1000000 i.2.size) (fun i => [.d (.agg (getT i.2 i.1).enc), .d (.one (.bool (decide (getOk i.1))))]) (fun _ => [.gone, .gone])
theorem spPartGet_inj : ∀ i j : T × ByteArray, (fun (i : T × ByteArray) => ([.d (.agg i.1.enc), .d (.one (.str i.2))] : List AV)) i = (fun (i : T × ByteArray) => ([.d (.agg i.1.enc), .d (.one (.str i.2))] : List AV)) j → i = j := by
  rintro ⟨v, x⟩ ⟨v', x'⟩ h
  simp only [Prod.mk.injEq]
  simpa [strs_eq, T.enc_eq, encL_eq, F.enc_eq, encF_eq, Tk.enc_eq, encTk_eq, Gn.enc_eq, ints_eq] using h
theorem spPartGet_md  : (spPartGet).md = [false, false] := rfl
theorem spPartGet_pre  (v : T) (x : ByteArray) : (spPartGet).pre [.d (.agg v.enc), .d (.one (.str x))] = (v.fit 1000000 ∧ okT v ∧ okS x ∧ lenB 1000000 x.size) := Spec.of_pre' spPartGet_inj (v, x)
theorem spPartGet_alts  : (spPartGet).alts = none := rfl
theorem spPartGet_res  (v : T) (x : ByteArray) : (spPartGet).res [.d (.agg v.enc), .d (.one (.str x))] = [.d (.agg (getT x v).enc), .d (.one (.bool (decide (getOk v))))] := Spec.of_res spPartGet_inj (v, x)
theorem spPartGet_out  (v : T) (x : ByteArray) : (spPartGet).out [.d (.agg v.enc), .d (.one (.str x))] = [.gone, .gone] := Spec.of_out spPartGet_inj (v, x)
theorem PartGet_sound : Sound Go.Proofs.Try.prog 21 spPartGet := by
  refine sound_fam (GOK.cons (l := [(49, spTextOk), (28, spTold), (50, spGet)]) call_ValOkI valOkI_sound (GOK.cons call_textOk textOk_sound (GOK.cons call_told told_sound (GOK.cons call_get get_sound GOK.nil)))) Go.Proofs.Try.func21 (c := Go.Proofs.Try.f21.body.getD .skip) rfl (n := 23) rfl chk_PartGet rs_PartGet (fun _ => by simp) ?_ ?_
  · exact spPartGet_inj
  · rintro ⟨v, x⟩ ⟨h2, h4, h5, h6⟩
    have h3 : (x.size : Int) ≤ 1000000 := h6
    have f0 := T.enc_len v
    have f1 := T.enc_len (getT x v)
    have f2 := T.enc_len (toldT (decide (getOk v)) (getT x v))
    have f4 := (okI_iff v).2 h4
    have g1 : v.fit 140737488355328 := T.fit_mono (by decide) h2
    have g2 := getT_ok (key := x) h4
    have g3 : (getT x v).fit 2000000 := T.fit_mono (by decide) (getT_fit (by omega) h4 h2)
    have g4 : okS x = True := eq_true h5
    have e : toldT (decide (getOk v)) (getT x v) = getT x v := by
      by_cases c : getOk v
      · simp [toldT, c, g2]
      · have : getT x v = T.zero := by unfold getT; rw [if_neg (fun h => c (.inl h.1))]
        rw [this]; simp [toldT]
    simp only [x_PartGet, rg, go_sem, seval, Prod.fst, f0, f1, f2, f4, e, g2, g4, spValOkI_md, spValOkI_pre, spValOkI_alts, spValOkI_res, spValOkI_out, spTextOk_md, spTextOk_pre, spTextOk_alts, spTextOk_res, spTextOk_out, spGet_md, spGet_pre, spGet_alts, spGet_res, spGet_out, spTold_md, spTold_pre, spTold_alts, spTold_res, spTold_out]
    repeat' (first | with_reducible assumption | with_reducible refine And.intro ?_ ?_ | intro _)
    all_goals first | omega | assumption | (unfold lenB; omega) | skip
end Go.Proofs.Pw
