/- The stable sort's parts: what is swapped, what is turned about, and a part of a row brought in order. -/
import Derived.Test.YtalbhhciphpbeaaPwSo2
import Derived.Test.YtalbhhciphpbeaaPwPlSort
set_option linter.unusedSimpArgs false
set_option linter.unusedVariables false
set_option linter.unusedSimpArgs false
set_option maxRecDepth 20000
namespace Go.Proofs.Pw
set_option linter.unusedSectionVars false
variable [Globs]
def x_swapR : X := (.seq (.reg [⟨some 10, none, .mv (.k (.c (.int .i64 0)))⟩] none [0, 1, 2, 3, 10]) (.block 0 (.loop (.seq (.seq (.reg [⟨some 11, none, .mv (.t 10)⟩, ⟨some 12, none, .mv (.t 3)⟩, ⟨some 13, none, .bin false .lss (.t 11) (.t 12)⟩] none [0, 1, 2, 3, 10, 13]) (.cond (.t 13) .skip (.exit 0))) (.seq (.block 1 (.mix [⟨some 16, none, .mv (.t 0)⟩, ⟨some 17, none, .mv (.t 1)⟩, ⟨some 18, none, .mv (.t 10)⟩, ⟨some 19, none, .bin false .add (.t 17) (.t 18)⟩, ⟨some 20, none, .mv (.t 0)⟩, ⟨some 21, none, .mv (.t 2)⟩, ⟨some 22, none, .mv (.t 10)⟩, ⟨some 23, none, .bin false .add (.t 21) (.t 22)⟩, ⟨some 24, none, .mv (.t 0)⟩, ⟨some 25, none, .mv (.t 2)⟩, ⟨some 26, none, .mv (.t 10)⟩, ⟨some 27, none, .bin false .add (.t 25) (.t 26)⟩, ⟨some 28, none, .ia (.t 24) (.t 27) 5⟩, ⟨some 29, none, .load (.t 28) (some 5)⟩, ⟨some 30, none, .mv (.t 0)⟩, ⟨some 31, none, .mv (.t 1)⟩, ⟨some 32, none, .mv (.t 10)⟩, ⟨some 33, none, .bin false .add (.t 31) (.t 32)⟩, ⟨some 34, none, .ia (.t 30) (.t 33) 5⟩, ⟨some 35, none, .load (.t 34) (some 5)⟩, ⟨some 36, none, .ia (.t 16) (.t 19) 5⟩, ⟨none, none, .st (.t 36) (.t 29) (some 5)⟩] [⟨some 37, none, .ia (.t 20) (.t 23) 5⟩, ⟨none, none, .st (.t 37) (.t 35) (some 5)⟩] [[], [], [], [], [], [], [], [], [], [], [], [], [], [], [], [], [], [], [], [], [], []] [0, 1, 2, 3, 10])) (.reg [⟨some 14, none, .mv (.t 10)⟩, ⟨some 15, none, .bin false .add (.t 14) (.k (.c (.int .i64 1)))⟩, ⟨some 10, none, .mv (.t 15)⟩] none [0, 1, 2, 3, 10]))))))
theorem chk_swapR : chkX Go.Proofs.Try.prog 38 (Go.Proofs.Try.f81.body.getD .skip) x_swapR = true := by kernel_rfl
theorem rs_swapR : okRs Go.Proofs.Try.prog Go.Proofs.Try.f81.results.toList [] = true := by kernel_rfl
theorem call_swapR : okCallee Go.Proofs.Try.prog 81 = true := by kernel_rfl
def x_rot : X := (.seq (.reg [⟨some 12, none, .mv (.t 2)⟩, ⟨some 13, none, .mv (.t 1)⟩, ⟨some 14, none, .bin false .sub (.t 12) (.t 13)⟩, ⟨some 10, none, .mv (.t 14)⟩] none [0, 2, 3, 4, 10]) (.seq (.reg [⟨some 15, none, .mv (.t 3)⟩, ⟨some 16, none, .mv (.t 2)⟩, ⟨some 17, none, .bin false .sub (.t 15) (.t 16)⟩, ⟨some 11, none, .mv (.t 17)⟩] none [0, 2, 4, 10, 11]) (.seq (.block 0 (.loop (.seq (.seq (.reg [⟨some 18, none, .mv (.t 10)⟩, ⟨some 19, none, .mv (.t 11)⟩, ⟨some 20, none, .bin false .neq (.t 18) (.t 19)⟩] none [0, 2, 4, 10, 11, 20]) (.cond (.t 20) .skip (.exit 0))) (.block 1 (.seq (.reg [⟨some 21, none, .mv (.t 10)⟩, ⟨some 22, none, .mv (.t 11)⟩, ⟨some 23, none, .bin false .gtr (.t 21) (.t 22)⟩] none [0, 2, 4, 10, 11, 23]) (.cond (.t 23) (.seq (.reg [⟨some 24, none, .mv (.t 0)⟩, ⟨some 25, none, .mv (.t 2)⟩, ⟨some 26, none, .mv (.t 10)⟩, ⟨some 27, none, .bin false .sub (.t 25) (.t 26)⟩, ⟨some 28, none, .mv (.t 2)⟩, ⟨some 29, none, .mv (.t 11)⟩, ⟨some 30, none, .mv (.t 4)⟩, ⟨some 31, none, .call 81 [(.t 24), (.t 27), (.t 28), (.t 29), (.t 30)]⟩] none [0, 2, 4, 10, 11]) (.reg [⟨some 32, none, .mv (.t 10)⟩, ⟨some 33, none, .mv (.t 11)⟩, ⟨some 34, none, .bin false .sub (.t 32) (.t 33)⟩, ⟨some 10, none, .mv (.t 34)⟩] none [0, 2, 4, 10, 11])) (.seq (.reg [⟨some 35, none, .mv (.t 0)⟩, ⟨some 36, none, .mv (.t 2)⟩, ⟨some 37, none, .mv (.t 10)⟩, ⟨some 38, none, .bin false .sub (.t 36) (.t 37)⟩, ⟨some 39, none, .mv (.t 2)⟩, ⟨some 40, none, .mv (.t 11)⟩, ⟨some 41, none, .bin false .add (.t 39) (.t 40)⟩, ⟨some 42, none, .mv (.t 10)⟩, ⟨some 43, none, .bin false .sub (.t 41) (.t 42)⟩, ⟨some 44, none, .mv (.t 10)⟩, ⟨some 45, none, .mv (.t 4)⟩, ⟨some 46, none, .call 81 [(.t 35), (.t 38), (.t 43), (.t 44), (.t 45)]⟩] none [0, 2, 4, 10, 11]) (.reg [⟨some 47, none, .mv (.t 11)⟩, ⟨some 48, none, .mv (.t 10)⟩, ⟨some 49, none, .bin false .sub (.t 47) (.t 48)⟩, ⟨some 11, none, .mv (.t 49)⟩] none [0, 2, 4, 10, 11])))))))) (.reg [⟨some 50, none, .mv (.t 0)⟩, ⟨some 51, none, .mv (.t 2)⟩, ⟨some 52, none, .mv (.t 10)⟩, ⟨some 53, none, .bin false .sub (.t 51) (.t 52)⟩, ⟨some 54, none, .mv (.t 2)⟩, ⟨some 55, none, .mv (.t 10)⟩, ⟨some 56, none, .mv (.t 4)⟩, ⟨some 57, none, .call 81 [(.t 50), (.t 53), (.t 54), (.t 55), (.t 56)]⟩] none []))))
theorem chk_rot : chkX Go.Proofs.Try.prog 58 (Go.Proofs.Try.f80.body.getD .skip) x_rot = true := by kernel_rfl
theorem rs_rot : okRs Go.Proofs.Try.prog Go.Proofs.Try.f80.results.toList [] = true := by kernel_rfl
theorem call_rot : okCallee Go.Proofs.Try.prog 80 = true := by kernel_rfl
noncomputable def spSwapR  : Spec := Spec.of (ι := (List T) × Int × Int × Int) [true, false, false, false, false] (fun i => [.own 5 (encL i.1), .d (.one (.int .i64 i.2.1)), .d (.one (.int .i64 i.2.2.1)), .d (.one (.int .i64 i.2.2.2)), .d (.one (.fn 53))]) (fun i => lenB 1000000 i.1.length ∧ 0 ≤ i.2.1 ∧ 0 ≤ i.2.2.1 ∧ 0 ≤ i.2.2.2 ∧ i.2.1 + i.2.2.2 ≤ i.1.length ∧ i.2.2.1 + i.2.2.2 ≤ i.1.length) (fun _ => []) (fun i => [.own 5 (encL (swpSeg i.1 i.2.1.toNat i.2.2.1.toNat i.2.2.2.toNat)), .gone, .gone, .gone, .gone])
theorem spSwapR_inj : ∀ i j : (List T) × Int × Int × Int, (fun (i : (List T) × Int × Int × Int) => ([.own 5 (encL i.1), .d (.one (.int .i64 i.2.1)), .d (.one (.int .i64 i.2.2.1)), .d (.one (.int .i64 i.2.2.2)), .d (.one (.fn 53))] : List AV)) i = (fun (i : (List T) × Int × Int × Int) => ([.own 5 (encL i.1), .d (.one (.int .i64 i.2.1)), .d (.one (.int .i64 i.2.2.1)), .d (.one (.int .i64 i.2.2.2)), .d (.one (.fn 53))] : List AV)) j → i = j := by
  rintro ⟨l, a, b, n⟩ ⟨l', a', b', n'⟩ h
  simp only [Prod.mk.injEq]
  simpa [strs_eq, T.enc_eq, encL_eq, F.enc_eq, encF_eq, Tk.enc_eq, encTk_eq, Gn.enc_eq, ints_eq] using h
theorem spSwapR_md  : (spSwapR).md = [true, false, false, false, false] := rfl
theorem spSwapR_pre  (l : List T) (a : Int) (b : Int) (n : Int) : (spSwapR).pre [.own 5 (encL l), .d (.one (.int .i64 a)), .d (.one (.int .i64 b)), .d (.one (.int .i64 n)), .d (.one (.fn 53))] = (lenB 1000000 l.length ∧ 0 ≤ a ∧ 0 ≤ b ∧ 0 ≤ n ∧ a + n ≤ l.length ∧ b + n ≤ l.length) := Spec.of_pre' spSwapR_inj (l, a, b, n)
theorem spSwapR_alts  : (spSwapR).alts = none := rfl
theorem spSwapR_res  (l : List T) (a : Int) (b : Int) (n : Int) : (spSwapR).res [.own 5 (encL l), .d (.one (.int .i64 a)), .d (.one (.int .i64 b)), .d (.one (.int .i64 n)), .d (.one (.fn 53))] = [] := Spec.of_res spSwapR_inj (l, a, b, n)
theorem spSwapR_out  (l : List T) (a : Int) (b : Int) (n : Int) : (spSwapR).out [.own 5 (encL l), .d (.one (.int .i64 a)), .d (.one (.int .i64 b)), .d (.one (.int .i64 n)), .d (.one (.fn 53))] = [.own 5 (encL (swpSeg l a.toNat b.toNat n.toNat)), .gone, .gone, .gone, .gone] := Spec.of_out spSwapR_inj (l, a, b, n)
set_option maxHeartbeats 2000000 in
theorem swapR_sound : Sound Go.Proofs.Try.prog 81 spSwapR := by
  refine sound_fam GOK.nil Go.Proofs.Try.func81 (c := Go.Proofs.Try.f81.body.getD .skip) rfl (n := 38) rfl chk_swapR rs_swapR (fun _ => by simp) ?_ ?_
  · exact spSwapR_inj
  · rintro ⟨l, a, b, n⟩ ⟨h1, ha, hb, hn, h2, h3⟩
    simp only [lenB] at h1 ha hb hn h2 h3
    obtain ⟨a, rfl⟩ := Int.eq_ofNat_of_zero_le ha
    obtain ⟨b, rfl⟩ := Int.eq_ofNat_of_zero_le hb
    obtain ⟨n, rfl⟩ := Int.eq_ofNat_of_zero_le hn
    simp only [x_swapR, rg, go_sem, seval, Int.toNat_natCast]
    refine pw_loop (ι := Nat) (fun i => n - i) (fun i => i ≤ n)
      (fun i => ⟨[(0, .q (.own 1000000038)), (1, .q (.c (.int .i64 a))), (2, .q (.c (.int .i64 b))), (3, .q (.c (.int .i64 n))), (10, .q (.c (.int .i64 i)))], [], [(1000000038, 5, encL (swpSeg l a b i))]⟩) 0 (Nat.zero_le _) (Le.of_eq (by simp [swpSeg])) ?_
    intro i hi
    rcases Nat.lt_or_ge i n with hlt | hge
    · have b1 : ((i : Int) < (n : Int)) = True := eq_true (by omega)
      have hl := swpSeg_len l a b i
      have e1 : ((a : Int) + (i : Int)).toNat = a + i := by omega
      have e2 : ((b : Int) + (i : Int)).toNat = b + i := by omega
      obtain ⟨x, hx⟩ : ∃ x, (swpSeg l a b i)[a + i]? = some x := ⟨_, List.getElem?_eq_getElem (by omega)⟩
      obtain ⟨y, hy⟩ : ∃ y, (swpSeg l a b i)[b + i]? = some y := ⟨_, List.getElem?_eq_getElem (by omega)⟩
      have a1 := encL_at hx
      have a2 := encL_at hy
      have f1 := T.enc_len x
      have f2 := T.enc_len y
      have e3 : ((swpSeg l a b i).set (a + i) y).set (b + i) x = swpSeg l a b (i + 1) := by simp only [swpSeg, swp, hx, hy]
      by_cases hab : a = b
      · subst hab
        have hxy : y = x := Option.some.inj (hy.symm.trans hx)
        subst hxy
        have a3 : (encL ((swpSeg l a a i).set (a + i) y)).getD (a + i) [] = y.enc := encL_at (by rw [List.getElem?_set_self (by omega)])
        simp only [rg, go_sem, seval, Prod.fst, b1, e1, e2, a1, a2, a3, f1, f2, encL_set, T.enc_drop5, encL_len, hl, List.length_set, e3]
        repeat' (first | with_reducible assumption | with_reducible refine And.intro ?_ ?_ | intro _)
        all_goals first | omega | skip
        exact ⟨i + 1, by omega, by omega, Le.of_eq (by simp)⟩
      · obtain ⟨z, hz⟩ : ∃ z, ((swpSeg l a b i).set (a + i) y)[b + i]? = some z := ⟨_, List.getElem?_eq_getElem (by rw [List.length_set]; omega)⟩
        have a3 := encL_at hz
        have f3 := T.enc_len z
        simp only [rg, go_sem, seval, Prod.fst, b1, e1, e2, a1, a2, a3, f1, f2, f3, encL_set, T.enc_drop5, encL_len, hl, List.length_set, e3]
        repeat' (first | with_reducible assumption | with_reducible refine And.intro ?_ ?_ | intro _)
        all_goals first | omega | skip
        exact ⟨i + 1, by omega, by omega, Le.of_eq (by simp)⟩
    · obtain rfl : i = n := by omega
      have b1 : ((i : Int) < (i : Int)) = False := eq_false (by omega)
      simp only [rg, go_sem, seval, Prod.fst, b1]
noncomputable def spRot  : Spec := Spec.of (ι := (List T) × Int × Int × Int) [true, false, false, false, false] (fun i => [.own 5 (encL i.1), .d (.one (.int .i64 i.2.1)), .d (.one (.int .i64 i.2.2.1)), .d (.one (.int .i64 i.2.2.2)), .d (.one (.fn 53))]) (fun i => lenB 1000000 i.1.length ∧ 0 ≤ i.2.1 ∧ i.2.1 < i.2.2.1 ∧ i.2.2.1 < i.2.2.2 ∧ i.2.2.2 ≤ i.1.length) (fun _ => []) (fun i => [.own 5 (encL (rotSeg i.1 i.2.1.toNat i.2.2.1.toNat i.2.2.2.toNat)), .gone, .gone, .gone, .gone])
theorem spRot_inj : ∀ i j : (List T) × Int × Int × Int, (fun (i : (List T) × Int × Int × Int) => ([.own 5 (encL i.1), .d (.one (.int .i64 i.2.1)), .d (.one (.int .i64 i.2.2.1)), .d (.one (.int .i64 i.2.2.2)), .d (.one (.fn 53))] : List AV)) i = (fun (i : (List T) × Int × Int × Int) => ([.own 5 (encL i.1), .d (.one (.int .i64 i.2.1)), .d (.one (.int .i64 i.2.2.1)), .d (.one (.int .i64 i.2.2.2)), .d (.one (.fn 53))] : List AV)) j → i = j := by
  rintro ⟨l, a, m, b⟩ ⟨l', a', m', b'⟩ h
  simp only [Prod.mk.injEq]
  simpa [strs_eq, T.enc_eq, encL_eq, F.enc_eq, encF_eq, Tk.enc_eq, encTk_eq, Gn.enc_eq, ints_eq] using h
theorem spRot_md  : (spRot).md = [true, false, false, false, false] := rfl
theorem spRot_pre  (l : List T) (a : Int) (m : Int) (b : Int) : (spRot).pre [.own 5 (encL l), .d (.one (.int .i64 a)), .d (.one (.int .i64 m)), .d (.one (.int .i64 b)), .d (.one (.fn 53))] = (lenB 1000000 l.length ∧ 0 ≤ a ∧ a < m ∧ m < b ∧ b ≤ l.length) := Spec.of_pre' spRot_inj (l, a, m, b)
theorem spRot_alts  : (spRot).alts = none := rfl
theorem spRot_res  (l : List T) (a : Int) (m : Int) (b : Int) : (spRot).res [.own 5 (encL l), .d (.one (.int .i64 a)), .d (.one (.int .i64 m)), .d (.one (.int .i64 b)), .d (.one (.fn 53))] = [] := Spec.of_res spRot_inj (l, a, m, b)
theorem spRot_out  (l : List T) (a : Int) (m : Int) (b : Int) : (spRot).out [.own 5 (encL l), .d (.one (.int .i64 a)), .d (.one (.int .i64 m)), .d (.one (.int .i64 b)), .d (.one (.fn 53))] = [.own 5 (encL (rotSeg l a.toNat m.toNat b.toNat)), .gone, .gone, .gone, .gone] := Spec.of_out spRot_inj (l, a, m, b)
set_option maxHeartbeats 2000000 in
theorem rot_sound : Sound Go.Proofs.Try.prog 80 spRot := by
  refine sound_fam (GOK.cons call_swapR swapR_sound GOK.nil) Go.Proofs.Try.func80 (c := Go.Proofs.Try.f80.body.getD .skip) rfl (n := 58) rfl chk_rot rs_rot (fun _ => by simp) ?_ ?_
  · exact spRot_inj
  · rintro ⟨l, a, m, b⟩ ⟨h1, ha, hm, hb, h2⟩
    simp only [lenB] at h1 ha hm hb h2
    obtain ⟨a, rfl⟩ := Int.eq_ofNat_of_zero_le ha
    obtain ⟨m, rfl⟩ := Int.eq_ofNat_of_zero_le (a := m) (by omega)
    obtain ⟨b, rfl⟩ := Int.eq_ofNat_of_zero_le (a := b) (by omega)
    obtain ⟨PX, Y, C, hl, k1, k2⟩ := split3 (l := l) (a := m) (b := b) (by omega) (by omega)
    obtain ⟨A, X, rfl, k3⟩ := split_at (l := PX) (a := a) (by omega)
    rw [List.length_append] at k1 k2
    subst hl
    have ht := rotSeg_at (A := A) (X := X) (Y := Y) (C := C) (a := a) (m := m) (b := b) k3 k1 k2
    have c6 : (m : Int) - (a : Int) = (X.length : Int) := by omega
    have c7 : (b : Int) - (m : Int) = (Y.length : Int) := by omega
    simp only [x_rot, rg, go_sem, seval, Int.toNat_natCast, ht, c6, c7]
    repeat' (first | with_reducible assumption | with_reducible refine And.intro ?_ ?_ | intro _)
    all_goals first | omega | skip
    refine pw_loop (ι := (Nat × Nat) × List T × List T × List T × List T) (fun z => z.1.1 + z.1.2) (fun z => 0 < z.1.1 ∧ 0 < z.1.2 ∧ z.2.2.1.length = z.1.1 ∧ z.2.2.2.1.length = z.1.2 ∧ z.2.1.length + z.1.1 = m ∧ z.2.1 ++ z.2.2.2.1 ++ z.2.2.1 ++ z.2.2.2.2 = A ++ Y ++ X ++ C ∧ z.2.1.length + z.1.1 + z.1.2 + z.2.2.2.2.length = (A ++ X ++ Y ++ C).length)
      (fun z => ⟨[(0, .q (.own 1000000058)), (2, .q (.c (.int .i64 m))), (4, .q (.c (.fn 53))), (10, .q (.c (.int .i64 z.1.1))), (11, .q (.c (.int .i64 z.1.2)))], [], [(1000000058, 5, encL (z.2.1 ++ z.2.2.1 ++ z.2.2.2.1 ++ z.2.2.2.2))]⟩)
      ((X.length, Y.length), A, X, Y, C) ⟨by show 0 < X.length; omega, by show 0 < Y.length; omega, rfl, rfl, k1, rfl, by simp; omega⟩ (Le.refl _) ?_
    rintro ⟨⟨i, j⟩, L, U, V, R⟩ ⟨g1, g2, g3, g4, g5, g6, g7⟩
    simp only at g1 g2 g3 g4 g5 g6 g7
    have hlen : (L ++ U ++ V ++ R).length = (A ++ X ++ Y ++ C).length := by simp only [List.length_append] at g7 ⊢; omega
    have e1 : ((m : Int) - (i : Int)).toNat = L.length := by omega
    have c5 : (m : Int) - (i : Int) = (L.length : Int) := by omega
    simp only [List.length_append] at h1 h2 hlen
    by_cases hij : i = j
    · subst hij
      have b1 : ((i : Int) = (i : Int)) = True := eq_true rfl
      have b2 := swpSeg_at (A := L) (a := L.length) (b := m) rfl (n := i) (X := U) (Y := V) (B := []) (C := R) g3 g4 (by simp; omega)
      rw [List.append_nil, List.append_nil] at b2
      rw [g6] at b2
      simp only [rg, go_sem, seval, Prod.fst, b1, e1, b2, Int.toNat_natCast, spSwapR_md, spSwapR_pre, spSwapR_alts, spSwapR_res, spSwapR_out, lenB, List.length_append]
      repeat' (first | with_reducible assumption | with_reducible refine And.intro ?_ ?_ | intro _)
      all_goals first | omega | skip
    · have b1 : ((i : Int) = (j : Int)) = False := eq_false (by omega)
      by_cases hgt : j < i
      · have b2 : ((j : Int) < (i : Int)) = True := eq_true (by omega)
        obtain ⟨U1, U2, rfl, k4⟩ := split_at (l := U) (a := j) (by omega)
        rw [List.length_append] at g3
        simp only [List.length_append] at hlen g7
        have b3 := swpSeg_at (A := L) (a := L.length) (b := m) rfl (n := j) (X := U1) (Y := V) (B := U2) (C := R) k4 g4 (by omega)
        have b4 : L ++ (U1 ++ U2) ++ V ++ R = L ++ U1 ++ U2 ++ V ++ R := by simp
        have b5 : (i : Int) - (j : Int) = ((i - j : Nat) : Int) := by omega
        simp only [rg, go_sem, seval, Prod.fst, b1, b2, b3, b4, b5, e1, Int.toNat_natCast, spSwapR_md, spSwapR_pre, spSwapR_alts, spSwapR_res, spSwapR_out, lenB, List.length_append]
        repeat' (first | with_reducible assumption | with_reducible refine And.intro ?_ ?_ | intro _)
        all_goals first | omega | skip
        refine ⟨((i - j, j), L ++ V, U2, U1, R), ⟨by show 0 < i - j; omega, g2, by show U2.length = i - j; omega, k4, by show (L ++ V).length + (i - j) = m; rw [List.length_append]; omega, ?_, ?_⟩, by show i - j + j < i + j; omega, Le.of_eq (by simp)⟩
        · rw [← g6]; simp
        · simp only [List.length_append] at g7 ⊢; omega
      · have b2 : ((j : Int) < (i : Int)) = False := eq_false (by omega)
        obtain ⟨V1, V2, rfl, k4⟩ := split_at (l := V) (a := j - i) (by omega)
        rw [List.length_append] at g4
        simp only [List.length_append] at hlen g7
        have b3 := swpSeg_at (A := L) (a := L.length) (b := m + j - i) rfl (n := i) (X := U) (Y := V2) (B := V1) (C := R) g3 (by omega) (by omega)
        have b4 : L ++ U ++ (V1 ++ V2) ++ R = L ++ U ++ V1 ++ V2 ++ R := by simp
        have b5 : (j : Int) - (i : Int) = ((j - i : Nat) : Int) := by omega
        have b6 : ((m : Int) + (j : Int) - (i : Int)).toNat = m + j - i := by omega
        simp only [rg, go_sem, seval, Prod.fst, b1, b2, b3, b4, b5, b6, e1, Int.toNat_natCast, spSwapR_md, spSwapR_pre, spSwapR_alts, spSwapR_res, spSwapR_out, lenB, List.length_append]
        repeat' (first | with_reducible assumption | with_reducible refine And.intro ?_ ?_ | intro _)
        all_goals first | omega | skip
        refine ⟨((i, j - i), L, V2, V1, U ++ R), ⟨g1, by show 0 < j - i; omega, by show V2.length = i; omega, k4, g5, ?_, ?_⟩, by show i + (j - i) < i + j; omega, Le.of_eq (by simp)⟩
        · rw [← g6]; simp
        · simp only [List.length_append] at g7 ⊢; omega
end Go.Proofs.Pw
