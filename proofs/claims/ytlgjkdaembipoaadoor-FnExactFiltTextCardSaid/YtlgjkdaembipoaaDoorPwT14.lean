/- What is a filter that is ok: the specification's functions, the whole. -/
import Derived.Test.YtlgjkdaembipoaaDoorPwT13
import Derived.Test.YtlgjkdaembipoaaDoorPwT10
set_option linter.unusedSimpArgs false
set_option linter.unusedVariables false
set_option linter.unusedSimpArgs false
set_option maxRecDepth 20000
namespace Go.Proofs.Pw
set_option linter.unusedSectionVars false
variable [Globs]
def x_l4Form : X := (.seq (.reg [⟨some 2, none, .box (.t 0) (some 9)⟩, ⟨some 4, none, .mv (.k (.c (.bool false)))⟩] none [1, 2]) (.seq (.seq (.reg [⟨some 6, none, .mv (.t 1)⟩, ⟨some 7, none, .bin false .lss (.t 6) (.k (.c (.int .i64 1)))⟩, ⟨some 8, none, .mv (.t 7)⟩, ⟨some 9, some (8, false), .fa (.t 2) 0⟩, ⟨some 10, some (8, false), .load (.t 9) none⟩, ⟨some 11, some (8, false), .call 65 [(.t 10)]⟩, ⟨some 12, some (8, false), .fa (.t 2) 8⟩, ⟨some 13, some (8, false), .load (.t 12) none⟩, ⟨some 14, some (8, false), .len (.t 13) false⟩, ⟨some 15, some (8, false), .bin false .neq (.t 11) (.t 14)⟩, ⟨some 16, none, .pick (.t 8) (.k (.c (.bool true))) (.t 15)⟩, ⟨some 17, none, .mv (.t 16)⟩, ⟨some 18, some (17, false), .load (.t 2) (some 9)⟩, ⟨some 19, some (17, false), .call 66 [(.t 18)]⟩, ⟨some 20, some (17, false), .not (.t 19)⟩, ⟨some 21, none, .pick (.t 17) (.k (.c (.bool true))) (.t 20)⟩, ⟨some 22, none, .mv (.t 21)⟩, ⟨some 23, some (22, false), .fa (.t 2) 2⟩, ⟨some 24, some (22, false), .load (.t 23) none⟩, ⟨some 25, some (22, false), .call 67 [(.t 24)]⟩, ⟨some 26, some (22, false), .not (.t 25)⟩, ⟨some 27, none, .pick (.t 22) (.k (.c (.bool true))) (.t 26)⟩, ⟨some 28, none, .mv (.t 27)⟩, ⟨some 29, some (28, false), .fa (.t 2) 1⟩, ⟨some 30, some (28, false), .load (.t 29) none⟩, ⟨some 31, some (28, false), .bin false .lss (.t 30) (.k (.c (.int .i64 (-60))))⟩, ⟨some 32, none, .pick (.t 28) (.k (.c (.bool true))) (.t 31)⟩, ⟨some 33, none, .mv (.t 32)⟩, ⟨some 34, some (33, false), .fa (.t 2) 1⟩, ⟨some 35, some (33, false), .load (.t 34) none⟩, ⟨some 36, some (33, false), .bin false .geq (.t 35) (.k (.c (.int .i64 60)))⟩, ⟨some 37, none, .pick (.t 33) (.k (.c (.bool true))) (.t 36)⟩, ⟨some 38, none, .mv (.t 37)⟩, ⟨some 39, some (38, false), .fa (.t 2) 3⟩, ⟨some 40, some (38, false), .load (.t 39) (some 5)⟩, ⟨some 41, some (38, false), .call 56 [(.t 40)]⟩, ⟨some 42, some (38, false), .not (.t 41)⟩, ⟨some 43, none, .pick (.t 38) (.k (.c (.bool true))) (.t 42)⟩] (some 9) [1, 2, 43]) (.cond (.t 43) (.seq (.reg [⟨some 4, none, .mv (.k (.c (.bool false)))⟩] none [4]) .ret) .skip)) (.seq (.seq (.reg [⟨some 5, none, .mv (.k (.c (.int .i64 0)))⟩] none [1, 2, 5]) (.block 0 (.loop (.seq (.seq (.reg [⟨some 44, none, .mv (.t 5)⟩, ⟨some 45, none, .fa (.t 2) 8⟩, ⟨some 46, none, .load (.t 45) none⟩, ⟨some 47, none, .len (.t 46) false⟩, ⟨some 48, none, .bin false .lss (.t 44) (.t 47)⟩] none [1, 2, 5, 48]) (.cond (.t 48) .skip (.exit 0))) (.seq (.block 1 (.seq (.reg [⟨some 51, none, .fa (.t 2) 8⟩, ⟨some 52, none, .load (.t 51) none⟩, ⟨some 53, none, .mv (.t 5)⟩, ⟨some 54, none, .ia (.t 52) (.t 53) 9⟩, ⟨some 55, none, .load (.t 54) (some 9)⟩, ⟨some 56, none, .mv (.t 1)⟩, ⟨some 57, none, .bin false .sub (.t 56) (.k (.c (.int .i64 1)))⟩, ⟨some 58, none, .call 45 [(.t 55), (.t 57)]⟩, ⟨some 59, none, .not (.t 58)⟩] none [1, 2, 5, 59]) (.cond (.t 59) (.seq (.reg [⟨some 4, none, .mv (.k (.c (.bool false)))⟩] none [4]) .ret) .skip))) (.reg [⟨some 49, none, .mv (.t 5)⟩, ⟨some 50, none, .bin false .add (.t 49) (.k (.c (.int .i64 1)))⟩, ⟨some 5, none, .mv (.t 50)⟩] none [1, 2, 5])))))) (.seq (.reg [⟨some 60, none, .fa (.t 2) 0⟩, ⟨some 61, none, .load (.t 60) none⟩, ⟨some 62, none, .bin false .neq (.t 61) (.k (.c (.int .i64 20)))⟩, ⟨some 63, none, .mv (.t 62)⟩, ⟨some 64, some (63, false), .fa (.t 2) 8⟩, ⟨some 65, some (63, false), .load (.t 64) none⟩, ⟨some 66, some (63, false), .ia (.t 65) (.k (.c (.int .i64 0))) 9⟩, ⟨some 67, some (63, false), .load (.t 66) (some 9)⟩, ⟨some 68, some (63, false), .call 68 [(.t 67)]⟩, ⟨some 69, none, .pick (.t 63) (.k (.c (.bool true))) (.t 68)⟩, ⟨some 4, none, .mv (.t 69)⟩] none [4]) .ret))))
theorem chk_l4Form : chkX Go.Proofs.Tryd.prog 70 (Go.Proofs.Tryd.f45.body.getD .skip) x_l4Form = true := by kernel_rfl
theorem rs_l4Form : okRs Go.Proofs.Tryd.prog Go.Proofs.Tryd.f45.results.toList [.tmp 4] = true := by kernel_rfl
theorem call_l4Form : okCallee Go.Proofs.Tryd.prog 45 = true := by kernel_rfl
def x_l4Many : X := (.seq (.reg [⟨some 2, none, .box (.t 0) (some 9)⟩, ⟨some 4, none, .mv (.k (.c (.int .i64 0)))⟩] none [1, 2]) (.seq (.reg [⟨some 5, none, .mv (.k (.c (.int .i64 1)))⟩] none [1, 2, 5]) (.seq (.seq (.reg [⟨some 6, none, .mv (.k (.c (.int .i64 0)))⟩] none [1, 2, 5, 6]) (.block 0 (.loop (.seq (.seq (.reg [⟨some 7, none, .mv (.t 6)⟩, ⟨some 8, none, .fa (.t 2) 8⟩, ⟨some 9, none, .load (.t 8) none⟩, ⟨some 10, none, .len (.t 9) false⟩, ⟨some 11, none, .bin false .lss (.t 7) (.t 10)⟩, ⟨some 12, none, .mv (.t 11)⟩, ⟨some 13, some (12, true), .mv (.t 1)⟩, ⟨some 14, some (12, true), .bin false .gtr (.t 13) (.k (.c (.int .i64 0)))⟩, ⟨some 15, none, .pick (.t 12) (.t 14) (.k (.c (.bool false)))⟩] none [1, 2, 5, 6, 15]) (.cond (.t 15) .skip (.exit 0))) (.seq (.block 1 (.reg [⟨some 18, none, .mv (.t 5)⟩, ⟨some 19, none, .fa (.t 2) 8⟩, ⟨some 20, none, .load (.t 19) none⟩, ⟨some 21, none, .mv (.t 6)⟩, ⟨some 22, none, .ia (.t 20) (.t 21) 9⟩, ⟨some 23, none, .load (.t 22) (some 9)⟩, ⟨some 24, none, .mv (.t 1)⟩, ⟨some 25, none, .bin false .sub (.t 24) (.k (.c (.int .i64 1)))⟩, ⟨some 26, none, .call 46 [(.t 23), (.t 25)]⟩, ⟨some 27, none, .bin false .add (.t 18) (.t 26)⟩, ⟨some 5, none, .mv (.t 27)⟩] none [1, 2, 5, 6])) (.reg [⟨some 16, none, .mv (.t 6)⟩, ⟨some 17, none, .bin false .add (.t 16) (.k (.c (.int .i64 1)))⟩, ⟨some 6, none, .mv (.t 17)⟩] none [1, 2, 5, 6])))))) (.seq (.reg [⟨some 28, none, .mv (.t 5)⟩, ⟨some 4, none, .mv (.t 28)⟩] none [4]) .ret))))
theorem chk_l4Many : chkX Go.Proofs.Tryd.prog 29 (Go.Proofs.Tryd.f46.body.getD .skip) x_l4Many = true := by kernel_rfl
theorem rs_l4Many : okRs Go.Proofs.Tryd.prog Go.Proofs.Tryd.f46.results.toList [.tmp 4] = true := by kernel_rfl
theorem call_l4Many : okCallee Go.Proofs.Tryd.prog 46 = true := by kernel_rfl
def x_FiltOk : X := (.seq (.reg [⟨some 1, none, .box (.t 0) (some 9)⟩, ⟨some 2, none, .mv (.k (.c (.bool false)))⟩] none [1]) (.seq (.reg [⟨some 3, none, .load (.t 1) (some 9)⟩, ⟨some 4, none, .call 45 [(.t 3), (.k (.c (.int .i64 7)))]⟩, ⟨some 5, none, .mv (.t 4)⟩, ⟨some 6, some (5, true), .load (.t 1) (some 9)⟩, ⟨some 7, some (5, true), .call 46 [(.t 6), (.k (.c (.int .i64 7)))]⟩, ⟨some 8, some (5, true), .bin false .leq (.t 7) (.k (.c (.int .i64 16)))⟩, ⟨some 9, none, .pick (.t 5) (.t 8) (.k (.c (.bool false)))⟩, ⟨some 2, none, .mv (.t 9)⟩] none [2]) .ret))
theorem chk_FiltOk : chkX Go.Proofs.Tryd.prog 10 (Go.Proofs.Tryd.f25.body.getD .skip) x_FiltOk = true := by kernel_rfl
theorem rs_FiltOk : okRs Go.Proofs.Tryd.prog Go.Proofs.Tryd.f25.results.toList [.tmp 2] = true := by kernel_rfl
theorem call_FiltOk : okCallee Go.Proofs.Tryd.prog 25 = true := by kernel_rfl
noncomputable def spFormF (k:Nat) : Spec := Spec.of (ι := F × Int) [false, false] (fun i => [.d (.agg i.1.enc), .d (.one (.int .i64 i.2))]) (fun i => (i.1.fit 140737488355328 ∧ smallF i.1 ∧ -1 ≤ i.2 ∧ i.2 ≤ 1000) ∧ SizeOf.sizeOf i.1 < k) (fun i => [.d (.one (.bool (decide (formF i.1 i.2))))]) (fun _ => [.gone, .gone])
theorem spFormF_inj : ∀ i j : F × Int, (fun (i : F × Int) => ([.d (.agg i.1.enc), .d (.one (.int .i64 i.2))] : List AV)) i = (fun (i : F × Int) => ([.d (.agg i.1.enc), .d (.one (.int .i64 i.2))] : List AV)) j → i = j := by
  rintro ⟨t, d⟩ ⟨t', d'⟩ h
  simp only [Prod.mk.injEq]
  simpa [strs_eq, T.enc_eq, encL_eq, F.enc_eq, encF_eq, Tk.enc_eq, encTk_eq, Gn.enc_eq, ints_eq] using h
theorem spFormF_md (k:Nat) : (spFormF k).md = [false, false] := rfl
theorem spFormF_pre (k:Nat) (t : F) (d : Int) : (spFormF k).pre [.d (.agg t.enc), .d (.one (.int .i64 d))] = ((t.fit 140737488355328 ∧ smallF t ∧ -1 ≤ d ∧ d ≤ 1000) ∧ SizeOf.sizeOf t < k) := Spec.of_pre' spFormF_inj (t, d)
theorem spFormF_alts (k:Nat) : (spFormF k).alts = none := rfl
theorem spFormF_res (k:Nat) (t : F) (d : Int) : (spFormF k).res [.d (.agg t.enc), .d (.one (.int .i64 d))] = [.d (.one (.bool (decide (formF t d))))] := Spec.of_res spFormF_inj (t, d)
theorem spFormF_out (k:Nat) (t : F) (d : Int) : (spFormF k).out [.d (.agg t.enc), .d (.one (.int .i64 d))] = [.gone, .gone] := Spec.of_out spFormF_inj (t, d)
set_option maxHeartbeats 1000000 in
theorem l4Form_sound (k : Nat) (hS : Sound Go.Proofs.Tryd.prog 45 (spFormF k)) : Sound Go.Proofs.Tryd.prog 45 (spFormF (k + 1)) := by
  refine sound_fam (GOK.cons (l := [(66, spClean), (68, spWayD), (67, spOkS), (56, spOkT), (45, spFormF k)]) call_l4Kids l4Kids_sound (GOK.cons call_l4Clean l4Clean_sound (GOK.cons call_l4Way wayD_sound (GOK.cons call_l1Str l1Str_sound (GOK.cons call_ValOk sOkT_sound (GOK.cons call_l4Form hS GOK.nil)))))) Go.Proofs.Tryd.func45 (c := Go.Proofs.Tryd.f45.body.getD .skip) rfl (n := 70) rfl chk_l4Form rs_l4Form (fun _ => by simp) ?_ ?_
  · exact spFormF_inj
  · rintro ⟨t, d⟩ ⟨⟨h1, h2, h3, h3'⟩, h4⟩
    obtain ⟨kk, n, s, v, l⟩ := t
    have hfull := h1
    obtain ⟨vk, vn, vs, vks, vl⟩ := v
    simp only [F.fit, smallF] at h1 h2
    obtain ⟨_, _, f1, f2, f3, f4⟩ := h1
    obtain ⟨g1, g2⟩ := h2
    simp only at h3 h3'
    generalize hv : T.mk vk vn vs vks vl = v at *
    have e3 : SizeOf.sizeOf l < k := by have e : SizeOf.sizeOf (F.mk kk n s v l) < k + 1 := h4
                                        rw [F.mk.sizeOf_spec] at e; omega
    clear h4
    have e6 : v.enc = [.int .i64 vk, .int .i64 vn, .str vs, .row 1 (strs vks), .row 5 (encL vl)] := by rw [← hv]; rfl
    have hF : formF (F.mk kk n s v l) d ↔ (1 ≤ d ∧ kidsOf kk = l.length ∧ cleanQ (F.mk kk n s v l) ∧ okS s ∧ -60 ≤ n ∧ n < 60 ∧ okT v ∧ formFL l (d - 1) ∧ (kk = 20 → wayL l 0)) := by simp only [formF, cleanQ]
    have p1 := spOkT_pre v
    have p2 := spOkT_res v
    have p3 := spOkT_out v
    have c1 := spClean_pre (F.mk kk n s v l)
    have c2 := spClean_res (F.mk kk n s v l)
    have c3 := spClean_out (F.mk kk n s v l)
    rw [e6] at p1 p2 p3
    simp only [F.enc, e6, List.cons_append, List.nil_append] at c1 c2 c3
    have hlen : (l.length : Int) ≤ 140737488355328 := f3
    simp only [x_l4Form, F.enc, e6, go_sem, seval, rg, spOkT_md, spOkT_alts, p1, p2, p3, spClean_md, spClean_alts, c1, c2, c3, spKids_md, spKids_pre, spKids_alts, spKids_res, spKids_out, spOkS_md, spOkS_pre, spOkS_alts, spOkS_res, spOkS_out]
    repeat' (first | with_reducible assumption | with_reducible refine And.intro ?_ ?_ | intro _)
    all_goals first | omega | (grind; done) | skip
    have hb : formF (F.mk kk n s v l) d ↔ (formFL l (d - 1) ∧ (kk = 20 → wayL l 0)) := by grind
    have hk : kk = 20 → l.length = 2 := fun h => by
      have e : kidsOf kk = 2 := by subst h; decide
      have : kidsOf kk = l.length := by grind
      omega
    have hd : 1 ≤ d := by omega
    clear hF c1 c2 c3 p1 p2 p3 hfull
    repeat (rename_i hx; clear hx)
    refine pw_loop (ι := Nat) (fun i => l.length - i) (fun i => i ≤ l.length ∧ ∀ t ∈ l.take i, formF t (d - 1))
      (fun i => ⟨[(1, .q (.c (.int .i64 d))), (2, .q (.box 2 0)), (5, .q (.c (.int .i64 i)))], [(2, [.c (.int .i64 kk), .c (.int .i64 n), .c (.str s), .c (.int .i64 vk), .c (.int .i64 vn), .c (.str vs), .c (.row 1 (strs vks)), .c (.row 5 (encL vl)), .c (.row 9 (encF l))])], []⟩) 0 ⟨Nat.zero_le _, by simp⟩ (Le.refl _) ?_
    rintro i ⟨hi, hall⟩
    rcases Nat.lt_or_ge i l.length with hlt | hge
    · obtain ⟨t, ht, _, hmem⟩ := drop_at hlt
      have a1 := encF_at ht
      have a2 : ((i : Int) < (l.length : Int)) = True := by simp; omega
      have a3 := fitF_mem f4 t hmem
      have a4 := size_mem hmem
      have a5 := smallFL_mem.1 g2 t hmem
      have a6 := F.enc_len t
      simp only [go_sem, seval, rg, a1, a2, a6, spFormF_md, spFormF_pre, spFormF_alts, spFormF_res, spFormF_out]
      repeat' (first | with_reducible assumption | with_reducible refine And.intro ?_ ?_ | intro _)
      all_goals first | omega | skip
      · rename_i hc ho
        exact hc (formFL_mem.1 (hb.1 ho).1 t hmem)
      · rename_i hc _
        refine ⟨i + 1, ⟨by omega, fun y hy => ?_⟩, by omega, Le.refl _⟩
        rw [List.take_add_one, ht] at hy
        rcases List.mem_append.1 hy with hy | hy
        · exact hall y hy
        · simp at hy; subst hy; exact Classical.not_not.1 hc
    · have a2 : ((i : Int) < (l.length : Int)) = False := by simp; omega
      rw [List.take_of_length_le hge] at hall
      have hfl := formFL_mem.2 hall
      have z0 : (0 : Int).toNat = 0 := rfl
      cases l with
      | nil =>
        have h20 : (kk = 20) = False := by simp; intro h; have := hk h; simp at this
        simp only [go_sem, seval, rg, a2, z0, encF, h20, spWayD_md, spWayD_alts, spWayD_pre0, spWayD_res0, spWayD_out0]
        repeat' (first | with_reducible assumption | with_reducible refine And.intro ?_ ?_ | intro _)
        all_goals first | omega | (grind; done) | skip
      | cons x r =>
        have a6 := F.enc_len x
        have a7 := fitF_mem f4 x (by simp)
        have a8 := formF_kinded (hall x (by simp))
        have a9 : wayL (x :: r) 0 = wayF x := by simp [wayL]
        rw [a9] at hb
        simp only [go_sem, seval, rg, a2, z0, encF, a6, spWayD_md, spWayD_pre, spWayD_alts, spWayD_res, spWayD_out]
        repeat' (first | with_reducible assumption | with_reducible refine And.intro ?_ ?_ | intro _)
        all_goals first | omega | (grind; done) | skip
theorem formF_all : ∀ k, Sound Go.Proofs.Tryd.prog 45 (spFormF k) := fun k => Nat.rec Sound.none (fun k ih => l4Form_sound k ih) k
noncomputable def spManyF (k:Nat) : Spec := Spec.of (ι := F × Int) [false, false] (fun i => [.d (.agg i.1.enc), .d (.one (.int .i64 i.2))]) (fun i => (i.1.fit 140737488355328 ∧ sizeF i.1 ≤ 1048577 ∧ -1 ≤ i.2 ∧ i.2 ≤ 1000) ∧ SizeOf.sizeOf i.1 < k) (fun i => [.d (.one (.int .i64 (manyF i.1 i.2)))]) (fun _ => [.gone, .gone])
theorem spManyF_inj : ∀ i j : F × Int, (fun (i : F × Int) => ([.d (.agg i.1.enc), .d (.one (.int .i64 i.2))] : List AV)) i = (fun (i : F × Int) => ([.d (.agg i.1.enc), .d (.one (.int .i64 i.2))] : List AV)) j → i = j := by
  rintro ⟨t, d⟩ ⟨t', d'⟩ h
  simp only [Prod.mk.injEq]
  simpa [strs_eq, T.enc_eq, encL_eq, F.enc_eq, encF_eq, Tk.enc_eq, encTk_eq, Gn.enc_eq, ints_eq] using h
theorem spManyF_md (k:Nat) : (spManyF k).md = [false, false] := rfl
theorem spManyF_pre (k:Nat) (t : F) (d : Int) : (spManyF k).pre [.d (.agg t.enc), .d (.one (.int .i64 d))] = ((t.fit 140737488355328 ∧ sizeF t ≤ 1048577 ∧ -1 ≤ d ∧ d ≤ 1000) ∧ SizeOf.sizeOf t < k) := Spec.of_pre' spManyF_inj (t, d)
theorem spManyF_alts (k:Nat) : (spManyF k).alts = none := rfl
theorem spManyF_res (k:Nat) (t : F) (d : Int) : (spManyF k).res [.d (.agg t.enc), .d (.one (.int .i64 d))] = [.d (.one (.int .i64 (manyF t d)))] := Spec.of_res spManyF_inj (t, d)
theorem spManyF_out (k:Nat) (t : F) (d : Int) : (spManyF k).out [.d (.agg t.enc), .d (.one (.int .i64 d))] = [.gone, .gone] := Spec.of_out spManyF_inj (t, d)
theorem l4Many_sound (k : Nat) (hS : Sound Go.Proofs.Tryd.prog 46 (spManyF k)) : Sound Go.Proofs.Tryd.prog 46 (spManyF (k + 1)) := by
  refine sound_fam (GOK.cons call_l4Many hS GOK.nil) Go.Proofs.Tryd.func46 (c := Go.Proofs.Tryd.f46.body.getD .skip) rfl (n := 29) rfl chk_l4Many rs_l4Many (fun _ => by simp) ?_ ?_
  · exact spManyF_inj
  · rintro ⟨t, d⟩ ⟨⟨h1, h2, h3, h3'⟩, h4⟩
    obtain ⟨kk, n, s, v, l⟩ := t
    obtain ⟨vk, vn, vs, vks, vl⟩ := v
    simp only [F.fit, lenB] at h1
    obtain ⟨_, _, f1, f2, f3, f4⟩ := h1
    generalize hv : T.mk vk vn vs vks vl = v at *
    have e3 : SizeOf.sizeOf l < k := by have e : SizeOf.sizeOf (F.mk kk n s v l) < k + 1 := h4
                                        rw [F.mk.sizeOf_spec] at e; omega
    clear h4
    have e6 : v.enc = [.int .i64 vk, .int .i64 vn, .str vs, .row 1 (strs vks), .row 5 (encL vl)] := by rw [← hv]; rfl
    simp only [sizeF] at h2 h3 h3'
    simp only [x_l4Many, F.enc, e6, go_sem, seval, rg, manyF]
    refine pw_loop (ι := Nat × Int) (fun i => l.length - i.1) (fun i => i.1 ≤ l.length ∧ 1 ≤ i.2 ∧ i.2 + manyFL (l.drop i.1) d = 1 + manyFL l d ∧ i.2 + sizeFL (l.drop i.1) ≤ 1 + sizeFL l)
      (fun i => ⟨[(1, .q (.c (.int .i64 d))), (2, .q (.box 2 0)), (5, .q (.c (.int .i64 i.2))), (6, .q (.c (.int .i64 i.1)))], [(2, [.c (.int .i64 kk), .c (.int .i64 n), .c (.str s), .c (.int .i64 vk), .c (.int .i64 vn), .c (.str vs), .c (.row 1 (strs vks)), .c (.row 5 (encL vl)), .c (.row 9 (encF l))])], []⟩) (0, 1) ⟨Nat.zero_le _, by simp, by simp, by simp⟩ (Le.refl _) ?_
    rintro ⟨i, m⟩ ⟨hi, hm, hsum, hsz⟩
    simp only at hi hm hsum hsz
    have hz := fun l => manyFL_le l d
    rcases Nat.lt_or_ge i l.length with hlt | hge
    · obtain ⟨t, ht, hdr, hmem⟩ := drop_at hlt
      have a1 := encF_at ht
      have a2 : ((i : Int) < (l.length : Int)) = True := by simp; omega
      have a3 := fitF_mem f4 t hmem
      have a4 := size_mem hmem
      have a5 := sizeFL_at ht
      have a6 := F.enc_len t
      have a7 := manyF_le t (d - 1)
      have a8 := hz (l.drop (i + 1))
      rw [hdr] at hsum hsz
      simp only [manyFL, sizeFL] at hsum hsz
      simp only [go_sem, seval, rg, a1, a2, a6, spManyF_md, spManyF_pre, spManyF_alts, spManyF_res, spManyF_out]
      repeat' (first | with_reducible assumption | with_reducible refine And.intro ?_ ?_ | intro _)
      all_goals first | omega | skip
      rename_i hd _ _
      rw [if_pos (by omega)] at hsum
      exact ⟨(i + 1, m + manyF t (d - 1)), ⟨by simp only; omega, by simp only; omega, by simp only; omega, by simp only; omega⟩, by simp only; omega, Le.refl _⟩
    · have a2 : ((i : Int) < (l.length : Int)) = False := by simp; omega
      rw [List.drop_eq_nil_of_le hge] at hsum
      simp only [manyFL] at hsum
      simp only [go_sem, seval, rg, a2]
      repeat' (first | with_reducible assumption | with_reducible refine And.intro ?_ ?_ | intro _)
      all_goals first | omega | skip
theorem manyF_all : ∀ k, Sound Go.Proofs.Tryd.prog 46 (spManyF k) := fun k => Nat.rec Sound.none (fun k ih => l4Many_sound k ih) k
noncomputable def spFormFV  : Spec := Spec.of (ι := F × Int) [false, false] (fun i => [.d (.agg i.1.enc), .d (.one (.int .i64 i.2))]) (fun i => i.1.fit 140737488355328 ∧ smallF i.1 ∧ -1 ≤ i.2 ∧ i.2 ≤ 1000) (fun i => [.d (.one (.bool (decide (formF i.1 i.2))))]) (fun _ => [.gone, .gone])
theorem spFormFV_inj : ∀ i j : F × Int, (fun (i : F × Int) => ([.d (.agg i.1.enc), .d (.one (.int .i64 i.2))] : List AV)) i = (fun (i : F × Int) => ([.d (.agg i.1.enc), .d (.one (.int .i64 i.2))] : List AV)) j → i = j := by
  rintro ⟨t, d⟩ ⟨t', d'⟩ h
  simp only [Prod.mk.injEq]
  simpa [strs_eq, T.enc_eq, encL_eq, F.enc_eq, encF_eq, Tk.enc_eq, encTk_eq, Gn.enc_eq, ints_eq] using h
theorem spFormFV_md  : (spFormFV).md = [false, false] := rfl
theorem spFormFV_pre  (t : F) (d : Int) : (spFormFV).pre [.d (.agg t.enc), .d (.one (.int .i64 d))] = (t.fit 140737488355328 ∧ smallF t ∧ -1 ≤ d ∧ d ≤ 1000) := Spec.of_pre' spFormFV_inj (t, d)
theorem spFormFV_alts  : (spFormFV).alts = none := rfl
theorem spFormFV_res  (t : F) (d : Int) : (spFormFV).res [.d (.agg t.enc), .d (.one (.int .i64 d))] = [.d (.one (.bool (decide (formF t d))))] := Spec.of_res spFormFV_inj (t, d)
theorem spFormFV_out  (t : F) (d : Int) : (spFormFV).out [.d (.agg t.enc), .d (.one (.int .i64 d))] = [.gone, .gone] := Spec.of_out spFormFV_inj (t, d)
noncomputable def spManyFV  : Spec := Spec.of (ι := F × Int) [false, false] (fun i => [.d (.agg i.1.enc), .d (.one (.int .i64 i.2))]) (fun i => i.1.fit 140737488355328 ∧ sizeF i.1 ≤ 1048577 ∧ -1 ≤ i.2 ∧ i.2 ≤ 1000) (fun i => [.d (.one (.int .i64 (manyF i.1 i.2)))]) (fun _ => [.gone, .gone])
theorem spManyFV_inj : ∀ i j : F × Int, (fun (i : F × Int) => ([.d (.agg i.1.enc), .d (.one (.int .i64 i.2))] : List AV)) i = (fun (i : F × Int) => ([.d (.agg i.1.enc), .d (.one (.int .i64 i.2))] : List AV)) j → i = j := by
  rintro ⟨t, d⟩ ⟨t', d'⟩ h
  simp only [Prod.mk.injEq]
  simpa [strs_eq, T.enc_eq, encL_eq, F.enc_eq, encF_eq, Tk.enc_eq, encTk_eq, Gn.enc_eq, ints_eq] using h
theorem spManyFV_md  : (spManyFV).md = [false, false] := rfl
theorem spManyFV_pre  (t : F) (d : Int) : (spManyFV).pre [.d (.agg t.enc), .d (.one (.int .i64 d))] = (t.fit 140737488355328 ∧ sizeF t ≤ 1048577 ∧ -1 ≤ d ∧ d ≤ 1000) := Spec.of_pre' spManyFV_inj (t, d)
theorem spManyFV_alts  : (spManyFV).alts = none := rfl
theorem spManyFV_res  (t : F) (d : Int) : (spManyFV).res [.d (.agg t.enc), .d (.one (.int .i64 d))] = [.d (.one (.int .i64 (manyF t d)))] := Spec.of_res spManyFV_inj (t, d)
theorem spManyFV_out  (t : F) (d : Int) : (spManyFV).out [.d (.agg t.enc), .d (.one (.int .i64 d))] = [.gone, .gone] := Spec.of_out spManyFV_inj (t, d)
theorem formFV_sound : Sound Go.Proofs.Tryd.prog 45 spFormFV := Sound.all (μ := fun i => SizeOf.sizeOf i.1) formF_all
theorem manyFV_sound : Sound Go.Proofs.Tryd.prog 46 spManyFV := Sound.all (μ := fun i => SizeOf.sizeOf i.1) manyF_all
noncomputable def spOkF  : Spec := Spec.of (ι := F) [false] (fun i => [.d (.agg i.enc)]) (fun i => i.fit 140737488355328 ∧ smallF i ∧ sizeF i ≤ 1048577) (fun i => [.d (.one (.bool (decide (okF i))))]) (fun _ => [.gone])
theorem spOkF_inj : ∀ i j : F, (fun (i : F) => ([.d (.agg i.enc)] : List AV)) i = (fun (i : F) => ([.d (.agg i.enc)] : List AV)) j → i = j := by
  intro t t' h
  simpa [strs_eq, T.enc_eq, encL_eq, F.enc_eq, encF_eq, Tk.enc_eq, encTk_eq, Gn.enc_eq, ints_eq] using h
theorem spOkF_md  : (spOkF).md = [false] := rfl
theorem spOkF_pre  (t : F) : (spOkF).pre [.d (.agg t.enc)] = (t.fit 140737488355328 ∧ smallF t ∧ sizeF t ≤ 1048577) := Spec.of_pre' spOkF_inj t
theorem spOkF_alts  : (spOkF).alts = none := rfl
theorem spOkF_res  (t : F) : (spOkF).res [.d (.agg t.enc)] = [.d (.one (.bool (decide (okF t))))] := Spec.of_res spOkF_inj t
theorem spOkF_out  (t : F) : (spOkF).out [.d (.agg t.enc)] = [.gone] := Spec.of_out spOkF_inj t
theorem sOkF_sound : Sound Go.Proofs.Tryd.prog 25 spOkF := by
  refine sound_fam (GOK.cons (l := [(46, spManyFV)]) call_l4Form formFV_sound (GOK.cons call_l4Many manyFV_sound GOK.nil)) Go.Proofs.Tryd.func25 (c := Go.Proofs.Tryd.f25.body.getD .skip) rfl (n := 10) rfl chk_FiltOk rs_FiltOk (fun _ => by simp) ?_ ?_
  · exact spOkF_inj
  · rintro t ⟨h1, h2, h3⟩
    have a6 := F.enc_len t
    simp only [x_FiltOk, go_sem, seval, rg, a6, spFormFV_md, spFormFV_pre, spFormFV_alts, spFormFV_res, spFormFV_out, spManyFV_md, spManyFV_pre, spManyFV_alts, spManyFV_res, spManyFV_out]
    repeat' (first | with_reducible assumption | with_reducible refine And.intro ?_ ?_ | intro _)
    all_goals first | omega | skip
    exact decide_eq_decide.2 Iff.rfl
end Go.Proofs.Pw
/- What is a filter that is ok: the program's functions. -/
set_option linter.unusedSimpArgs false
set_option maxRecDepth 20000
namespace Go.Proofs.Pw
set_option linter.unusedSectionVars false
variable [Globs]
def x_looks : X := (.seq (.reg [⟨some 1, none, .box (.t 0) (some 9)⟩, ⟨some 2, none, .mv (.k (.c (.bool false)))⟩] none [1]) (.seq (.seq (.reg [⟨some 3, none, .fa (.t 1) 0⟩, ⟨some 4, none, .load (.t 3) none⟩] none [1, 4]) (.block 0 (.seq (.seq (.reg [⟨some 6, none, .bin false .eql (.t 4) (.k (.c (.int .i64 1)))⟩, ⟨some 5, none, .mv (.t 6)⟩] none [1, 4, 5]) (.cond (.t 5) .skip (.seq (.reg [⟨some 7, none, .bin false .eql (.t 4) (.k (.c (.int .i64 3)))⟩, ⟨some 5, none, .mv (.t 7)⟩] none [1, 4, 5]) (.cond (.t 5) .skip (.seq (.reg [⟨some 8, none, .bin false .eql (.t 4) (.k (.c (.int .i64 4)))⟩, ⟨some 5, none, .mv (.t 8)⟩] none [1, 4, 5]) (.cond (.t 5) .skip (.seq (.reg [⟨some 9, none, .bin false .eql (.t 4) (.k (.c (.int .i64 5)))⟩, ⟨some 5, none, .mv (.t 9)⟩] none [1, 4, 5]) (.cond (.t 5) .skip (.reg [⟨some 10, none, .bin false .eql (.t 4) (.k (.c (.int .i64 18)))⟩, ⟨some 5, none, .mv (.t 10)⟩] none [1, 4, 5]))))))))) (.cond (.t 5) (.seq (.reg [⟨some 2, none, .mv (.k (.c (.bool true)))⟩] none [2]) .ret) (.seq (.seq (.reg [⟨some 12, none, .bin false .eql (.t 4) (.k (.c (.int .i64 6)))⟩, ⟨some 11, none, .mv (.t 12)⟩] none [1, 4, 11]) (.cond (.t 11) .skip (.reg [⟨some 13, none, .bin false .eql (.t 4) (.k (.c (.int .i64 7)))⟩, ⟨some 11, none, .mv (.t 13)⟩] none [1, 4, 11]))) (.cond (.t 11) (.seq (.reg [⟨some 14, none, .fa (.t 1) 8⟩, ⟨some 15, none, .load (.t 14) none⟩, ⟨some 16, none, .ia (.t 15) (.k (.c (.int .i64 0))) 9⟩, ⟨some 17, none, .load (.t 16) (some 9)⟩, ⟨some 18, none, .call 71 [(.t 17)]⟩, ⟨some 19, none, .mv (.t 18)⟩, ⟨some 20, some (19, true), .fa (.t 1) 8⟩, ⟨some 21, some (19, true), .load (.t 20) none⟩, ⟨some 22, some (19, true), .ia (.t 21) (.k (.c (.int .i64 1))) 9⟩, ⟨some 23, some (19, true), .load (.t 22) (some 9)⟩, ⟨some 24, some (19, true), .call 71 [(.t 23)]⟩, ⟨some 25, none, .pick (.t 19) (.t 24) (.k (.c (.bool false)))⟩, ⟨some 2, none, .mv (.t 25)⟩] none [2]) .ret) (.seq (.reg [⟨some 27, none, .bin false .eql (.t 4) (.k (.c (.int .i64 8)))⟩, ⟨some 26, none, .mv (.t 27)⟩] none [1, 26]) (.cond (.t 26) (.seq (.reg [⟨some 28, none, .fa (.t 1) 8⟩, ⟨some 29, none, .load (.t 28) none⟩, ⟨some 30, none, .ia (.t 29) (.k (.c (.int .i64 1))) 9⟩, ⟨some 31, none, .load (.t 30) (some 9)⟩, ⟨some 32, none, .call 71 [(.t 31)]⟩, ⟨some 33, none, .mv (.t 32)⟩, ⟨some 34, some (33, true), .fa (.t 1) 8⟩, ⟨some 35, some (33, true), .load (.t 34) none⟩, ⟨some 36, some (33, true), .ia (.t 35) (.k (.c (.int .i64 2))) 9⟩, ⟨some 37, some (33, true), .load (.t 36) (some 9)⟩, ⟨some 38, some (33, true), .call 71 [(.t 37)]⟩, ⟨some 39, none, .pick (.t 33) (.t 38) (.k (.c (.bool false)))⟩, ⟨some 2, none, .mv (.t 39)⟩] none [2]) .ret) .skip)))))))) (.seq (.reg [⟨some 2, none, .mv (.k (.c (.bool false)))⟩] none [2]) .ret)))
theorem chk_looks : chkX Go.Proofs.Tryd.prog 40 (Go.Proofs.Tryd.f71.body.getD .skip) x_looks = true := by kernel_rfl
theorem rs_looks : okRs Go.Proofs.Tryd.prog Go.Proofs.Tryd.f71.results.toList [.tmp 2] = true := by kernel_rfl
theorem call_looks : okCallee Go.Proofs.Tryd.prog 71 = true := by kernel_rfl
def x_okF : X := (.seq (.reg [⟨some 3, none, .box (.t 0) (some 9)⟩, ⟨some 6, none, .mv (.k (.c (.bool false)))⟩] none [1, 2, 3]) (.seq (.reg [⟨some 10, none, .mv (.t 2)⟩, ⟨some 11, none, .nilc (.t 10)⟩, ⟨some 12, none, .load (.t 11) none⟩, ⟨some 13, none, .bin false .sub (.t 12) (.k (.c (.int .i64 1)))⟩, ⟨some 14, none, .nilc (.t 10)⟩, ⟨none, none, .st (.t 14) (.t 13) none⟩] none [1, 2, 3]) (.seq (.seq (.reg [⟨some 15, none, .mv (.t 2)⟩, ⟨some 16, none, .nilc (.t 15)⟩, ⟨some 17, none, .load (.t 16) none⟩, ⟨some 18, none, .bin false .lss (.t 17) (.k (.c (.int .i64 0)))⟩, ⟨some 19, none, .mv (.t 18)⟩, ⟨some 20, some (19, false), .mv (.t 1)⟩, ⟨some 21, some (19, false), .bin false .gtr (.t 20) (.k (.c (.int .i64 7)))⟩, ⟨some 22, none, .pick (.t 19) (.k (.c (.bool true))) (.t 21)⟩, ⟨some 23, none, .mv (.t 22)⟩, ⟨some 24, some (23, false), .fa (.t 3) 0⟩, ⟨some 25, some (23, false), .load (.t 24) none⟩, ⟨some 26, some (23, false), .call 62 [(.t 25), (.k (.c (.int .i64 1))), (.k (.c (.int .i64 21)))]⟩, ⟨some 27, some (23, false), .not (.t 26)⟩, ⟨some 28, none, .pick (.t 23) (.k (.c (.bool true))) (.t 27)⟩, ⟨some 29, none, .mv (.t 28)⟩, ⟨some 30, some (29, false), .fa (.t 3) 8⟩, ⟨some 31, some (29, false), .load (.t 30) none⟩, ⟨some 32, some (29, false), .len (.t 31) false⟩, ⟨some 33, some (29, false), .glb 1⟩, ⟨some 34, some (29, false), .fa (.t 3) 0⟩, ⟨some 35, some (29, false), .load (.t 34) none⟩, ⟨some 36, some (29, false), .ia (.t 33) (.t 35) 1⟩, ⟨some 37, some (29, false), .load (.t 36) none⟩, ⟨some 38, some (29, false), .bin false .neq (.t 32) (.t 37)⟩, ⟨some 39, none, .pick (.t 29) (.k (.c (.bool true))) (.t 38)⟩] (some 23) [1, 2, 3, 39]) (.cond (.t 39) (.seq (.reg [⟨some 6, none, .mv (.k (.c (.bool false)))⟩] none [6]) .ret) .skip)) (.seq (.reg [⟨some 40, none, .fa (.t 3) 0⟩, ⟨some 41, none, .load (.t 40) none⟩, ⟨some 42, none, .bin false .eql (.t 41) (.k (.c (.int .i64 3)))⟩, ⟨some 43, none, .mv (.t 42)⟩, ⟨some 44, some (43, false), .fa (.t 3) 0⟩, ⟨some 45, some (43, false), .load (.t 44) none⟩, ⟨some 46, some (43, false), .bin false .eql (.t 45) (.k (.c (.int .i64 21)))⟩, ⟨some 47, none, .pick (.t 43) (.k (.c (.bool true))) (.t 46)⟩, ⟨some 7, none, .mv (.t 47)⟩] none [1, 2, 3, 7]) (.seq (.seq (.reg [⟨some 48, none, .fa (.t 3) 0⟩, ⟨some 49, none, .load (.t 48) none⟩, ⟨some 50, none, .bin false .neq (.t 49) (.k (.c (.int .i64 4)))⟩, ⟨some 51, none, .mv (.t 50)⟩, ⟨some 52, some (51, true), .fa (.t 3) 1⟩, ⟨some 53, some (51, true), .load (.t 52) none⟩, ⟨some 54, some (51, true), .bin false .neq (.t 53) (.k (.c (.int .i64 0)))⟩, ⟨some 55, none, .pick (.t 51) (.t 54) (.k (.c (.bool false)))⟩, ⟨some 56, none, .mv (.t 55)⟩, ⟨some 57, some (56, false), .mv (.t 7)⟩, ⟨some 58, some (56, false), .not (.t 57)⟩, ⟨some 59, some (56, false), .mv (.t 58)⟩, ⟨some 60, some (59, true), .fa (.t 3) 2⟩, ⟨some 61, some (59, true), .load (.t 60) none⟩, ⟨some 62, some (59, true), .bin false .neq (.t 61) (.k (.c (.str ⟨#[]⟩)))⟩, ⟨some 63, some (56, false), .pick (.t 59) (.t 62) (.k (.c (.bool false)))⟩, ⟨some 64, none, .pick (.t 56) (.k (.c (.bool true))) (.t 63)⟩, ⟨some 65, none, .mv (.t 64)⟩, ⟨some 66, some (65, false), .fa (.t 3) 0⟩, ⟨some 67, some (65, false), .load (.t 66) none⟩, ⟨some 68, some (65, false), .bin false .neq (.t 67) (.k (.c (.int .i64 2)))⟩, ⟨some 69, some (65, false), .mv (.t 68)⟩, ⟨some 70, some (69, true), .fa (.t 3) 3⟩, ⟨some 71, some (69, true), .load (.t 70) (some 5)⟩, ⟨some 72, some (69, true), .call 70 [(.t 71)]⟩, ⟨some 73, some (69, true), .not (.t 72)⟩, ⟨some 74, some (65, false), .pick (.t 69) (.t 73) (.k (.c (.bool false)))⟩, ⟨some 75, none, .pick (.t 65) (.k (.c (.bool true))) (.t 74)⟩] none [1, 2, 3, 75]) (.cond (.t 75) (.seq (.reg [⟨some 6, none, .mv (.k (.c (.bool false)))⟩] none [6]) .ret) .skip)) (.seq (.seq (.reg [⟨some 76, none, .fa (.t 3) 1⟩, ⟨some 77, none, .load (.t 76) none⟩, ⟨some 78, none, .call 62 [(.t 77), (.k (.c (.int .i64 (-60)))), (.k (.c (.int .i64 59)))]⟩, ⟨some 79, none, .not (.t 78)⟩, ⟨some 80, none, .mv (.t 79)⟩, ⟨some 81, some (80, false), .fa (.t 3) 2⟩, ⟨some 82, some (80, false), .load (.t 81) none⟩, ⟨some 83, some (80, false), .call 61 [(.t 82)]⟩, ⟨some 84, some (80, false), .not (.t 83)⟩, ⟨some 85, none, .pick (.t 80) (.k (.c (.bool true))) (.t 84)⟩, ⟨some 86, none, .mv (.t 85)⟩, ⟨some 87, some (86, false), .fa (.t 3) 3⟩, ⟨some 88, some (86, false), .load (.t 87) (some 5)⟩, ⟨some 89, some (86, false), .call 38 [(.t 88)]⟩, ⟨some 90, some (86, false), .not (.t 89)⟩, ⟨some 91, none, .pick (.t 86) (.k (.c (.bool true))) (.t 90)⟩] none [1, 2, 3, 91]) (.cond (.t 91) (.seq (.reg [⟨some 6, none, .mv (.k (.c (.bool false)))⟩] none [6]) .ret) .skip)) (.seq (.seq (.reg [⟨some 92, none, .fa (.t 3) 8⟩, ⟨some 93, none, .load (.t 92) none⟩, ⟨some 94, none, .len (.t 93) false⟩, ⟨some 95, none, .mv (.k (.c (.int .i64 0)))⟩] none [1, 2, 3, 93, 94, 95]) (.block 0 (.loop (.seq (.reg [⟨some 96, none, .bin false .lss (.t 95) (.t 94)⟩] none [1, 2, 3, 93, 94, 95, 96]) (.seq (.cond (.t 96) .skip (.exit 0)) (.seq (.block 1 (.seq (.reg [⟨some 97, none, .ia (.t 93) (.t 95) 9⟩, ⟨some 98, none, .load (.t 97) (some 9)⟩, ⟨some 9, none, .alloc [(.c (.int .i64 0)), (.c (.int .i64 0)), (.c (.str ⟨#[]⟩)), (.c (.int .i64 0)), (.c (.int .i64 0)), (.c (.str ⟨#[]⟩)), (.z 1), (.z 5), (.z 9)]⟩, ⟨none, none, .st (.t 9) (.t 98) (some 9)⟩] none [1, 2, 3, 9, 93, 94, 95]) (.seq (.reg [⟨some 99, none, .load (.t 9) (some 9)⟩, ⟨some 100, none, .mv (.t 1)⟩, ⟨some 101, none, .bin false .add (.t 100) (.k (.c (.int .i64 1)))⟩, ⟨some 102, none, .mv (.t 2)⟩, ⟨some 103, none, .call 50 [(.t 99), (.t 101), (.t 102)]⟩, ⟨some 104, none, .not (.t 103)⟩] none [1, 2, 3, 93, 94, 95, 104]) (.cond (.t 104) (.seq (.reg [⟨some 6, none, .mv (.k (.c (.bool false)))⟩] none [6]) .ret) .skip)))) (.reg [⟨some 105, none, .bin false .add (.t 95) (.k (.c (.int .i64 1)))⟩, ⟨some 95, none, .mv (.t 105)⟩] none [1, 2, 3, 93, 94, 95]))))))) (.seq (.reg [⟨some 106, none, .fa (.t 3) 0⟩, ⟨some 107, none, .load (.t 106) none⟩, ⟨some 108, none, .bin false .neq (.t 107) (.k (.c (.int .i64 20)))⟩, ⟨some 109, none, .mv (.t 108)⟩, ⟨some 110, some (109, false), .fa (.t 3) 8⟩, ⟨some 111, some (109, false), .load (.t 110) none⟩, ⟨some 112, some (109, false), .ia (.t 111) (.k (.c (.int .i64 0))) 9⟩, ⟨some 113, some (109, false), .load (.t 112) (some 9)⟩, ⟨some 114, some (109, false), .call 71 [(.t 113)]⟩, ⟨some 115, none, .pick (.t 109) (.k (.c (.bool true))) (.t 114)⟩, ⟨some 6, none, .mv (.t 115)⟩] none [6]) .ret))))))))
theorem chk_okF : chkX Go.Proofs.Tryd.prog 116 (Go.Proofs.Tryd.f50.body.getD .skip) x_okF = true := by kernel_rfl
theorem rs_okF : okRs Go.Proofs.Tryd.prog Go.Proofs.Tryd.f50.results.toList [.tmp 6] = true := by kernel_rfl
theorem call_okF : okCallee Go.Proofs.Tryd.prog 50 = true := by kernel_rfl
def x_FiltOkI : X := (.seq (.reg [⟨some 1, none, .box (.t 0) (some 9)⟩, ⟨some 2, none, .mv (.k (.c (.bool false)))⟩] none [1]) (.seq (.reg [⟨some 3, none, .alloc [(.c (.int .i64 0))]⟩, ⟨none, none, .st (.t 3) (.k (.c (.int .i64 16))) none⟩] none [1, 3]) (.seq (.reg [⟨some 4, none, .load (.t 1) (some 9)⟩, ⟨some 5, none, .call 50 [(.t 4), (.k (.c (.int .i64 1))), (.t 3)]⟩, ⟨some 2, none, .mv (.t 5)⟩] none [2]) .ret)))
theorem chk_FiltOkI : chkX Go.Proofs.Tryd.prog 6 (Go.Proofs.Tryd.f29.body.getD .skip) x_FiltOkI = true := by kernel_rfl
theorem rs_FiltOkI : okRs Go.Proofs.Tryd.prog Go.Proofs.Tryd.f29.results.toList [.tmp 2] = true := by kernel_rfl
theorem call_FiltOkI : okCallee Go.Proofs.Tryd.prog 29 = true := by kernel_rfl
noncomputable def spLook (k:Nat) : Spec := Spec.of (ι := F) [false] (fun i => [.d (.agg i.enc)]) (fun i => (i.fit 140737488355328 ∧ kindedF i) ∧ SizeOf.sizeOf i < k) (fun i => [.d (.one (.bool (decide (wayF i))))]) (fun _ => [.gone])
theorem spLook_inj : ∀ i j : F, (fun (i : F) => ([.d (.agg i.enc)] : List AV)) i = (fun (i : F) => ([.d (.agg i.enc)] : List AV)) j → i = j := by
  intro t t' h
  simpa [strs_eq, T.enc_eq, encL_eq, F.enc_eq, encF_eq, Tk.enc_eq, encTk_eq, Gn.enc_eq, ints_eq] using h
theorem spLook_md (k:Nat) : (spLook k).md = [false] := rfl
theorem spLook_pre (k:Nat) (t : F) : (spLook k).pre [.d (.agg t.enc)] = ((t.fit 140737488355328 ∧ kindedF t) ∧ SizeOf.sizeOf t < k) := Spec.of_pre' spLook_inj t
theorem spLook_alts (k:Nat) : (spLook k).alts = none := rfl
theorem spLook_res (k:Nat) (t : F) : (spLook k).res [.d (.agg t.enc)] = [.d (.one (.bool (decide (wayF t))))] := Spec.of_res spLook_inj t
theorem spLook_out (k:Nat) (t : F) : (spLook k).out [.d (.agg t.enc)] = [.gone] := Spec.of_out spLook_inj t
theorem looks_sound (k : Nat) (hS : Sound Go.Proofs.Tryd.prog 71 (spLook k)) : Sound Go.Proofs.Tryd.prog 71 (spLook (k + 1)) := by
  refine sound_fam (GOK.cons call_looks hS GOK.nil) Go.Proofs.Tryd.func71 (c := Go.Proofs.Tryd.f71.body.getD .skip) rfl (n := 40) rfl chk_looks rs_looks (fun _ => by simp) ?_ ?_
  · exact spLook_inj
  · rintro t ⟨⟨h1, h2⟩, h4⟩
    obtain ⟨kk, n, s, v, l⟩ := t
    obtain ⟨vk, vn, vs, vks, vl⟩ := v
    simp only [F.fit, kindedF] at h1 h2
    obtain ⟨_, _, f1, f2, f3, f4⟩ := h1
    obtain ⟨g1, g2⟩ := h2
    generalize hv : T.mk vk vn vs vks vl = v at *
    have e3 : SizeOf.sizeOf l < k := by have e : SizeOf.sizeOf (F.mk kk n s v l) < k + 1 := h4
                                        rw [F.mk.sizeOf_spec] at e; omega
    clear h4
    have e6 : v.enc = [.int .i64 vk, .int .i64 vn, .str vs, .row 1 (strs vks), .row 5 (encL vl)] := by rw [← hv]; rfl
    have hF : wayF (F.mk kk n s v l) ↔ ((kk = 1 ∨ kk = 3 ∨ kk = 4 ∨ kk = 5 ∨ kk = 18) ∨ ((kk = 6 ∨ kk = 7) ∧ wayL l 0 ∧ wayL l 1) ∨ (kk = 8 ∧ wayL l 1 ∧ wayL l 2)) := by simp only [wayF]
    have hk2 : kk = 6 ∨ kk = 7 → l.length = 2 := fun h => by
      have : kidsOf kk = 2 := by rcases h with rfl | rfl <;> decide
      omega
    have hk3 : kk = 8 → l.length = 3 := fun h => by
      have : kidsOf kk = 3 := by subst h; decide
      omega
    by_cases hz : 2 ≤ l.length
    · obtain ⟨x0, i0, _, m0⟩ := drop_at (l := l) (i := 0) (by omega)
      obtain ⟨x1, i1, _, m1⟩ := drop_at (l := l) (i := 1) (by omega)
      have a0 := encF_at i0
      have a1 := encF_at i1
      have w0 := wayL_at i0
      have w1 := wayL_at i1
      have l0 := F.enc_len x0
      have l1 := F.enc_len x1
      have s0 := size_mem m0
      have s1 := size_mem m1
      have t0 := fitF_mem f4 x0 m0
      have t1 := fitF_mem f4 x1 m1
      have u0 := kindedL_mem.1 g2 x0 m0
      have u1 := kindedL_mem.1 g2 x1 m1
      have z0 : (0 : Int).toNat = 0 := rfl
      have z1 : (1 : Int).toNat = 1 := rfl
      have z2 : (2 : Int).toNat = 2 := rfl
      by_cases h3 : 3 ≤ l.length
      · obtain ⟨x2, i2, _, m2⟩ := drop_at (l := l) (i := 2) (by omega)
        have a2 := encF_at i2
        have w2 := wayL_at i2
        have l2 := F.enc_len x2
        have s2 := size_mem m2
        have t2 := fitF_mem f4 x2 m2
        have u2 := kindedL_mem.1 g2 x2 m2
        rw [w0, w1, w2] at hF
        simp only [x_looks, F.enc, e6, go_sem, seval, rg, z0, z1, z2, a0, a1, a2, l0, l1, l2, spLook_md, spLook_pre, spLook_alts, spLook_res, spLook_out]
        repeat' (first | with_reducible assumption | with_reducible refine And.intro ?_ ?_ | intro _)
        all_goals first | omega | (grind; done) | skip
      · have h8 : (kk = 8) = False := by simp; intro h; have := hk3 h; omega
        rw [w0, w1] at hF
        simp only [x_looks, F.enc, e6, go_sem, seval, rg, z0, z1, z2, a0, a1, l0, l1, h8, spLook_md, spLook_pre, spLook_alts, spLook_res, spLook_out]
        repeat' (first | with_reducible assumption | with_reducible refine And.intro ?_ ?_ | intro _)
        all_goals first | omega | (grind; done) | skip
    · have h6 : (kk = 6) = False := by simp; intro h; have := hk2 (.inl h); omega
      have h7 : (kk = 7) = False := by simp; intro h; have := hk2 (.inr h); omega
      have h8 : (kk = 8) = False := by simp; intro h; have := hk3 h; omega
      simp only [x_looks, F.enc, e6, go_sem, seval, rg, h6, h7, h8]
      repeat' (first | with_reducible assumption | with_reducible refine And.intro ?_ ?_ | intro _)
      all_goals first | omega | (grind; done) | skip
theorem look_all : ∀ k, Sound Go.Proofs.Tryd.prog 71 (spLook k) := fun k => Nat.rec Sound.none (fun k ih => looks_sound k ih) k
/-- As it is asked where there may be none. -/
noncomputable def spLookD : Spec := Spec.of (ι := Option F) [false] (fun i => match i with | some t => [.d (.agg t.enc)] | none => [.d (.agg [])]) (fun i => match i with | some t => t.fit 140737488355328 ∧ kindedF t | none => False) (fun i => match i with | some t => [.d (.one (.bool (decide (wayF t))))] | none => [.d (.one (.bool (decide False)))]) (fun _ => [.gone])
theorem spLookD_inj : ∀ i j : Option F, (fun i : Option F => (match i with | some t => [.d (.agg t.enc)] | none => [.d (.agg [])] : List AV)) i = (fun i : Option F => (match i with | some t => [.d (.agg t.enc)] | none => [.d (.agg [])] : List AV)) j → i = j := by
  intro i j h
  cases i with
  | none =>
    cases j with
    | none => rfl
    | some t => have := congrArg List.length (show [] = t.enc by simpa using h); rw [F.enc_len] at this; simp at this
  | some t =>
    cases j with
    | none => have := congrArg List.length (show t.enc = [] by simpa using h); rw [F.enc_len] at this; simp at this
    | some t' => simpa [F.enc_eq] using h
theorem spLookD_md : spLookD.md = [false] := rfl
theorem spLookD_alts : spLookD.alts = none := rfl
theorem spLookD_pre (t : F) : spLookD.pre [.d (.agg t.enc)] = (t.fit 140737488355328 ∧ kindedF t) := Spec.of_pre' spLookD_inj (some t)
theorem spLookD_res (t : F) : spLookD.res [.d (.agg t.enc)] = [.d (.one (.bool (decide (wayF t))))] := Spec.of_res spLookD_inj (some t)
theorem spLookD_out (t : F) : spLookD.out [.d (.agg t.enc)] = [.gone] := Spec.of_out spLookD_inj (some t)
theorem spLookD_pre0 : spLookD.pre [.d (.agg [])] = False := Spec.of_pre' spLookD_inj none
theorem spLookD_res0 : spLookD.res [.d (.agg [])] = [.d (.one (.bool (decide False)))] := Spec.of_res spLookD_inj none
theorem spLookD_out0 : spLookD.out [.d (.agg [])] = [.gone] := Spec.of_out spLookD_inj none
theorem lookD_sound : Sound Go.Proofs.Tryd.prog 71 spLookD := by
  rintro ds ⟨i, rfl, hi⟩ w S vs fps hG hS hF ha hA
  cases i with
  | none => exact hi.elim
  | some t =>
    have hp : (spLook (SizeOf.sizeOf t + 1)).pre [.d (.agg t.enc)] := by
      rw [spLook_pre]; exact ⟨hi, Nat.lt_succ_self _⟩
    refine (look_all (SizeOf.sizeOf t + 1) [.d (.agg t.enc)] hp w S vs fps hG hS hF ha hA).mono ?_
    rintro e w' ⟨r, o, hro, rest⟩
    obtain ⟨rfl, rfl⟩ := (Spec.may_none rfl).1 hro
    rw [spLook_res, spLook_out] at rest
    exact ⟨_, _, (Spec.may_none rfl).2 ⟨(spLookD_res t).symm, (spLookD_out t).symm⟩, rest⟩
noncomputable def spOkFI (k:Nat) : Spec := Spec.of (ι := F × Int × Int) [false, false, true] (fun i => [.d (.agg i.1.enc), .d (.one (.int .i64 i.2.1)), .ref [.int .i64 i.2.2]]) (fun i => (i.1.fit 140737488355328 ∧ 0 ≤ i.2.1 ∧ i.2.1 ≤ 8 ∧ 0 ≤ i.2.2 ∧ i.2.2 ≤ 1000) ∧ SizeOf.sizeOf i.1 < k) (fun i => [.d (.one (.bool (decide ((okFI i.1 i.2.1 i.2.2).1 = true))))]) (fun i => [.gone, .gone, .ref [.int .i64 (okFI i.1 i.2.1 i.2.2).2]])
theorem spOkFI_inj : ∀ i j : F × Int × Int, (fun (i : F × Int × Int) => ([.d (.agg i.1.enc), .d (.one (.int .i64 i.2.1)), .ref [.int .i64 i.2.2]] : List AV)) i = (fun (i : F × Int × Int) => ([.d (.agg i.1.enc), .d (.one (.int .i64 i.2.1)), .ref [.int .i64 i.2.2]] : List AV)) j → i = j := by
  rintro ⟨t, d, left⟩ ⟨t', d', left'⟩ h
  simp only [Prod.mk.injEq]
  simpa [strs_eq, T.enc_eq, encL_eq, F.enc_eq, encF_eq, Tk.enc_eq, encTk_eq, Gn.enc_eq, ints_eq] using h
theorem spOkFI_md (k:Nat) : (spOkFI k).md = [false, false, true] := rfl
theorem spOkFI_pre (k:Nat) (t : F) (d : Int) (left : Int) : (spOkFI k).pre [.d (.agg t.enc), .d (.one (.int .i64 d)), .ref [.int .i64 left]] = ((t.fit 140737488355328 ∧ 0 ≤ d ∧ d ≤ 8 ∧ 0 ≤ left ∧ left ≤ 1000) ∧ SizeOf.sizeOf t < k) := Spec.of_pre' spOkFI_inj (t, d, left)
theorem spOkFI_alts (k:Nat) : (spOkFI k).alts = none := rfl
theorem spOkFI_res (k:Nat) (t : F) (d : Int) (left : Int) : (spOkFI k).res [.d (.agg t.enc), .d (.one (.int .i64 d)), .ref [.int .i64 left]] = [.d (.one (.bool (decide ((okFI t d left).1 = true))))] := Spec.of_res spOkFI_inj (t, d, left)
theorem spOkFI_out (k:Nat) (t : F) (d : Int) (left : Int) : (spOkFI k).out [.d (.agg t.enc), .d (.one (.int .i64 d)), .ref [.int .i64 left]] = [.gone, .gone, .ref [.int .i64 (okFI t d left).2]] := Spec.of_out spOkFI_inj (t, d, left)
set_option maxHeartbeats 2000000 in
theorem okFI_sound (hG : get? 1 Globs.G = some ktabC) (k : Nat) (hS : Sound Go.Proofs.Tryd.prog 50 (spOkFI k)) : Sound Go.Proofs.Tryd.prog 50 (spOkFI (k + 1)) := by
  refine sound_fam (GOK.cons (l := [(61, spTextOk), (38, spValOkI), (70, spNone), (71, spLookD), (50, spOkFI k)]) call_within within_sound (GOK.cons call_textOk textOk_sound (GOK.cons call_ValOkI valOkI_sound (GOK.cons call_noneI none_sound (GOK.cons call_looks lookD_sound (GOK.cons call_okF hS GOK.nil)))))) Go.Proofs.Tryd.func50 (c := Go.Proofs.Tryd.f50.body.getD .skip) rfl (n := 116) rfl chk_okF rs_okF (fun _ => by simp) ?_ ?_
  · exact spOkFI_inj
  · rintro ⟨t, d, left⟩ ⟨⟨h1, h2, h3, h3', h3''⟩, h4⟩
    obtain ⟨kk, n, s, v, l⟩ := t
    obtain ⟨vk, vn, vs, vks, vl⟩ := v
    simp only [F.fit] at h1
    obtain ⟨_, _, f1, f2, f3, f4⟩ := h1
    simp only at h2 h3 h3' h3''
    generalize hv : T.mk vk vn vs vks vl = v at *
    have e3 : SizeOf.sizeOf l < k := by have e : SizeOf.sizeOf (F.mk kk n s v l) < k + 1 := h4
                                        rw [F.mk.sizeOf_spec] at e; omega
    clear h4
    have e6 : v.enc = [.int .i64 vk, .int .i64 vn, .str vs, .row 1 (strs vks), .row 5 (encL vl)] := by rw [← hv]; rfl
    have hH : headF kk n s v l ↔ (1 ≤ kk ∧ kk ≤ 21 ∧ kidsOf kk = l.length ∧ ((kk = 4 ∨ n = 0) ∧ ((kk = 3 ∨ kk = 21) ∨ s = ⟨#[]⟩) ∧ (kk = 2 ∨ v = T.zero)) ∧ -60 ≤ n ∧ n ≤ 59 ∧ okS s ∧ (okI v 1 60).1 = true) := Iff.rfl
    have hneg : ¬ (1 ≤ left ∧ d ≤ 7 ∧ headF kk n s v l) → (okFI (F.mk kk n s v l) d left).1 = false ∧ left - 1 = (okFI (F.mk kk n s v l) d left).2 := fun h => by simp only [okFI]; rw [if_neg h]; exact ⟨rfl, rfl⟩
    have hpos : (1 ≤ left ∧ d ≤ 7 ∧ headF kk n s v l) → okFI (F.mk kk n s v l) d left = (if (okFIL l (d + 1) (left - 1)).1 = true then (decide (kk = 20 → wayL l 0), (okFIL l (d + 1) (left - 1)).2) else (false, (okFIL l (d + 1) (left - 1)).2)) := fun h => by simp only [okFI]; rw [if_pos h]
    generalize hres : okFI (F.mk kk n s v l) d left = R at *
    clear hres
    have p1 := spNone_pre v
    have p2 := spNone_res v
    have p3 := spNone_out v
    have q1 := spValOkI_pre v
    have q2 := spValOkI_res v
    have q3 := spValOkI_out v
    rw [e6] at p1 p2 p3 q1 q2 q3
    obtain ⟨m, hm, hmk⟩ : ∃ m, ((ktab.map fun m => [C.int .i64 m]).getD kk.toNat []).getD 0 (.int .i64 0) = C.int .i64 m ∧ (1 ≤ kk ∧ kk ≤ 21 → m = kidsOf kk ∧ 0 < ((ktab.map fun m => [C.int .i64 m]).getD kk.toNat []).length ∧ kk.toNat < 22) := by
      by_cases h : kk.toNat < 22
      · rw [ktab_at h]
        refine ⟨_, rfl, fun h' => ⟨?_, by simp, h⟩⟩
        have := ktab_kids ⟨kk.toNat, h⟩ (by simp only; omega)
        simp only at this
        rw [this]; congr 1; omega
      · rw [ktab_out h]
        exact ⟨0, rfl, fun h' => by omega⟩
    have hm' := hm
    have hlen := ktab_len
    simp only [x_okF, F.enc, e6, go_sem, seval, rg, hG, ktabC, hm', hlen, spWithin_md, spWithin_pre, spWithin_alts, spWithin_res, spWithin_out, spTextOk_md, spTextOk_pre, spTextOk_alts, spTextOk_res, spTextOk_out, spNone_md, spNone_alts, p1, p2, p3, spValOkI_md, spValOkI_alts, q1, q2, q3]
    repeat' (first | with_reducible assumption | with_reducible refine And.intro ?_ ?_ | intro _)
    all_goals first | omega | (grind; done) | skip
    have hh : 1 ≤ left ∧ d ≤ 7 ∧ headF kk n s v l := by grind
    have hpos' := hpos hh
    have hk : kk = 20 → l.length = 2 := fun h => by
      have e : kidsOf kk = 2 := by subst h; decide
      have := hh.2.2.2.2.1
      omega
    have hd : 1 ≤ left ∧ d ≤ 7 := ⟨hh.1, hh.2.1⟩
    clear hH hneg hpos p1 p2 p3 q1 q2 q3 hm hm' hmk hlen hh
    repeat (rename_i hx; clear hx)
    refine pw_loop (ι := Nat × Int) (fun i => l.length - i.1) (fun i => i.1 ≤ l.length ∧ 0 ≤ i.2 ∧ i.2 ≤ left - 1 ∧ okFIL l (d + 1) (left - 1) = okFIL (l.drop i.1) (d + 1) i.2 ∧ kindedL (l.take i.1))
      (fun i => ⟨[(1, .q (.c (.int .i64 d))), (2, .q (.box 118 0)), (3, .q (.box 3 0)), (93, .q (.c (.row 9 (encF l)))), (94, .q (.c (.int .i64 l.length))), (95, .q (.c (.int .i64 i.1)))], [(118, [.c (.int .i64 i.2)]), (3, [.c (.int .i64 kk), .c (.int .i64 n), .c (.str s), .c (.int .i64 vk), .c (.int .i64 vn), .c (.str vs), .c (.row 1 (strs vks)), .c (.row 5 (encL vl)), .c (.row 9 (encF l))])], []⟩) (0, left - 1) ⟨Nat.zero_le _, by simp only; omega, by simp only; omega, by simp only [List.drop_zero], by simp [kindedL]⟩ (Le.refl _) ?_
    rintro ⟨i, m⟩ ⟨hi, hm, hm', heq, hkd⟩
    simp only at hi hm hm' heq hkd
    have hln : (l.length : Int) ≤ 140737488355328 := f3
    rcases Nat.lt_or_ge i l.length with hlt | hge
    · obtain ⟨t, ht, hdr, hmem⟩ := drop_at hlt
      have a1 := encF_at ht
      have a2 : ((i : Int) < (l.length : Int)) = True := by simp; omega
      have a3 := fitF_mem f4 t hmem
      have a4 := size_mem hmem
      have a6 := F.enc_len t
      have a7 := okFI_le t (d + 1) m
      rw [hdr] at heq
      simp only [okFIL] at heq
      have hfalse : ¬ (okFI t (d + 1) m).1 = true → R.1 = false ∧ R.2 = (okFI t (d + 1) m).2 := fun hc => by
        rw [if_neg hc] at heq
        rw [heq] at hpos'
        rw [hpos']; simp
      simp only [go_sem, seval, rg, a1, a2, a6, spOkFI_md, spOkFI_pre, spOkFI_alts, spOkFI_res, spOkFI_out]
      repeat' (first | with_reducible assumption | with_reducible refine And.intro ?_ ?_ | intro _)
      all_goals first | omega | skip
      · rename_i hc hR
        rw [(hfalse hc).1] at hR; cases hR
      · rename_i hc
        exact (hfalse hc).2.symm
      · have hc' : (okFI t (d + 1) m).1 = true := Classical.byContradiction (by assumption)
        rw [if_pos hc'] at heq
        refine ⟨(i + 1, (okFI t (d + 1) m).2), ⟨by simp only; omega, (a7.2 hc').1, by simp only; omega, heq, ?_⟩, by simp only; omega, Le.sub (fun _ h => h) (fun _ h => List.mem_append_left [_] h) (fun _ h => h)⟩
        rw [kindedL_mem]
        intro y hy
        simp only at hy
        rw [List.take_add_one, ht] at hy
        rcases List.mem_append.1 hy with hy | hy
        · exact kindedL_mem.1 hkd y hy
        · simp at hy; subst hy; exact (a7.2 hc').2
    · have a2 : ((i : Int) < (l.length : Int)) = False := by simp; omega
      rw [List.drop_eq_nil_of_le hge] at heq
      rw [List.take_of_length_le hge] at hkd
      simp only [okFIL] at heq
      rw [heq] at hpos'
      simp only [if_true] at hpos'
      have z0 : (0 : Int).toNat = 0 := rfl
      cases l with
      | nil =>
        have h20 : (kk = 20) = False := by simp; intro h; have := hk h; simp at this
        simp only [go_sem, seval, rg, a2, z0, encF, h20, spLookD_md, spLookD_alts, spLookD_pre0, spLookD_res0, spLookD_out0, hpos']
        repeat' (first | with_reducible assumption | with_reducible refine And.intro ?_ ?_ | intro _)
        all_goals first | omega | (grind; done) | skip
      | cons x r =>
        have a6 := F.enc_len x
        have a7 := fitF_mem f4 x (by simp)
        have a8 := kindedL_mem.1 hkd x (by simp)
        have a9 : wayL (x :: r) 0 = wayF x := by simp [wayL]
        simp only [go_sem, seval, rg, a2, z0, encF, a6, spLookD_md, spLookD_pre, spLookD_alts, spLookD_res, spLookD_out, hpos', a9]
        repeat' (first | with_reducible assumption | with_reducible refine And.intro ?_ ?_ | intro _)
        all_goals first | omega | (grind; done) | skip
theorem okFI_all (hG : get? 1 Globs.G = some ktabC) : ∀ k, Sound Go.Proofs.Tryd.prog 50 (spOkFI k) := fun k => Nat.rec Sound.none (fun k ih => okFI_sound hG k ih) k
noncomputable def spOkFIV  : Spec := Spec.of (ι := F × Int × Int) [false, false, true] (fun i => [.d (.agg i.1.enc), .d (.one (.int .i64 i.2.1)), .ref [.int .i64 i.2.2]]) (fun i => i.1.fit 140737488355328 ∧ 0 ≤ i.2.1 ∧ i.2.1 ≤ 8 ∧ 0 ≤ i.2.2 ∧ i.2.2 ≤ 1000) (fun i => [.d (.one (.bool (decide ((okFI i.1 i.2.1 i.2.2).1 = true))))]) (fun i => [.gone, .gone, .ref [.int .i64 (okFI i.1 i.2.1 i.2.2).2]])
theorem spOkFIV_inj : ∀ i j : F × Int × Int, (fun (i : F × Int × Int) => ([.d (.agg i.1.enc), .d (.one (.int .i64 i.2.1)), .ref [.int .i64 i.2.2]] : List AV)) i = (fun (i : F × Int × Int) => ([.d (.agg i.1.enc), .d (.one (.int .i64 i.2.1)), .ref [.int .i64 i.2.2]] : List AV)) j → i = j := by
  rintro ⟨t, d, left⟩ ⟨t', d', left'⟩ h
  simp only [Prod.mk.injEq]
  simpa [strs_eq, T.enc_eq, encL_eq, F.enc_eq, encF_eq, Tk.enc_eq, encTk_eq, Gn.enc_eq, ints_eq] using h
theorem spOkFIV_md  : (spOkFIV).md = [false, false, true] := rfl
theorem spOkFIV_pre  (t : F) (d : Int) (left : Int) : (spOkFIV).pre [.d (.agg t.enc), .d (.one (.int .i64 d)), .ref [.int .i64 left]] = (t.fit 140737488355328 ∧ 0 ≤ d ∧ d ≤ 8 ∧ 0 ≤ left ∧ left ≤ 1000) := Spec.of_pre' spOkFIV_inj (t, d, left)
theorem spOkFIV_alts  : (spOkFIV).alts = none := rfl
theorem spOkFIV_res  (t : F) (d : Int) (left : Int) : (spOkFIV).res [.d (.agg t.enc), .d (.one (.int .i64 d)), .ref [.int .i64 left]] = [.d (.one (.bool (decide ((okFI t d left).1 = true))))] := Spec.of_res spOkFIV_inj (t, d, left)
theorem spOkFIV_out  (t : F) (d : Int) (left : Int) : (spOkFIV).out [.d (.agg t.enc), .d (.one (.int .i64 d)), .ref [.int .i64 left]] = [.gone, .gone, .ref [.int .i64 (okFI t d left).2]] := Spec.of_out spOkFIV_inj (t, d, left)
theorem okFIV_sound (hG : get? 1 Globs.G = some ktabC) : Sound Go.Proofs.Tryd.prog 50 spOkFIV := Sound.all (μ := fun i => SizeOf.sizeOf i.1) (okFI_all hG)
noncomputable def spFiltOkI  : Spec := Spec.of (ι := F) [false] (fun i => [.d (.agg i.enc)]) (fun i => i.fit 140737488355328) (fun i => [.d (.one (.bool (decide ((okFI i 1 16).1 = true))))]) (fun _ => [.gone])
theorem spFiltOkI_inj : ∀ i j : F, (fun (i : F) => ([.d (.agg i.enc)] : List AV)) i = (fun (i : F) => ([.d (.agg i.enc)] : List AV)) j → i = j := by
  intro t t' h
  simpa [strs_eq, T.enc_eq, encL_eq, F.enc_eq, encF_eq, Tk.enc_eq, encTk_eq, Gn.enc_eq, ints_eq] using h
theorem spFiltOkI_md  : (spFiltOkI).md = [false] := rfl
theorem spFiltOkI_pre  (t : F) : (spFiltOkI).pre [.d (.agg t.enc)] = (t.fit 140737488355328) := Spec.of_pre' spFiltOkI_inj t
theorem spFiltOkI_alts  : (spFiltOkI).alts = none := rfl
theorem spFiltOkI_res  (t : F) : (spFiltOkI).res [.d (.agg t.enc)] = [.d (.one (.bool (decide ((okFI t 1 16).1 = true))))] := Spec.of_res spFiltOkI_inj t
theorem spFiltOkI_out  (t : F) : (spFiltOkI).out [.d (.agg t.enc)] = [.gone] := Spec.of_out spFiltOkI_inj t
theorem filtOkI_sound (hG : get? 1 Globs.G = some ktabC) : Sound Go.Proofs.Tryd.prog 29 spFiltOkI := by
  refine sound_fam (GOK.cons call_okF (okFIV_sound hG) GOK.nil) Go.Proofs.Tryd.func29 (c := Go.Proofs.Tryd.f29.body.getD .skip) rfl (n := 6) rfl chk_FiltOkI rs_FiltOkI (fun _ => by simp) ?_ ?_
  · exact spFiltOkI_inj
  · intro t h1
    have a6 := F.enc_len t
    simp only [x_FiltOkI, go_sem, seval, rg, a6, spOkFIV_md, spOkFIV_pre, spOkFIV_alts, spOkFIV_res, spOkFIV_out]
    repeat' (first | with_reducible assumption | with_reducible refine And.intro ?_ ?_ | intro _)
    all_goals first | omega | skip
end Go.Proofs.Pw
/- Texts of filters: both programs. -/
set_option linter.unusedSimpArgs false
set_option maxRecDepth 20000
namespace Go.Proofs.Pw
set_option linter.unusedSectionVars false
variable [Globs]
def x_l4Words : X := (.seq (.reg [⟨some 0, none, .mv (.k (.z 1))⟩] none []) (.seq (.reg [⟨some 1, none, .bsl 1 [((.k (.c (.str ⟨#[]⟩))), none), ((.k (.c (.str ⟨#[46]⟩))), none), ((.k (.c (.str ⟨#[]⟩))), none), ((.k (.c (.str ⟨#[]⟩))), none), ((.k (.c (.str ⟨#[]⟩))), none), ((.k (.c (.str ⟨#[91, 93]⟩))), none), ((.k (.c (.str ⟨#[112, 105, 112, 101]⟩))), none), ((.k (.c (.str ⟨#[98, 111, 116, 104]⟩))), none), ((.k (.c (.str ⟨#[105, 102]⟩))), none), ((.k (.c (.str ⟨#[97, 100, 100]⟩))), none), ((.k (.c (.str ⟨#[108, 101, 115, 115]⟩))), none), ((.k (.c (.str ⟨#[115, 97, 109, 101]⟩))), none), ((.k (.c (.str ⟨#[114, 111, 119]⟩))), none), ((.k (.c (.str ⟨#[108, 101, 110]⟩))), none), ((.k (.c (.str ⟨#[107, 101, 121, 115]⟩))), none), ((.k (.c (.str ⟨#[110, 111, 116]⟩))), none), ((.k (.c (.str ⟨#[101, 108, 115, 101]⟩))), none), ((.k (.c (.str ⟨#[116, 114, 121]⟩))), none), ((.k (.c (.str ⟨#[110, 111, 110, 101]⟩))), none), ((.k (.c (.str ⟨#[98, 97, 100]⟩))), none), ((.k (.c (.str ⟨#[116, 117, 114, 110]⟩))), none), ((.k (.c (.str ⟨#[]⟩))), none)]⟩, ⟨some 0, none, .mv (.t 1)⟩] none [0]) .ret))
theorem chk_l4Words : chkX Go.Proofs.Tryd.prog 2 (Go.Proofs.Tryd.f69.body.getD .skip) x_l4Words = true := by kernel_rfl
theorem rs_l4Words : okRs Go.Proofs.Tryd.prog Go.Proofs.Tryd.f69.results.toList [.tmp 0] = true := by kernel_rfl
theorem call_l4Words : okCallee Go.Proofs.Tryd.prog 69 = true := by kernel_rfl
def x_l4Head : X := (.seq (.reg [⟨some 1, none, .box (.t 0) (some 9)⟩, ⟨some 2, none, .mv (.k (.c (.str ⟨#[]⟩)))⟩] none [1]) (.seq (.seq (.reg [⟨some 3, none, .fa (.t 1) 0⟩, ⟨some 4, none, .load (.t 3) none⟩] none [1, 4]) (.block 0 (.seq (.reg [⟨some 6, none, .bin false .eql (.t 4) (.k (.c (.int .i64 2)))⟩, ⟨some 5, none, .mv (.t 6)⟩] none [1, 4, 5]) (.cond (.t 5) (.seq (.reg [⟨some 7, none, .fa (.t 1) 3⟩, ⟨some 8, none, .load (.t 7) (some 5)⟩, ⟨some 9, none, .call 57 [(.t 8)]⟩, ⟨some 10, none, .bin false .add (.k (.c (.str ⟨#[61]⟩))) (.t 9)⟩, ⟨some 2, none, .mv (.t 10)⟩] none [2]) .ret) (.seq (.reg [⟨some 12, none, .bin false .eql (.t 4) (.k (.c (.int .i64 3)))⟩, ⟨some 11, none, .mv (.t 12)⟩] none [1, 4, 11]) (.cond (.t 11) (.seq (.reg [⟨some 13, none, .fa (.t 1) 2⟩, ⟨some 14, none, .load (.t 13) none⟩, ⟨some 15, none, .bin false .add (.k (.c (.str ⟨#[46]⟩))) (.t 14)⟩, ⟨some 16, none, .bin false .add (.t 15) (.k (.c (.str ⟨#[58]⟩)))⟩, ⟨some 2, none, .mv (.t 16)⟩] none [2]) .ret) (.seq (.reg [⟨some 18, none, .bin false .eql (.t 4) (.k (.c (.int .i64 4)))⟩, ⟨some 17, none, .mv (.t 18)⟩] none [1, 4, 17]) (.cond (.t 17) (.seq (.reg [⟨some 19, none, .fa (.t 1) 1⟩, ⟨some 20, none, .load (.t 19) none⟩, ⟨some 21, none, .call 55 [(.t 20)]⟩, ⟨some 22, none, .bin false .add (.k (.c (.str ⟨#[91]⟩))) (.t 21)⟩, ⟨some 23, none, .bin false .add (.t 22) (.k (.c (.str ⟨#[93]⟩)))⟩, ⟨some 2, none, .mv (.t 23)⟩] none [2]) .ret) (.seq (.reg [⟨some 25, none, .bin false .eql (.t 4) (.k (.c (.int .i64 21)))⟩, ⟨some 24, none, .mv (.t 25)⟩] none [1, 24]) (.cond (.t 24) (.seq (.reg [⟨some 26, none, .fa (.t 1) 2⟩, ⟨some 27, none, .load (.t 26) none⟩, ⟨some 28, none, .bin false .add (.k (.c (.str ⟨#[109, 97, 107, 101, 58]⟩))) (.t 27)⟩, ⟨some 2, none, .mv (.t 28)⟩] none [2]) .ret) .skip)))))))))) (.seq (.reg [⟨some 29, none, .call 69 []⟩, ⟨some 30, none, .fa (.t 1) 0⟩, ⟨some 31, none, .load (.t 30) none⟩, ⟨some 32, none, .ia (.t 29) (.t 31) 1⟩, ⟨some 33, none, .load (.t 32) none⟩, ⟨some 2, none, .mv (.t 33)⟩] (some 3) [2]) .ret)))
theorem chk_l4Head : chkX Go.Proofs.Tryd.prog 34 (Go.Proofs.Tryd.f47.body.getD .skip) x_l4Head = true := by kernel_rfl
theorem rs_l4Head : okRs Go.Proofs.Tryd.prog Go.Proofs.Tryd.f47.results.toList [.tmp 2] = true := by kernel_rfl
theorem call_l4Head : okCallee Go.Proofs.Tryd.prog 47 = true := by kernel_rfl
def x_l4Text : X := (.seq (.reg [⟨some 1, none, .box (.t 0) (some 9)⟩, ⟨some 2, none, .mv (.k (.c (.str ⟨#[]⟩)))⟩] none [1]) (.seq (.reg [⟨some 5, none, .load (.t 1) (some 9)⟩, ⟨some 6, none, .call 47 [(.t 5)]⟩, ⟨some 3, none, .mv (.t 6)⟩] none [1, 3]) (.seq (.seq (.reg [⟨some 4, none, .mv (.k (.c (.int .i64 0)))⟩] none [1, 3, 4]) (.block 0 (.loop (.seq (.seq (.reg [⟨some 7, none, .mv (.t 4)⟩, ⟨some 8, none, .fa (.t 1) 8⟩, ⟨some 9, none, .load (.t 8) none⟩, ⟨some 10, none, .len (.t 9) false⟩, ⟨some 11, none, .bin false .lss (.t 7) (.t 10)⟩] none [1, 3, 4, 11]) (.cond (.t 11) .skip (.exit 0))) (.seq (.block 1 (.reg [⟨some 14, none, .mv (.t 3)⟩, ⟨some 15, none, .bin false .add (.t 14) (.k (.c (.str ⟨#[32]⟩)))⟩, ⟨some 16, none, .fa (.t 1) 8⟩, ⟨some 17, none, .load (.t 16) none⟩, ⟨some 18, none, .mv (.t 4)⟩, ⟨some 19, none, .ia (.t 17) (.t 18) 9⟩, ⟨some 20, none, .load (.t 19) (some 9)⟩, ⟨some 21, none, .call 26 [(.t 20)]⟩, ⟨some 22, none, .bin false .add (.t 15) (.t 21)⟩, ⟨some 3, none, .mv (.t 22)⟩] none [1, 3, 4])) (.reg [⟨some 12, none, .mv (.t 4)⟩, ⟨some 13, none, .bin false .add (.t 12) (.k (.c (.int .i64 1)))⟩, ⟨some 4, none, .mv (.t 13)⟩] none [1, 3, 4])))))) (.seq (.reg [⟨some 23, none, .mv (.t 3)⟩, ⟨some 2, none, .mv (.t 23)⟩] none [2]) .ret))))
theorem chk_l4Text : chkX Go.Proofs.Tryd.prog 24 (Go.Proofs.Tryd.f26.body.getD .skip) x_l4Text = true := by kernel_rfl
theorem rs_l4Text : okRs Go.Proofs.Tryd.prog Go.Proofs.Tryd.f26.results.toList [.tmp 2] = true := by kernel_rfl
theorem call_l4Text : okCallee Go.Proofs.Tryd.prog 26 = true := by kernel_rfl
def x_FiltText : X := (.seq (.reg [⟨some 1, none, .box (.t 0) (some 9)⟩, ⟨some 2, none, .mv (.k (.c (.str ⟨#[]⟩)))⟩] none [1]) (.seq (.seq (.reg [⟨some 3, none, .load (.t 1) (some 9)⟩, ⟨some 4, none, .call 25 [(.t 3)]⟩, ⟨some 5, none, .not (.t 4)⟩] none [1, 5]) (.cond (.t 5) (.seq (.reg [⟨some 2, none, .mv (.k (.c (.str ⟨#[]⟩)))⟩] none [2]) .ret) .skip)) (.seq (.reg [⟨some 6, none, .load (.t 1) (some 9)⟩, ⟨some 7, none, .call 26 [(.t 6)]⟩, ⟨some 2, none, .mv (.t 7)⟩] none [2]) .ret)))
theorem chk_FiltText : chkX Go.Proofs.Tryd.prog 8 (Go.Proofs.Tryd.f11.body.getD .skip) x_FiltText = true := by kernel_rfl
theorem rs_FiltText : okRs Go.Proofs.Tryd.prog Go.Proofs.Tryd.f11.results.toList [.tmp 2] = true := by kernel_rfl
theorem call_FiltText : okCallee Go.Proofs.Tryd.prog 11 = true := by kernel_rfl
def x_ftextI : X := (.seq (.reg [⟨some 1, none, .box (.t 0) (some 9)⟩, ⟨some 2, none, .mv (.k (.c (.str ⟨#[]⟩)))⟩] none [1]) (.seq (.reg [⟨some 6, none, .glb 0⟩, ⟨some 7, none, .fa (.t 1) 0⟩, ⟨some 8, none, .load (.t 7) none⟩, ⟨some 9, none, .ia (.t 6) (.t 8) 1⟩, ⟨some 10, none, .load (.t 9) none⟩, ⟨some 3, none, .mv (.t 10)⟩] none [1, 3]) (.seq (.seq (.reg [⟨some 11, none, .fa (.t 1) 0⟩, ⟨some 12, none, .load (.t 11) none⟩] none [1, 3, 12]) (.block 0 (.seq (.reg [⟨some 14, none, .bin false .eql (.t 12) (.k (.c (.int .i64 2)))⟩, ⟨some 13, none, .mv (.t 14)⟩] none [1, 3, 12, 13]) (.cond (.t 13) (.reg [⟨some 15, none, .fa (.t 1) 3⟩, ⟨some 16, none, .load (.t 15) (some 5)⟩, ⟨some 17, none, .call 39 [(.t 16)]⟩, ⟨some 18, none, .bin false .add (.k (.c (.str ⟨#[61]⟩))) (.t 17)⟩, ⟨some 3, none, .mv (.t 18)⟩] none [1, 3]) (.seq (.reg [⟨some 20, none, .bin false .eql (.t 12) (.k (.c (.int .i64 3)))⟩, ⟨some 19, none, .mv (.t 20)⟩] none [1, 3, 12, 19]) (.cond (.t 19) (.reg [⟨some 21, none, .fa (.t 1) 2⟩, ⟨some 22, none, .load (.t 21) none⟩, ⟨some 23, none, .bin false .add (.k (.c (.str ⟨#[46]⟩))) (.t 22)⟩, ⟨some 24, none, .bin false .add (.t 23) (.k (.c (.str ⟨#[58]⟩)))⟩, ⟨some 3, none, .mv (.t 24)⟩] none [1, 3]) (.seq (.reg [⟨some 26, none, .bin false .eql (.t 12) (.k (.c (.int .i64 4)))⟩, ⟨some 25, none, .mv (.t 26)⟩] none [1, 3, 12, 25]) (.cond (.t 25) (.reg [⟨some 27, none, .fa (.t 1) 1⟩, ⟨some 28, none, .load (.t 27) none⟩, ⟨some 29, none, .call 41 [(.t 28)]⟩, ⟨some 30, none, .bin false .add (.k (.c (.str ⟨#[91]⟩))) (.t 29)⟩, ⟨some 31, none, .bin false .add (.t 30) (.k (.c (.str ⟨#[93]⟩)))⟩, ⟨some 3, none, .mv (.t 31)⟩] none [1, 3]) (.seq (.reg [⟨some 33, none, .bin false .eql (.t 12) (.k (.c (.int .i64 21)))⟩, ⟨some 32, none, .mv (.t 33)⟩] none [1, 3, 32]) (.cond (.t 32) (.reg [⟨some 34, none, .fa (.t 1) 2⟩, ⟨some 35, none, .load (.t 34) none⟩, ⟨some 36, none, .bin false .add (.k (.c (.str ⟨#[109, 97, 107, 101, 58]⟩))) (.t 35)⟩, ⟨some 3, none, .mv (.t 36)⟩] none [1, 3]) .skip)))))))))) (.seq (.seq (.reg [⟨some 37, none, .fa (.t 1) 8⟩, ⟨some 38, none, .load (.t 37) none⟩, ⟨some 39, none, .len (.t 38) false⟩, ⟨some 40, none, .mv (.k (.c (.int .i64 0)))⟩] none [3, 38, 39, 40]) (.block 1 (.loop (.seq (.reg [⟨some 41, none, .bin false .lss (.t 40) (.t 39)⟩] none [3, 38, 39, 40, 41]) (.seq (.cond (.t 41) .skip (.exit 1)) (.seq (.block 2 (.seq (.reg [⟨some 42, none, .ia (.t 38) (.t 40) 9⟩, ⟨some 43, none, .load (.t 42) (some 9)⟩, ⟨some 5, none, .alloc [(.c (.int .i64 0)), (.c (.int .i64 0)), (.c (.str ⟨#[]⟩)), (.c (.int .i64 0)), (.c (.int .i64 0)), (.c (.str ⟨#[]⟩)), (.z 1), (.z 5), (.z 9)]⟩, ⟨none, none, .st (.t 5) (.t 43) (some 9)⟩] none [3, 5, 38, 39, 40]) (.reg [⟨some 44, none, .mv (.t 3)⟩, ⟨some 45, none, .load (.t 5) (some 9)⟩, ⟨some 46, none, .call 30 [(.t 45)]⟩, ⟨some 47, none, .bin false .add (.k (.c (.str ⟨#[32]⟩))) (.t 46)⟩, ⟨some 48, none, .bin false .add (.t 44) (.t 47)⟩, ⟨some 3, none, .mv (.t 48)⟩] none [3, 38, 39, 40]))) (.reg [⟨some 49, none, .bin false .add (.t 40) (.k (.c (.int .i64 1)))⟩, ⟨some 40, none, .mv (.t 49)⟩] none [3, 38, 39, 40]))))))) (.seq (.reg [⟨some 50, none, .mv (.t 3)⟩, ⟨some 2, none, .mv (.t 50)⟩] none [2]) .ret)))))
theorem chk_ftextI : chkX Go.Proofs.Tryd.prog 51 (Go.Proofs.Tryd.f30.body.getD .skip) x_ftextI = true := by kernel_rfl
theorem rs_ftextI : okRs Go.Proofs.Tryd.prog Go.Proofs.Tryd.f30.results.toList [.tmp 2] = true := by kernel_rfl
theorem call_ftextI : okCallee Go.Proofs.Tryd.prog 30 = true := by kernel_rfl
def x_FiltTextI : X := (.seq (.reg [⟨some 1, none, .box (.t 0) (some 9)⟩, ⟨some 2, none, .mv (.k (.c (.str ⟨#[]⟩)))⟩] none [1]) (.seq (.seq (.reg [⟨some 3, none, .load (.t 1) (some 9)⟩, ⟨some 4, none, .call 29 [(.t 3)]⟩, ⟨some 5, none, .not (.t 4)⟩] none [1, 5]) (.cond (.t 5) (.seq (.reg [⟨some 2, none, .mv (.k (.c (.str ⟨#[]⟩)))⟩] none [2]) .ret) .skip)) (.seq (.reg [⟨some 6, none, .load (.t 1) (some 9)⟩, ⟨some 7, none, .call 30 [(.t 6)]⟩, ⟨some 2, none, .mv (.t 7)⟩] none [2]) .ret)))
theorem chk_FiltTextI : chkX Go.Proofs.Tryd.prog 8 (Go.Proofs.Tryd.f13.body.getD .skip) x_FiltTextI = true := by kernel_rfl
theorem rs_FiltTextI : okRs Go.Proofs.Tryd.prog Go.Proofs.Tryd.f13.results.toList [.tmp 2] = true := by kernel_rfl
theorem call_FiltTextI : okCallee Go.Proofs.Tryd.prog 13 = true := by kernel_rfl
theorem fold22 : C.row 1 [[C.str ⟨#[]⟩], [C.str ⟨#[46]⟩], [C.str ⟨#[]⟩], [C.str ⟨#[]⟩], [C.str ⟨#[]⟩], [C.str ⟨#[91, 93]⟩], [C.str ⟨#[112, 105, 112, 101]⟩], [C.str ⟨#[98, 111, 116, 104]⟩], [C.str ⟨#[105, 102]⟩], [C.str ⟨#[97, 100, 100]⟩], [C.str ⟨#[108, 101, 115, 115]⟩], [C.str ⟨#[115, 97, 109, 101]⟩], [C.str ⟨#[114, 111, 119]⟩], [C.str ⟨#[108, 101, 110]⟩], [C.str ⟨#[107, 101, 121, 115]⟩], [C.str ⟨#[110, 111, 116]⟩], [C.str ⟨#[101, 108, 115, 101]⟩], [C.str ⟨#[116, 114, 121]⟩], [C.str ⟨#[110, 111, 110, 101]⟩], [C.str ⟨#[98, 97, 100]⟩], [C.str ⟨#[116, 117, 114, 110]⟩], [C.str ⟨#[]⟩]] = C.row 1 (strs wtab) := rfl
theorem wtab_len : wtab.length = 22 := rfl
noncomputable def spWords  : Spec := Spec.of (ι := Unit) [] (fun _ => []) (fun i => i = i) (fun _ => [.d (.one (.row 1 (strs wtab)))]) (fun _ => [])
theorem spWords_inj : ∀ i j : Unit, (fun (i : Unit) => ([] : List AV)) i = (fun (i : Unit) => ([] : List AV)) j → i = j := by
  intro _ _ _
  rfl
theorem spWords_md  : (spWords).md = [] := rfl
theorem spWords_pre  (u : Unit) : (spWords).pre [] = (u = u) := Spec.of_pre' spWords_inj u
theorem spWords_alts  : (spWords).alts = none := rfl
theorem spWords_res  (u : Unit) : (spWords).res [] = [.d (.one (.row 1 (strs wtab)))] := Spec.of_res spWords_inj u
theorem spWords_out  (u : Unit) : (spWords).out [] = [] := Spec.of_out spWords_inj u
theorem words_sound : Sound Go.Proofs.Tryd.prog 69 spWords := by
  refine sound_fam GOK.nil Go.Proofs.Tryd.func69 (c := Go.Proofs.Tryd.f69.body.getD .skip) rfl (n := 2) rfl chk_l4Words rs_l4Words (fun _ => by simp) ?_ ?_
  · intro a b _; rfl
  · intro u _
    simp only [x_l4Words, rg, go_sem, seval, Prod.fst, fold22]
    try rfl
noncomputable def spHead  : Spec := Spec.of (ι := Int × Int × ByteArray × Int × Int × ByteArray × (List ByteArray) × (List T) × (List Pw.F)) [false] (fun i => [.d (.agg (Pw.F.mk i.1 i.2.1 i.2.2.1 (.mk i.2.2.2.1 i.2.2.2.2.1 i.2.2.2.2.2.1 i.2.2.2.2.2.2.1 i.2.2.2.2.2.2.2.1) i.2.2.2.2.2.2.2.2).enc)]) (fun i => okTF (Pw.F.mk i.1 i.2.1 i.2.2.1 (.mk i.2.2.2.1 i.2.2.2.2.1 i.2.2.2.2.2.1 i.2.2.2.2.2.2.1 i.2.2.2.2.2.2.2.1) i.2.2.2.2.2.2.2.2)) (fun i => [.d (.one (.str (headB i.1 i.2.1 i.2.2.1 (.mk i.2.2.2.1 i.2.2.2.2.1 i.2.2.2.2.2.1 i.2.2.2.2.2.2.1 i.2.2.2.2.2.2.2.1))))]) (fun _ => [.gone])
theorem spHead_inj : ∀ i j : Int × Int × ByteArray × Int × Int × ByteArray × (List ByteArray) × (List T) × (List Pw.F), (fun (i : Int × Int × ByteArray × Int × Int × ByteArray × (List ByteArray) × (List T) × (List Pw.F)) => ([.d (.agg (Pw.F.mk i.1 i.2.1 i.2.2.1 (.mk i.2.2.2.1 i.2.2.2.2.1 i.2.2.2.2.2.1 i.2.2.2.2.2.2.1 i.2.2.2.2.2.2.2.1) i.2.2.2.2.2.2.2.2).enc)] : List AV)) i = (fun (i : Int × Int × ByteArray × Int × Int × ByteArray × (List ByteArray) × (List T) × (List Pw.F)) => ([.d (.agg (Pw.F.mk i.1 i.2.1 i.2.2.1 (.mk i.2.2.2.1 i.2.2.2.2.1 i.2.2.2.2.2.1 i.2.2.2.2.2.2.1 i.2.2.2.2.2.2.2.1) i.2.2.2.2.2.2.2.2).enc)] : List AV)) j → i = j := by
  rintro ⟨k, n, s, vk, vn, vs, vks, vl, l⟩ ⟨k', n', s', vk', vn', vs', vks', vl', l'⟩ h
  simp only [Prod.mk.injEq]
  simpa [strs_eq, T.enc_eq, encL_eq, F.enc_eq, encF_eq, Tk.enc_eq, encTk_eq, Gn.enc_eq, ints_eq, and_assoc] using h
theorem spHead_md  : (spHead).md = [false] := rfl
theorem spHead_pre  (k : Int) (n : Int) (s : ByteArray) (vk : Int) (vn : Int) (vs : ByteArray) (vks : List ByteArray) (vl : List T) (l : List Pw.F) : (spHead).pre [.d (.agg (Pw.F.mk k n s (.mk vk vn vs vks vl) l).enc)] = (okTF (Pw.F.mk k n s (.mk vk vn vs vks vl) l)) := Spec.of_pre' spHead_inj (k, n, s, vk, vn, vs, vks, vl, l)
theorem spHead_alts  : (spHead).alts = none := rfl
theorem spHead_res  (k : Int) (n : Int) (s : ByteArray) (vk : Int) (vn : Int) (vs : ByteArray) (vks : List ByteArray) (vl : List T) (l : List Pw.F) : (spHead).res [.d (.agg (Pw.F.mk k n s (.mk vk vn vs vks vl) l).enc)] = [.d (.one (.str (headB k n s (.mk vk vn vs vks vl))))] := Spec.of_res spHead_inj (k, n, s, vk, vn, vs, vks, vl, l)
theorem spHead_out  (k : Int) (n : Int) (s : ByteArray) (vk : Int) (vn : Int) (vs : ByteArray) (vks : List ByteArray) (vl : List T) (l : List Pw.F) : (spHead).out [.d (.agg (Pw.F.mk k n s (.mk vk vn vs vks vl) l).enc)] = [.gone] := Spec.of_out spHead_inj (k, n, s, vk, vn, vs, vks, vl, l)
theorem foldVal (vk vn : Int) (vs : ByteArray) (vks : List ByteArray) (vl : List T) : DV.agg [C.int .i64 vk, C.int .i64 vn, C.str vs, C.row 1 (strs vks), C.row 5 (encL vl)] = DV.agg (T.mk vk vn vs vks vl).enc := rfl
theorem head_sound : Sound Go.Proofs.Tryd.prog 47 spHead := by
  refine sound_fam (GOK.cons (l := [(55, spDecV), (69, spWords)]) call_l1Text txtV_sound (GOK.cons call_l11Dec decV_sound (GOK.cons call_l4Words words_sound GOK.nil))) Go.Proofs.Tryd.func47 (c := Go.Proofs.Tryd.f47.body.getD .skip) rfl (n := 34) rfl chk_l4Head rs_l4Head (fun _ => by simp) ?_ ?_
  · exact spHead_inj
  · rintro ⟨k, n, s, vk, vn, vs, vks, vl, l⟩ h
    change okTF (F.mk k n s (.mk vk vn vs vks vl) l) at h
    obtain ⟨⟨d, h1⟩, h2⟩ := h
    simp only [formF] at h1
    obtain ⟨f1, f2, f3, f4, f5, f6, f7, f8, f9⟩ := h1
    have f10 := kidsOf_range (show 0 ≤ kidsOf k by omega)
    have f11 := f4.2
    have f12 : okTx (T.mk vk vn vs vks vl) := okTx_of f7
    have f13 := okTx_size f12
    have f14 := itoaB_size (n := n) (by omega) (by omega)
    have q1 : (ByteArray.mk #[61]).size = 1 := rfl
    have q2 : (ByteArray.mk #[46]).size = 1 := rfl
    have q3 : (ByteArray.mk #[58]).size = 1 := rfl
    have q4 : (ByteArray.mk #[91]).size = 1 := rfl
    have q5 : (ByteArray.mk #[93]).size = 1 := rfl
    have q6 : (ByteArray.mk #[109, 97, 107, 101, 58]).size = 5 := rfl
    by_cases c2 : k = 2
    · subst c2
      simp only [x_l4Head, F.enc, T.enc, List.cons_append, List.nil_append, rg, go_sem, seval, Prod.fst, foldVal, q1, headB, spTxtV_md, spTxtV_pre, spTxtV_alts, spTxtV_res, spTxtV_out]
      repeat' (first | with_reducible assumption | with_reducible refine And.intro ?_ ?_ | intro _)
      all_goals first | omega | with_reducible assumption | simp
    by_cases c3 : k = 3
    · subst c3
      simp only [x_l4Head, F.enc, T.enc, List.cons_append, List.nil_append, rg, go_sem, seval, Prod.fst, q2, q3, ByteArray.size_append, headB]
      repeat' (first | with_reducible assumption | with_reducible refine And.intro ?_ ?_ | intro _)
      all_goals first | omega | with_reducible assumption | simp
    by_cases c4 : k = 4
    · subst c4
      simp only [x_l4Head, F.enc, T.enc, List.cons_append, List.nil_append, rg, go_sem, seval, Prod.fst, q4, q5, ByteArray.size_append, headB, spDecV_md, spDecV_pre, spDecV_alts, spDecV_res, spDecV_out]
      repeat' (first | with_reducible assumption | with_reducible refine And.intro ?_ ?_ | intro _)
      all_goals first | omega | with_reducible assumption | simp
    by_cases c5 : k = 21
    · subst c5
      simp only [x_l4Head, F.enc, T.enc, List.cons_append, List.nil_append, rg, go_sem, seval, Prod.fst, q6, headB]
      repeat' (first | with_reducible assumption | with_reducible refine And.intro ?_ ?_ | intro _)
      all_goals first | omega | with_reducible assumption | simp
    have a2 : (k = 2) = False := eq_false c2
    have a3 : (k = 3) = False := eq_false c3
    have a4 : (k = 4) = False := eq_false c4
    have a5 : (k = 21) = False := eq_false c5
    have a6 := strs_at (wtab_at (i := k.toNat) (by omega))
    simp only [x_l4Head, F.enc, T.enc, List.cons_append, List.nil_append, rg, go_sem, seval, Prod.fst, a2, a3, a4, a5, a6, strs_len, wtab_len, headB, if_false, spWords_md, spWords_alts, spWords_pre (), spWords_res (), spWords_out ()]
    repeat' (first | with_reducible assumption | with_reducible refine And.intro ?_ ?_ | intro _)
    all_goals first | omega | with_reducible assumption | skip
theorem spHead_preF (t : F) : spHead.pre [.d (.agg t.enc)] = okTF t := by
  obtain ⟨k, n, s, ⟨vk, vn, vs, vks, vl⟩, l⟩ := t
  exact spHead_pre k n s vk vn vs vks vl l
def F.hd : F → ByteArray
  | .mk k n s v _ => headB k n s v
theorem spHead_resF (t : F) : spHead.res [.d (.agg t.enc)] = [.d (.one (.str t.hd))] := by
  obtain ⟨k, n, s, ⟨vk, vn, vs, vks, vl⟩, l⟩ := t
  exact spHead_res k n s vk vn vs vks vl l
theorem spHead_outF (t : F) : spHead.out [.d (.agg t.enc)] = [.gone] := by
  obtain ⟨k, n, s, ⟨vk, vn, vs, vks, vl⟩, l⟩ := t
  exact spHead_out k n s vk vn vs vks vl l
theorem q32 : (ByteArray.mk #[32]).size = 1 := rfl
noncomputable def spTxF (k:Nat) : Spec := Spec.of (ι := F) [false] (fun i => [.d (.agg i.enc)]) (fun i => (okTF i) ∧ SizeOf.sizeOf i < k) (fun i => [.d (.one (.str (textF i)))]) (fun _ => [.gone])
theorem spTxF_inj : ∀ i j : F, (fun (i : F) => ([.d (.agg i.enc)] : List AV)) i = (fun (i : F) => ([.d (.agg i.enc)] : List AV)) j → i = j := by
  intro t t' h
  simpa [strs_eq, T.enc_eq, encL_eq, F.enc_eq, encF_eq, Tk.enc_eq, encTk_eq, Gn.enc_eq, ints_eq, and_assoc] using h
theorem spTxF_md (k:Nat) : (spTxF k).md = [false] := rfl
theorem spTxF_pre (k:Nat) (t : F) : (spTxF k).pre [.d (.agg t.enc)] = ((okTF t) ∧ SizeOf.sizeOf t < k) := Spec.of_pre' spTxF_inj t
theorem spTxF_alts (k:Nat) : (spTxF k).alts = none := rfl
theorem spTxF_res (k:Nat) (t : F) : (spTxF k).res [.d (.agg t.enc)] = [.d (.one (.str (textF t)))] := Spec.of_res spTxF_inj t
theorem spTxF_out (k:Nat) (t : F) : (spTxF k).out [.d (.agg t.enc)] = [.gone] := Spec.of_out spTxF_inj t
theorem foldF' (k n : Int) (s : ByteArray) (l : List F) (vk vn : Int) (vs : ByteArray) (vks : List ByteArray) (vl : List T) : DV.agg [C.int .i64 k, C.int .i64 n, C.str s, C.int .i64 vk, C.int .i64 vn, C.str vs, C.row 1 (strs vks), C.row 5 (encL vl), C.row 9 (encF l)] = DV.agg (F.mk k n s (.mk vk vn vs vks vl) l).enc := rfl
set_option maxHeartbeats 2000000 in
theorem txF_sound (k : Nat) (hS : Sound Go.Proofs.Tryd.prog 26 (spTxF k)) : Sound Go.Proofs.Tryd.prog 26 (spTxF (k + 1)) := by
  refine sound_fam (GOK.cons (l := [(26, spTxF k)]) call_l4Head head_sound (GOK.cons call_l4Text hS GOK.nil)) Go.Proofs.Tryd.func26 (c := Go.Proofs.Tryd.f26.body.getD .skip) rfl (n := 24) rfl chk_l4Text rs_l4Text (fun _ => by simp) ?_ ?_
  · exact spTxF_inj
  · rintro t ⟨h1, h4⟩
    have hh := h1
    have hT := okTF_size h1
    obtain ⟨kk, n, s, v, l⟩ := t
    have hkid := fun t ht => okTF_kid h1 (t := t) ht
    obtain ⟨⟨d, h1⟩, h2⟩ := h1
    have e3 : SizeOf.sizeOf l < k := by have e : SizeOf.sizeOf (F.mk kk n s v l) < k + 1 := h4
                                        rw [F.mk.sizeOf_spec] at e; omega
    clear h4
    simp only [formF] at h1
    obtain ⟨f1, f2, f3, f4, f5, f6, f7, f8, f9⟩ := h1
    simp only [sizeF] at h2
    have f10 := kidsOf_range (show 0 ≤ kidsOf kk by omega)
    have f14 := len_sizeFL l
    have hb := headB_size (s := s) (v := v) (show 0 ≤ kk ∧ kk ≤ 21 by omega) ⟨f5, f6⟩ f4.2 f7
    have hz : ∀ i, (headB kk n s v ++ textFs (l.take i)).size ≤ 40000 := fun i => by
      have a := textFs_size (formFL_take f8 i)
      have b := sizeFL_take l i
      rw [ByteArray.size_append]; omega
    obtain ⟨vk, vn, vs, vks, vl⟩ := v
    simp only [x_l4Text, F.enc, T.enc, List.cons_append, List.nil_append, rg, go_sem, seval, Prod.fst, foldF', spHead_md, spHead_alts, spHead_preF, spHead_resF, spHead_outF]
    repeat' (first | with_reducible assumption | with_reducible refine And.intro ?_ ?_ | intro _)
    all_goals first | omega | with_reducible assumption | skip
    refine pw_loop (ι := Nat) (fun i => l.length - i) (fun i => i ≤ l.length)
      (fun i => ⟨[(1, .q (.box 1 0)), (3, .q (.c (.str (headB kk n s (.mk vk vn vs vks vl) ++ textFs (l.take i))))), (4, .q (.c (.int .i64 i)))],
        [(1, [.c (.int .i64 kk), .c (.int .i64 n), .c (.str s), .c (.int .i64 vk), .c (.int .i64 vn), .c (.str vs), .c (.row 1 (strs vks)), .c (.row 5 (encL vl)), .c (.row 9 (encF l))])], []⟩) 0 (Nat.zero_le _) (Le.of_eq (by simp [textFs, ba_nil', F.hd])) ?_
    intro i hi
    rcases Nat.lt_or_ge i l.length with hlt | hge
    · obtain ⟨t, ht, _, hmem⟩ := drop_at hlt
      have a1 := encF_at ht
      have a2 : ((i : Int) < (l.length : Int)) = True := by simp; omega
      have a4 := size_mem hmem
      have a5 := hkid t hmem
      have a6 := F.enc_len t
      have a7 := okTF_size a5
      have a8 := hz i
      have a9 := textFs_take ht
      rw [ByteArray.size_append] at a8
      simp only [rg, go_sem, seval, Prod.fst, a1, a2, a6, encF_len, q32, ByteArray.size_append, spTxF_md, spTxF_pre, spTxF_alts, spTxF_res, spTxF_out]
      repeat' (first | with_reducible assumption | with_reducible refine And.intro ?_ ?_ | intro _)
      all_goals first | omega | with_reducible assumption | skip
      refine ⟨i + 1, hlt, by omega, Le.of_eq ?_⟩
      rw [a9]
      simp [ba_assoc]
    · have a2 : ((i : Int) < (l.length : Int)) = False := by simp; omega
      have a3 : l.take i = l := List.take_of_length_le hge
      simp only [rg, go_sem, seval, Prod.fst, a2, a3, encF_len, textF]
theorem txF_all (k : Nat) : Sound Go.Proofs.Tryd.prog 26 (spTxF k) := by
  induction k with
  | zero => exact Sound.none
  | succ k ih => exact txF_sound k ih
noncomputable def spTxFV  : Spec := Spec.of (ι := F) [false] (fun i => [.d (.agg i.enc)]) (fun i => okTF i) (fun i => [.d (.one (.str (textF i)))]) (fun _ => [.gone])
theorem spTxFV_inj : ∀ i j : F, (fun (i : F) => ([.d (.agg i.enc)] : List AV)) i = (fun (i : F) => ([.d (.agg i.enc)] : List AV)) j → i = j := by
  intro t t' h
  simpa [strs_eq, T.enc_eq, encL_eq, F.enc_eq, encF_eq, Tk.enc_eq, encTk_eq, Gn.enc_eq, ints_eq, and_assoc] using h
theorem spTxFV_md  : (spTxFV).md = [false] := rfl
theorem spTxFV_pre  (t : F) : (spTxFV).pre [.d (.agg t.enc)] = (okTF t) := Spec.of_pre' spTxFV_inj t
theorem spTxFV_alts  : (spTxFV).alts = none := rfl
theorem spTxFV_res  (t : F) : (spTxFV).res [.d (.agg t.enc)] = [.d (.one (.str (textF t)))] := Spec.of_res spTxFV_inj t
theorem spTxFV_out  (t : F) : (spTxFV).out [.d (.agg t.enc)] = [.gone] := Spec.of_out spTxFV_inj t
theorem txFV_sound : Sound Go.Proofs.Tryd.prog 26 spTxFV := Sound.all (μ := fun t => SizeOf.sizeOf t) txF_all
noncomputable def spFiltText  : Spec := Spec.of (ι := F) [false] (fun i => [.d (.agg i.enc)]) (fun i => i.fit 140737488355328 ∧ smallF i ∧ sizeF i ≤ 1048577) (fun i => [.d (.one (.str (filtText i)))]) (fun _ => [.gone])
theorem spFiltText_inj : ∀ i j : F, (fun (i : F) => ([.d (.agg i.enc)] : List AV)) i = (fun (i : F) => ([.d (.agg i.enc)] : List AV)) j → i = j := by
  intro t t' h
  simpa [strs_eq, T.enc_eq, encL_eq, F.enc_eq, encF_eq, Tk.enc_eq, encTk_eq, Gn.enc_eq, ints_eq, and_assoc] using h
theorem spFiltText_md  : (spFiltText).md = [false] := rfl
theorem spFiltText_pre  (t : F) : (spFiltText).pre [.d (.agg t.enc)] = (t.fit 140737488355328 ∧ smallF t ∧ sizeF t ≤ 1048577) := Spec.of_pre' spFiltText_inj t
theorem spFiltText_alts  : (spFiltText).alts = none := rfl
theorem spFiltText_res  (t : F) : (spFiltText).res [.d (.agg t.enc)] = [.d (.one (.str (filtText t)))] := Spec.of_res spFiltText_inj t
theorem spFiltText_out  (t : F) : (spFiltText).out [.d (.agg t.enc)] = [.gone] := Spec.of_out spFiltText_inj t
theorem filtText_sound : Sound Go.Proofs.Tryd.prog 11 spFiltText := by
  refine sound_fam (GOK.cons (l := [(26, spTxFV)]) call_FiltOk sOkF_sound (GOK.cons call_l4Text txFV_sound GOK.nil)) Go.Proofs.Tryd.func11 (c := Go.Proofs.Tryd.f11.body.getD .skip) rfl (n := 8) rfl chk_FiltText rs_FiltText (fun _ => by simp) ?_ ?_
  · exact spFiltText_inj
  · rintro t ⟨h1, h2, h3⟩
    by_cases c : okF t
    · have h4 := okTF_of c
      simp only [x_FiltText, rg, go_sem, seval, Prod.fst, F.enc_len, c, filtText, if_true, spOkF_md, spOkF_pre, spOkF_alts, spOkF_res, spOkF_out, spTxFV_md, spTxFV_pre, spTxFV_alts, spTxFV_res, spTxFV_out]
      repeat' (first | with_reducible assumption | with_reducible refine And.intro ?_ ?_ | intro _)
      all_goals first | omega | with_reducible assumption | skip
    · simp only [x_FiltText, rg, go_sem, seval, Prod.fst, F.enc_len, c, filtText, if_false, spOkF_md, spOkF_pre, spOkF_alts, spOkF_res, spOkF_out]
      repeat' (first | with_reducible assumption | with_reducible refine And.intro ?_ ?_ | intro _)
      all_goals first | omega | with_reducible assumption | skip
set_option maxHeartbeats 2000000 in
theorem txFI_sound (hK : tabK) (hW : get? 0 Globs.G = some wtabC) (k : Nat) (hS : Sound Go.Proofs.Tryd.prog 30 (spTxF k)) : Sound Go.Proofs.Tryd.prog 30 (spTxF (k + 1)) := by
  refine sound_fam (GOK.cons (l := [(30, spTxF k), (39, spTxtV)]) call_Itoa (itoa_sound hK) (GOK.cons (l := [(39, spTxtV)]) call_ftextI hS (GOK.cons call_textI (txtIV_sound hK) GOK.nil))) Go.Proofs.Tryd.func30 (c := Go.Proofs.Tryd.f30.body.getD .skip) rfl (n := 51) rfl chk_ftextI rs_ftextI (fun _ => by simp) ?_ ?_
  · exact spTxF_inj
  · rintro t ⟨h1, h4⟩
    have hT := okTF_size h1
    obtain ⟨kk, n, s, v, l⟩ := t
    have hkid := fun t ht => okTF_kid h1 (t := t) ht
    obtain ⟨⟨d, h1⟩, h2⟩ := h1
    have e3 : SizeOf.sizeOf l < k := by have e : SizeOf.sizeOf (F.mk kk n s v l) < k + 1 := h4
                                        rw [F.mk.sizeOf_spec] at e; omega
    clear h4
    simp only [formF] at h1
    obtain ⟨f1, f2, f3, f4, f5, f6, f7, f8, f9⟩ := h1
    simp only [sizeF] at h2
    have f10 := kidsOf_range (show 0 ≤ kidsOf kk by omega)
    have f14 := len_sizeFL l
    have f11 := f4.2
    have f12 : okTx v := okTx_of f7
    have f13 := okTx_size f12
    have f15 := itoaB_size (n := n) (by omega) (by omega)
    have hb := headB_size (s := s) (v := v) (show 0 ≤ kk ∧ kk ≤ 21 by omega) ⟨f5, f6⟩ f4.2 f7
    have hz : ∀ i, (headB kk n s v ++ textFs (l.take i)).size ≤ 40000 := fun i => by
      have a := textFs_size (formFL_take f8 i)
      have b := sizeFL_take l i
      rw [ByteArray.size_append]; omega
    obtain ⟨vk, vn, vs, vks, vl⟩ := v
    have q1 : (ByteArray.mk #[61]).size = 1 := rfl
    have q2 : (ByteArray.mk #[46]).size = 1 := rfl
    have q3 : (ByteArray.mk #[58]).size = 1 := rfl
    have q4 : (ByteArray.mk #[91]).size = 1 := rfl
    have q5 : (ByteArray.mk #[93]).size = 1 := rfl
    have q6 : (ByteArray.mk #[109, 97, 107, 101, 58]).size = 5 := rfl
    have a6 := strs_at (wtab_at (i := kk.toNat) (by omega))
    have i64n : i64 n := by unfold i64; omega
    by_cases c2 : kk = 2
    · subst c2
      have a7 : (strs wtab).getD 2 [] = [C.str ⟨#[]⟩] := rfl
      simp only [x_ftextI, F.enc, T.enc, List.cons_append, List.nil_append, rg, go_sem, seval, Prod.fst, hW, wtabC, a7, strs_len, wtab_len, encF_len, foldVal, q1, spTxtV_md, spTxtV_pre, spTxtV_alts, spTxtV_res, spTxtV_out]
      repeat' (first | with_reducible assumption | with_reducible refine And.intro ?_ ?_ | intro _)
      all_goals first | omega | with_reducible assumption | skip
      refine pw_loop (ι := Nat) (fun i => l.length - i) (fun i => i ≤ l.length)
        (fun i => ⟨[(3, .q (.c (.str (headB 2 n s (.mk vk vn vs vks vl) ++ textFs (l.take i))))), (38, .q (.c (.row 9 (encF l)))), (39, .q (.c (.int .i64 l.length))), (40, .q (.c (.int .i64 i)))],
          [], []⟩) 0 (Nat.zero_le _) ?_ ?_
      · exact Le.sub (by simp [textFs, ba_nil', headB]) (by simp) (by simp)
      intro i hi
      rcases Nat.lt_or_ge i l.length with hlt | hge
      · obtain ⟨t, ht, _, hmem⟩ := drop_at hlt
        have a1 := encF_at ht
        have a2 : ((i : Int) < (l.length : Int)) = True := by simp; omega
        have a4 := size_mem hmem
        have a5 := hkid t hmem
        have a6 := F.enc_len t
        have a7 := okTF_size a5
        have a8 := hz i
        have a9 := textFs_take ht
        rw [ByteArray.size_append] at a8
        simp only [rg, go_sem, seval, Prod.fst, a1, a2, a6, encF_len, q32, ByteArray.size_append, spTxF_md, spTxF_pre, spTxF_alts, spTxF_res, spTxF_out]
        repeat' (first | with_reducible assumption | with_reducible refine And.intro ?_ ?_ | intro _)
        all_goals first | omega | with_reducible assumption | skip
        refine ⟨i + 1, hlt, by omega, ?_⟩
        rw [a9]
        exact Le.sub (by simp [ba_assoc]) (by simp) (by simp)
      · have a2 : ((i : Int) < (l.length : Int)) = False := by simp; omega
        have a3 : l.take i = l := List.take_of_length_le hge
        simp only [rg, go_sem, seval, Prod.fst, a2, a3, encF_len, textF]
    by_cases c3 : kk = 3
    · subst c3
      have a7 : (strs wtab).getD 3 [] = [C.str ⟨#[]⟩] := rfl
      simp only [x_ftextI, F.enc, T.enc, List.cons_append, List.nil_append, rg, go_sem, seval, Prod.fst, hW, wtabC, a7, strs_len, wtab_len, encF_len, q2, q3, ByteArray.size_append]
      repeat' (first | with_reducible assumption | with_reducible refine And.intro ?_ ?_ | intro _)
      all_goals first | omega | with_reducible assumption | skip
      refine pw_loop (ι := Nat) (fun i => l.length - i) (fun i => i ≤ l.length)
        (fun i => ⟨[(3, .q (.c (.str (headB 3 n s (.mk vk vn vs vks vl) ++ textFs (l.take i))))), (38, .q (.c (.row 9 (encF l)))), (39, .q (.c (.int .i64 l.length))), (40, .q (.c (.int .i64 i)))],
          [], []⟩) 0 (Nat.zero_le _) ?_ ?_
      · exact Le.sub (by simp [textFs, ba_nil', headB]) (by simp) (by simp)
      intro i hi
      rcases Nat.lt_or_ge i l.length with hlt | hge
      · obtain ⟨t, ht, _, hmem⟩ := drop_at hlt
        have a1 := encF_at ht
        have a2 : ((i : Int) < (l.length : Int)) = True := by simp; omega
        have a4 := size_mem hmem
        have a5 := hkid t hmem
        have a6 := F.enc_len t
        have a7 := okTF_size a5
        have a8 := hz i
        have a9 := textFs_take ht
        rw [ByteArray.size_append] at a8
        simp only [rg, go_sem, seval, Prod.fst, a1, a2, a6, encF_len, q32, ByteArray.size_append, spTxF_md, spTxF_pre, spTxF_alts, spTxF_res, spTxF_out]
        repeat' (first | with_reducible assumption | with_reducible refine And.intro ?_ ?_ | intro _)
        all_goals first | omega | with_reducible assumption | skip
        refine ⟨i + 1, hlt, by omega, ?_⟩
        rw [a9]
        exact Le.sub (by simp [ba_assoc]) (by simp) (by simp)
      · have a2 : ((i : Int) < (l.length : Int)) = False := by simp; omega
        have a3 : l.take i = l := List.take_of_length_le hge
        simp only [rg, go_sem, seval, Prod.fst, a2, a3, encF_len, textF]
    by_cases c4 : kk = 4
    · subst c4
      have a7 : (strs wtab).getD 4 [] = [C.str ⟨#[]⟩] := rfl
      simp only [x_ftextI, F.enc, T.enc, List.cons_append, List.nil_append, rg, go_sem, seval, Prod.fst, hW, wtabC, a7, strs_len, wtab_len, encF_len, q4, q5, ByteArray.size_append, spItoa_md, spItoa_pre, spItoa_alts, spItoa_res, spItoa_out]
      repeat' (first | with_reducible assumption | with_reducible refine And.intro ?_ ?_ | intro _)
      all_goals first | omega | with_reducible assumption | skip
      refine pw_loop (ι := Nat) (fun i => l.length - i) (fun i => i ≤ l.length)
        (fun i => ⟨[(3, .q (.c (.str (headB 4 n s (.mk vk vn vs vks vl) ++ textFs (l.take i))))), (38, .q (.c (.row 9 (encF l)))), (39, .q (.c (.int .i64 l.length))), (40, .q (.c (.int .i64 i)))],
          [], []⟩) 0 (Nat.zero_le _) ?_ ?_
      · exact Le.sub (by simp [textFs, ba_nil', headB]) (by simp) (by simp)
      intro i hi
      rcases Nat.lt_or_ge i l.length with hlt | hge
      · obtain ⟨t, ht, _, hmem⟩ := drop_at hlt
        have a1 := encF_at ht
        have a2 : ((i : Int) < (l.length : Int)) = True := by simp; omega
        have a4 := size_mem hmem
        have a5 := hkid t hmem
        have a6 := F.enc_len t
        have a7 := okTF_size a5
        have a8 := hz i
        have a9 := textFs_take ht
        rw [ByteArray.size_append] at a8
        simp only [rg, go_sem, seval, Prod.fst, a1, a2, a6, encF_len, q32, ByteArray.size_append, spTxF_md, spTxF_pre, spTxF_alts, spTxF_res, spTxF_out]
        repeat' (first | with_reducible assumption | with_reducible refine And.intro ?_ ?_ | intro _)
        all_goals first | omega | with_reducible assumption | skip
        refine ⟨i + 1, hlt, by omega, ?_⟩
        rw [a9]
        exact Le.sub (by simp [ba_assoc]) (by simp) (by simp)
      · have a2 : ((i : Int) < (l.length : Int)) = False := by simp; omega
        have a3 : l.take i = l := List.take_of_length_le hge
        simp only [rg, go_sem, seval, Prod.fst, a2, a3, encF_len, textF]
    by_cases c21 : kk = 21
    · subst c21
      have a7 : (strs wtab).getD 21 [] = [C.str ⟨#[]⟩] := rfl
      simp only [x_ftextI, F.enc, T.enc, List.cons_append, List.nil_append, rg, go_sem, seval, Prod.fst, hW, wtabC, a7, strs_len, wtab_len, encF_len, q6]
      repeat' (first | with_reducible assumption | with_reducible refine And.intro ?_ ?_ | intro _)
      all_goals first | omega | with_reducible assumption | skip
      refine pw_loop (ι := Nat) (fun i => l.length - i) (fun i => i ≤ l.length)
        (fun i => ⟨[(3, .q (.c (.str (headB 21 n s (.mk vk vn vs vks vl) ++ textFs (l.take i))))), (38, .q (.c (.row 9 (encF l)))), (39, .q (.c (.int .i64 l.length))), (40, .q (.c (.int .i64 i)))],
          [], []⟩) 0 (Nat.zero_le _) ?_ ?_
      · exact Le.sub (by simp [textFs, ba_nil', headB]) (by simp) (by simp)
      intro i hi
      rcases Nat.lt_or_ge i l.length with hlt | hge
      · obtain ⟨t, ht, _, hmem⟩ := drop_at hlt
        have a1 := encF_at ht
        have a2 : ((i : Int) < (l.length : Int)) = True := by simp; omega
        have a4 := size_mem hmem
        have a5 := hkid t hmem
        have a6 := F.enc_len t
        have a7 := okTF_size a5
        have a8 := hz i
        have a9 := textFs_take ht
        rw [ByteArray.size_append] at a8
        simp only [rg, go_sem, seval, Prod.fst, a1, a2, a6, encF_len, q32, ByteArray.size_append, spTxF_md, spTxF_pre, spTxF_alts, spTxF_res, spTxF_out]
        repeat' (first | with_reducible assumption | with_reducible refine And.intro ?_ ?_ | intro _)
        all_goals first | omega | with_reducible assumption | skip
        refine ⟨i + 1, hlt, by omega, ?_⟩
        rw [a9]
        exact Le.sub (by simp [ba_assoc]) (by simp) (by simp)
      · have a2 : ((i : Int) < (l.length : Int)) = False := by simp; omega
        have a3 : l.take i = l := List.take_of_length_le hge
        simp only [rg, go_sem, seval, Prod.fst, a2, a3, encF_len, textF]
    have b2 : (kk = 2) = False := eq_false c2
    have b3 : (kk = 3) = False := eq_false c3
    have b4 : (kk = 4) = False := eq_false c4
    have b5 : (kk = 21) = False := eq_false c21
    · simp only [x_ftextI, F.enc, T.enc, List.cons_append, List.nil_append, rg, go_sem, seval, Prod.fst, hW, wtabC, a6, b2, b3, b4, b5, strs_len, wtab_len, encF_len]
      repeat' (first | with_reducible assumption | with_reducible refine And.intro ?_ ?_ | intro _)
      all_goals first | omega | with_reducible assumption | skip
      refine pw_loop (ι := Nat) (fun i => l.length - i) (fun i => i ≤ l.length)
        (fun i => ⟨[(3, .q (.c (.str (headB kk n s (.mk vk vn vs vks vl) ++ textFs (l.take i))))), (38, .q (.c (.row 9 (encF l)))), (39, .q (.c (.int .i64 l.length))), (40, .q (.c (.int .i64 i)))],
          [], []⟩) 0 (Nat.zero_le _) ?_ ?_
      · exact Le.sub (by simp [textFs, ba_nil', headB, c2, c3, c4, c21]) (by simp) (by simp)
      intro i hi
      rcases Nat.lt_or_ge i l.length with hlt | hge
      · obtain ⟨t, ht, _, hmem⟩ := drop_at hlt
        have a1 := encF_at ht
        have a2 : ((i : Int) < (l.length : Int)) = True := by simp; omega
        have a4 := size_mem hmem
        have a5 := hkid t hmem
        have a6 := F.enc_len t
        have a7 := okTF_size a5
        have a8 := hz i
        have a9 := textFs_take ht
        rw [ByteArray.size_append] at a8
        simp only [rg, go_sem, seval, Prod.fst, a1, a2, a6, encF_len, q32, ByteArray.size_append, spTxF_md, spTxF_pre, spTxF_alts, spTxF_res, spTxF_out]
        repeat' (first | with_reducible assumption | with_reducible refine And.intro ?_ ?_ | intro _)
        all_goals first | omega | with_reducible assumption | skip
        refine ⟨i + 1, hlt, by omega, ?_⟩
        rw [a9]
        exact Le.sub (by simp [ba_assoc]) (by simp) (by simp)
      · have a2 : ((i : Int) < (l.length : Int)) = False := by simp; omega
        have a3 : l.take i = l := List.take_of_length_le hge
        simp only [rg, go_sem, seval, Prod.fst, a2, a3, encF_len, textF]
theorem txFI_all (hK : tabK) (hW : get? 0 Globs.G = some wtabC) (k : Nat) : Sound Go.Proofs.Tryd.prog 30 (spTxF k) := by
  induction k with
  | zero => exact Sound.none
  | succ k ih => exact txFI_sound hK hW k ih
theorem txFIV_sound (hK : tabK) (hW : get? 0 Globs.G = some wtabC) : Sound Go.Proofs.Tryd.prog 30 spTxFV := Sound.all (μ := fun t => SizeOf.sizeOf t) (txFI_all hK hW)
theorem filtTextI_sound (hK : tabK) (hW : get? 0 Globs.G = some wtabC) (hG : get? 1 Globs.G = some ktabC) : Sound Go.Proofs.Tryd.prog 13 spFiltText := by
  refine sound_fam (GOK.cons (l := [(30, spTxFV)]) call_FiltOkI (filtOkI_sound hG) (GOK.cons call_ftextI (txFIV_sound hK hW) GOK.nil)) Go.Proofs.Tryd.func13 (c := Go.Proofs.Tryd.f13.body.getD .skip) rfl (n := 8) rfl chk_FiltTextI rs_FiltTextI (fun _ => by simp) ?_ ?_
  · exact spFiltText_inj
  · rintro t ⟨h1, h2, h3⟩
    by_cases c : okF t
    · have h4 := okTF_of c
      have e : ((okFI t 1 16).1 = true) = True := eq_true ((okFI_iff t).2 c)
      simp only [x_FiltTextI, rg, go_sem, seval, Prod.fst, F.enc_len, e, c, filtText, if_true, spFiltOkI_md, spFiltOkI_pre, spFiltOkI_alts, spFiltOkI_res, spFiltOkI_out, spTxFV_md, spTxFV_pre, spTxFV_alts, spTxFV_res, spTxFV_out]
      repeat' (first | with_reducible assumption | with_reducible refine And.intro ?_ ?_ | intro _)
      all_goals first | omega | with_reducible assumption | skip
    · have e : ((okFI t 1 16).1 = true) = False := eq_false (fun h => c ((okFI_iff t).1 h))
      simp only [x_FiltTextI, rg, go_sem, seval, Prod.fst, F.enc_len, e, c, filtText, if_false, spFiltOkI_md, spFiltOkI_pre, spFiltOkI_alts, spFiltOkI_res, spFiltOkI_out]
      repeat' (first | with_reducible assumption | with_reducible refine And.intro ?_ ?_ | intro _)
      all_goals first | omega | with_reducible assumption | skip
end Go.Proofs.Pw
