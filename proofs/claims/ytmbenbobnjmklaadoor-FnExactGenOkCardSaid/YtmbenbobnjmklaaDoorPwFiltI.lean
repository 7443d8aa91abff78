/- What is a filter that is ok: the program's functions. -/
import Derived.Test.YtmbenbobnjmklaaDoorPwD
import Derived.Test.YtmbenbobnjmklaaDoorPwOkI
import Derived.Test.YtmbenbobnjmklaaDoorPwSame
set_option linter.unusedSimpArgs false
set_option maxRecDepth 20000
namespace Go.Proofs.Pw
set_option linter.unusedSectionVars false
variable [Globs]
def x_looks : X := (.seq (.reg [⟨some 1, none, .box (.t 0) (some 9)⟩, ⟨some 2, none, .mv (.k (.c (.bool false)))⟩] none [1]) (.seq (.seq (.reg [⟨some 3, none, .fa (.t 1) 0⟩, ⟨some 4, none, .load (.t 3) none⟩] none [1, 4]) (.block 0 (.seq (.seq (.reg [⟨some 6, none, .bin false .eql (.t 4) (.k (.c (.int .i64 1)))⟩, ⟨some 5, none, .mv (.t 6)⟩] none [1, 4, 5]) (.cond (.t 5) .skip (.seq (.reg [⟨some 7, none, .bin false .eql (.t 4) (.k (.c (.int .i64 3)))⟩, ⟨some 5, none, .mv (.t 7)⟩] none [1, 4, 5]) (.cond (.t 5) .skip (.seq (.reg [⟨some 8, none, .bin false .eql (.t 4) (.k (.c (.int .i64 4)))⟩, ⟨some 5, none, .mv (.t 8)⟩] none [1, 4, 5]) (.cond (.t 5) .skip (.seq (.reg [⟨some 9, none, .bin false .eql (.t 4) (.k (.c (.int .i64 5)))⟩, ⟨some 5, none, .mv (.t 9)⟩] none [1, 4, 5]) (.cond (.t 5) .skip (.reg [⟨some 10, none, .bin false .eql (.t 4) (.k (.c (.int .i64 18)))⟩, ⟨some 5, none, .mv (.t 10)⟩] none [1, 4, 5]))))))))) (.cond (.t 5) (.seq (.reg [⟨some 2, none, .mv (.k (.c (.bool true)))⟩] none [2]) .ret) (.seq (.seq (.reg [⟨some 12, none, .bin false .eql (.t 4) (.k (.c (.int .i64 6)))⟩, ⟨some 11, none, .mv (.t 12)⟩] none [1, 4, 11]) (.cond (.t 11) .skip (.reg [⟨some 13, none, .bin false .eql (.t 4) (.k (.c (.int .i64 7)))⟩, ⟨some 11, none, .mv (.t 13)⟩] none [1, 4, 11]))) (.cond (.t 11) (.seq (.reg [⟨some 14, none, .fa (.t 1) 8⟩, ⟨some 15, none, .load (.t 14) none⟩, ⟨some 16, none, .ia (.t 15) (.k (.c (.int .i64 0))) 9⟩, ⟨some 17, none, .load (.t 16) (some 9)⟩, ⟨some 18, none, .call 151 [(.t 17)]⟩, ⟨some 19, none, .mv (.t 18)⟩, ⟨some 20, some (19, true), .fa (.t 1) 8⟩, ⟨some 21, some (19, true), .load (.t 20) none⟩, ⟨some 22, some (19, true), .ia (.t 21) (.k (.c (.int .i64 1))) 9⟩, ⟨some 23, some (19, true), .load (.t 22) (some 9)⟩, ⟨some 24, some (19, true), .call 151 [(.t 23)]⟩, ⟨some 25, none, .pick (.t 19) (.t 24) (.k (.c (.bool false)))⟩, ⟨some 2, none, .mv (.t 25)⟩] none [2]) .ret) (.seq (.reg [⟨some 27, none, .bin false .eql (.t 4) (.k (.c (.int .i64 8)))⟩, ⟨some 26, none, .mv (.t 27)⟩] none [1, 26]) (.cond (.t 26) (.seq (.reg [⟨some 28, none, .fa (.t 1) 8⟩, ⟨some 29, none, .load (.t 28) none⟩, ⟨some 30, none, .ia (.t 29) (.k (.c (.int .i64 1))) 9⟩, ⟨some 31, none, .load (.t 30) (some 9)⟩, ⟨some 32, none, .call 151 [(.t 31)]⟩, ⟨some 33, none, .mv (.t 32)⟩, ⟨some 34, some (33, true), .fa (.t 1) 8⟩, ⟨some 35, some (33, true), .load (.t 34) none⟩, ⟨some 36, some (33, true), .ia (.t 35) (.k (.c (.int .i64 2))) 9⟩, ⟨some 37, some (33, true), .load (.t 36) (some 9)⟩, ⟨some 38, some (33, true), .call 151 [(.t 37)]⟩, ⟨some 39, none, .pick (.t 33) (.t 38) (.k (.c (.bool false)))⟩, ⟨some 2, none, .mv (.t 39)⟩] none [2]) .ret) .skip)))))))) (.seq (.reg [⟨some 2, none, .mv (.k (.c (.bool false)))⟩] none [2]) .ret)))
theorem chk_looks : chkX Go.Proofs.Tryd.prog 40 (Go.Proofs.Tryd.f151.body.getD .skip) x_looks = true := by kernel_rfl
theorem rs_looks : okRs Go.Proofs.Tryd.prog Go.Proofs.Tryd.f151.results.toList [.tmp 2] = true := by kernel_rfl
theorem call_looks : okCallee Go.Proofs.Tryd.prog 151 = true := by kernel_rfl
def x_okF : X := (.seq (.reg [⟨some 3, none, .box (.t 0) (some 9)⟩, ⟨some 6, none, .mv (.k (.c (.bool false)))⟩] none [1, 2, 3]) (.seq (.reg [⟨some 10, none, .mv (.t 2)⟩, ⟨some 11, none, .nilc (.t 10)⟩, ⟨some 12, none, .load (.t 11) none⟩, ⟨some 13, none, .bin false .sub (.t 12) (.k (.c (.int .i64 1)))⟩, ⟨some 14, none, .nilc (.t 10)⟩, ⟨none, none, .st (.t 14) (.t 13) none⟩] none [1, 2, 3]) (.seq (.seq (.reg [⟨some 15, none, .mv (.t 2)⟩, ⟨some 16, none, .nilc (.t 15)⟩, ⟨some 17, none, .load (.t 16) none⟩, ⟨some 18, none, .bin false .lss (.t 17) (.k (.c (.int .i64 0)))⟩, ⟨some 19, none, .mv (.t 18)⟩, ⟨some 20, some (19, false), .mv (.t 1)⟩, ⟨some 21, some (19, false), .bin false .gtr (.t 20) (.k (.c (.int .i64 7)))⟩, ⟨some 22, none, .pick (.t 19) (.k (.c (.bool true))) (.t 21)⟩, ⟨some 23, none, .mv (.t 22)⟩, ⟨some 24, some (23, false), .fa (.t 3) 0⟩, ⟨some 25, some (23, false), .load (.t 24) none⟩, ⟨some 26, some (23, false), .call 75 [(.t 25), (.k (.c (.int .i64 1))), (.k (.c (.int .i64 21)))]⟩, ⟨some 27, some (23, false), .not (.t 26)⟩, ⟨some 28, none, .pick (.t 23) (.k (.c (.bool true))) (.t 27)⟩, ⟨some 29, none, .mv (.t 28)⟩, ⟨some 30, some (29, false), .fa (.t 3) 8⟩, ⟨some 31, some (29, false), .load (.t 30) none⟩, ⟨some 32, some (29, false), .len (.t 31) false⟩, ⟨some 33, some (29, false), .glb 0⟩, ⟨some 34, some (29, false), .fa (.t 3) 0⟩, ⟨some 35, some (29, false), .load (.t 34) none⟩, ⟨some 36, some (29, false), .ia (.t 33) (.t 35) 1⟩, ⟨some 37, some (29, false), .load (.t 36) none⟩, ⟨some 38, some (29, false), .bin false .neq (.t 32) (.t 37)⟩, ⟨some 39, none, .pick (.t 29) (.k (.c (.bool true))) (.t 38)⟩] (some 23) [1, 2, 3, 39]) (.cond (.t 39) (.seq (.reg [⟨some 6, none, .mv (.k (.c (.bool false)))⟩] none [6]) .ret) .skip)) (.seq (.reg [⟨some 40, none, .fa (.t 3) 0⟩, ⟨some 41, none, .load (.t 40) none⟩, ⟨some 42, none, .bin false .eql (.t 41) (.k (.c (.int .i64 3)))⟩, ⟨some 43, none, .mv (.t 42)⟩, ⟨some 44, some (43, false), .fa (.t 3) 0⟩, ⟨some 45, some (43, false), .load (.t 44) none⟩, ⟨some 46, some (43, false), .bin false .eql (.t 45) (.k (.c (.int .i64 21)))⟩, ⟨some 47, none, .pick (.t 43) (.k (.c (.bool true))) (.t 46)⟩, ⟨some 7, none, .mv (.t 47)⟩] none [1, 2, 3, 7]) (.seq (.seq (.reg [⟨some 48, none, .fa (.t 3) 0⟩, ⟨some 49, none, .load (.t 48) none⟩, ⟨some 50, none, .bin false .neq (.t 49) (.k (.c (.int .i64 4)))⟩, ⟨some 51, none, .mv (.t 50)⟩, ⟨some 52, some (51, true), .fa (.t 3) 1⟩, ⟨some 53, some (51, true), .load (.t 52) none⟩, ⟨some 54, some (51, true), .bin false .neq (.t 53) (.k (.c (.int .i64 0)))⟩, ⟨some 55, none, .pick (.t 51) (.t 54) (.k (.c (.bool false)))⟩, ⟨some 56, none, .mv (.t 55)⟩, ⟨some 57, some (56, false), .mv (.t 7)⟩, ⟨some 58, some (56, false), .not (.t 57)⟩, ⟨some 59, some (56, false), .mv (.t 58)⟩, ⟨some 60, some (59, true), .fa (.t 3) 2⟩, ⟨some 61, some (59, true), .load (.t 60) none⟩, ⟨some 62, some (59, true), .bin false .neq (.t 61) (.k (.c (.str ⟨#[]⟩)))⟩, ⟨some 63, some (56, false), .pick (.t 59) (.t 62) (.k (.c (.bool false)))⟩, ⟨some 64, none, .pick (.t 56) (.k (.c (.bool true))) (.t 63)⟩, ⟨some 65, none, .mv (.t 64)⟩, ⟨some 66, some (65, false), .fa (.t 3) 0⟩, ⟨some 67, some (65, false), .load (.t 66) none⟩, ⟨some 68, some (65, false), .bin false .neq (.t 67) (.k (.c (.int .i64 2)))⟩, ⟨some 69, some (65, false), .mv (.t 68)⟩, ⟨some 70, some (69, true), .fa (.t 3) 3⟩, ⟨some 71, some (69, true), .load (.t 70) (some 5)⟩, ⟨some 72, some (69, true), .call 150 [(.t 71)]⟩, ⟨some 73, some (69, true), .not (.t 72)⟩, ⟨some 74, some (65, false), .pick (.t 69) (.t 73) (.k (.c (.bool false)))⟩, ⟨some 75, none, .pick (.t 65) (.k (.c (.bool true))) (.t 74)⟩] none [1, 2, 3, 75]) (.cond (.t 75) (.seq (.reg [⟨some 6, none, .mv (.k (.c (.bool false)))⟩] none [6]) .ret) .skip)) (.seq (.seq (.reg [⟨some 76, none, .fa (.t 3) 1⟩, ⟨some 77, none, .load (.t 76) none⟩, ⟨some 78, none, .call 75 [(.t 77), (.k (.c (.int .i64 (-60)))), (.k (.c (.int .i64 59)))]⟩, ⟨some 79, none, .not (.t 78)⟩, ⟨some 80, none, .mv (.t 79)⟩, ⟨some 81, some (80, false), .fa (.t 3) 2⟩, ⟨some 82, some (80, false), .load (.t 81) none⟩, ⟨some 83, some (80, false), .call 136 [(.t 82)]⟩, ⟨some 84, some (80, false), .not (.t 83)⟩, ⟨some 85, none, .pick (.t 80) (.k (.c (.bool true))) (.t 84)⟩, ⟨some 86, none, .mv (.t 85)⟩, ⟨some 87, some (86, false), .fa (.t 3) 3⟩, ⟨some 88, some (86, false), .load (.t 87) (some 5)⟩, ⟨some 89, some (86, false), .call 61 [(.t 88)]⟩, ⟨some 90, some (86, false), .not (.t 89)⟩, ⟨some 91, none, .pick (.t 86) (.k (.c (.bool true))) (.t 90)⟩] none [1, 2, 3, 91]) (.cond (.t 91) (.seq (.reg [⟨some 6, none, .mv (.k (.c (.bool false)))⟩] none [6]) .ret) .skip)) (.seq (.seq (.reg [⟨some 92, none, .fa (.t 3) 8⟩, ⟨some 93, none, .load (.t 92) none⟩, ⟨some 94, none, .len (.t 93) false⟩, ⟨some 95, none, .mv (.k (.c (.int .i64 0)))⟩] none [1, 2, 3, 93, 94, 95]) (.block 0 (.loop (.seq (.reg [⟨some 96, none, .bin false .lss (.t 95) (.t 94)⟩] none [1, 2, 3, 93, 94, 95, 96]) (.seq (.cond (.t 96) .skip (.exit 0)) (.seq (.block 1 (.seq (.reg [⟨some 97, none, .ia (.t 93) (.t 95) 9⟩, ⟨some 98, none, .load (.t 97) (some 9)⟩, ⟨some 9, none, .alloc [(.c (.int .i64 0)), (.c (.int .i64 0)), (.c (.str ⟨#[]⟩)), (.c (.int .i64 0)), (.c (.int .i64 0)), (.c (.str ⟨#[]⟩)), (.z 1), (.z 5), (.z 9)]⟩, ⟨none, none, .st (.t 9) (.t 98) (some 9)⟩] none [1, 2, 3, 9, 93, 94, 95]) (.seq (.reg [⟨some 99, none, .load (.t 9) (some 9)⟩, ⟨some 100, none, .mv (.t 1)⟩, ⟨some 101, none, .bin false .add (.t 100) (.k (.c (.int .i64 1)))⟩, ⟨some 102, none, .mv (.t 2)⟩, ⟨some 103, none, .call 97 [(.t 99), (.t 101), (.t 102)]⟩, ⟨some 104, none, .not (.t 103)⟩] none [1, 2, 3, 93, 94, 95, 104]) (.cond (.t 104) (.seq (.reg [⟨some 6, none, .mv (.k (.c (.bool false)))⟩] none [6]) .ret) .skip)))) (.reg [⟨some 105, none, .bin false .add (.t 95) (.k (.c (.int .i64 1)))⟩, ⟨some 95, none, .mv (.t 105)⟩] none [1, 2, 3, 93, 94, 95]))))))) (.seq (.reg [⟨some 106, none, .fa (.t 3) 0⟩, ⟨some 107, none, .load (.t 106) none⟩, ⟨some 108, none, .bin false .neq (.t 107) (.k (.c (.int .i64 20)))⟩, ⟨some 109, none, .mv (.t 108)⟩, ⟨some 110, some (109, false), .fa (.t 3) 8⟩, ⟨some 111, some (109, false), .load (.t 110) none⟩, ⟨some 112, some (109, false), .ia (.t 111) (.k (.c (.int .i64 0))) 9⟩, ⟨some 113, some (109, false), .load (.t 112) (some 9)⟩, ⟨some 114, some (109, false), .call 151 [(.t 113)]⟩, ⟨some 115, none, .pick (.t 109) (.k (.c (.bool true))) (.t 114)⟩, ⟨some 6, none, .mv (.t 115)⟩] none [6]) .ret))))))))
theorem chk_okF : chkX Go.Proofs.Tryd.prog 116 (Go.Proofs.Tryd.f97.body.getD .skip) x_okF = true := by kernel_rfl
theorem rs_okF : okRs Go.Proofs.Tryd.prog Go.Proofs.Tryd.f97.results.toList [.tmp 6] = true := by kernel_rfl
theorem call_okF : okCallee Go.Proofs.Tryd.prog 97 = true := by kernel_rfl
def x_FiltOkI : X := (.seq (.reg [⟨some 1, none, .box (.t 0) (some 9)⟩, ⟨some 2, none, .mv (.k (.c (.bool false)))⟩] none [1]) (.seq (.reg [⟨some 3, none, .alloc [(.c (.int .i64 0))]⟩, ⟨none, none, .st (.t 3) (.k (.c (.int .i64 16))) none⟩] none [1, 3]) (.seq (.reg [⟨some 4, none, .load (.t 1) (some 9)⟩, ⟨some 5, none, .call 97 [(.t 4), (.k (.c (.int .i64 1))), (.t 3)]⟩, ⟨some 2, none, .mv (.t 5)⟩] none [2]) .ret)))
theorem chk_FiltOkI : chkX Go.Proofs.Tryd.prog 6 (Go.Proofs.Tryd.f32.body.getD .skip) x_FiltOkI = true := by kernel_rfl
theorem rs_FiltOkI : okRs Go.Proofs.Tryd.prog Go.Proofs.Tryd.f32.results.toList [.tmp 2] = true := by kernel_rfl
theorem call_FiltOkI : okCallee Go.Proofs.Tryd.prog 32 = true := by kernel_rfl
noncomputable def spLook (k:Nat) : Spec := Spec.of (ι := F) [false] (fun i => [.d (.agg i.enc)]) (fun i => (i.fit 140737488355328 ∧ kindedF i) ∧ SizeOf.sizeOf i < k) (fun i => [.d (.one (.bool (decide (wayF i))))]) (fun _ => [.gone])
theorem spLook_inj : ∀ i j : F, (fun (i : F) => ([.d (.agg i.enc)] : List AV)) i = (fun (i : F) => ([.d (.agg i.enc)] : List AV)) j → i = j := by
  intro t t' h
  simpa [strs_eq, T.enc_eq, encL_eq, F.enc_eq, encF_eq, Tk.enc_eq, encTk_eq, Gn.enc_eq] using h
theorem spLook_md (k:Nat) : (spLook k).md = [false] := rfl
theorem spLook_pre (k:Nat) (t : F) : (spLook k).pre [.d (.agg t.enc)] = ((t.fit 140737488355328 ∧ kindedF t) ∧ SizeOf.sizeOf t < k) := Spec.of_pre' spLook_inj t
theorem spLook_alts (k:Nat) : (spLook k).alts = none := rfl
theorem spLook_res (k:Nat) (t : F) : (spLook k).res [.d (.agg t.enc)] = [.d (.one (.bool (decide (wayF t))))] := Spec.of_res spLook_inj t
theorem spLook_out (k:Nat) (t : F) : (spLook k).out [.d (.agg t.enc)] = [.gone] := Spec.of_out spLook_inj t
theorem looks_sound (k : Nat) (hS : Sound Go.Proofs.Tryd.prog 151 (spLook k)) : Sound Go.Proofs.Tryd.prog 151 (spLook (k + 1)) := by
  refine sound_fam (GOK.cons call_looks hS GOK.nil) Go.Proofs.Tryd.func151 (c := Go.Proofs.Tryd.f151.body.getD .skip) rfl (n := 40) rfl chk_looks rs_looks (fun _ => by simp) ?_ ?_
  · exact spLook_inj
  · rintro t ⟨⟨h1, h2⟩, h4⟩
    obtain ⟨kk, n, s, v, l⟩ := t
    obtain ⟨vk, vn, vs, vks, vl⟩ := v
    simp only [F.fit, kindedF] at h1 h2
    obtain ⟨_, _, f1, f2, f3, f4⟩ := h1
    obtain ⟨g1, g2⟩ := h2
    generalize hv : T.mk vk vn vs vks vl = v at *
    have e3 : SizeOf.sizeOf l < k := by have e : SizeOf.sizeOf (F.mk kk n s v l) < k + 1 := h4
                                        rw [F.mk.sizeOf_spec] at e; omega
    clear h4
    have e6 : v.enc = [.int .i64 vk, .int .i64 vn, .str vs, .row 1 (strs vks), .row 5 (encL vl)] := by rw [← hv]; rfl
    have hF : wayF (F.mk kk n s v l) ↔ ((kk = 1 ∨ kk = 3 ∨ kk = 4 ∨ kk = 5 ∨ kk = 18) ∨ ((kk = 6 ∨ kk = 7) ∧ wayL l 0 ∧ wayL l 1) ∨ (kk = 8 ∧ wayL l 1 ∧ wayL l 2)) := by simp only [wayF]
    have hk2 : kk = 6 ∨ kk = 7 → l.length = 2 := fun h => by
      have : kidsOf kk = 2 := by rcases h with rfl | rfl <;> decide
      omega
    have hk3 : kk = 8 → l.length = 3 := fun h => by
      have : kidsOf kk = 3 := by subst h; decide
      omega
    by_cases hz : 2 ≤ l.length
    · obtain ⟨x0, i0, _, m0⟩ := drop_at (l := l) (i := 0) (by omega)
      obtain ⟨x1, i1, _, m1⟩ := drop_at (l := l) (i := 1) (by omega)
      have a0 := encF_at i0
      have a1 := encF_at i1
      have w0 := wayL_at i0
      have w1 := wayL_at i1
      have l0 := F.enc_len x0
      have l1 := F.enc_len x1
      have s0 := size_mem m0
      have s1 := size_mem m1
      have t0 := fitF_mem f4 x0 m0
      have t1 := fitF_mem f4 x1 m1
      have u0 := kindedL_mem.1 g2 x0 m0
      have u1 := kindedL_mem.1 g2 x1 m1
      have z0 : (0 : Int).toNat = 0 := rfl
      have z1 : (1 : Int).toNat = 1 := rfl
      have z2 : (2 : Int).toNat = 2 := rfl
      by_cases h3 : 3 ≤ l.length
      · obtain ⟨x2, i2, _, m2⟩ := drop_at (l := l) (i := 2) (by omega)
        have a2 := encF_at i2
        have w2 := wayL_at i2
        have l2 := F.enc_len x2
        have s2 := size_mem m2
        have t2 := fitF_mem f4 x2 m2
        have u2 := kindedL_mem.1 g2 x2 m2
        rw [w0, w1, w2] at hF
        simp only [x_looks, F.enc, e6, initX, DV.toP, C.toQ, Q.pubB, Option.bind_some, List.map_cons, List.map_nil, pw_seq, pw_reg, pw_cond, condQ_t, condQ_f, condQ_d, not_dec, pw_ret, pw_skip, pw_exit, pw_block, thenQ_n, thenQ_r, thenQ_e, blkQ_n, blkQ_r, blkQ_e, loopQ_n, loopQ_r, loopQ_e, runX, stepR, callR, orF, Spec.at, stepX, stepM, evalK, callX, callE, Gam, get?, argsX, argsE, pubIds, St.pubs, mutIds, nodupIds, outE, retE, retP, allD, DV.toS, St.v, get, PV.un, PV.row, Option.map, St.put, upd, del, binC, rg, St.keep, List.map, Option.getD, effK, bne_self_eq_false, if_true, Bool.true_and, Nat.reduceEqDiff, if_false, reduceIte, reduceCtorEq, Nat.reduceAdd, true_and, endQ, finX, resD, resV, resOwns, refOwns, outX, PV.owns, ownsQ, List.append_nil, List.nil_append, List.foldl, PV.toD, Q.toC, allC, and_true, implies_true, true_implies, false_implies, AV.d.injEq, AV.ref.injEq, Option.some.injEq, DV.one.injEq, DV.agg.injEq, C.int.injEq, C.bool.injEq, C.str.injEq, C.row.injEq, List.cons.injEq, loadC, loadQ, cellsOf, List.length_cons, List.length_nil, List.getD_cons_zero, List.getD_cons_succ, List.drop, List.take, decide_true, decide_false, Int.toNat_natCast, Bool.false_and, Bool.and_true, Bool.and_false, St.map, PV.map, SV.map, St.pub, Q.pub, del, Q.killB, Q.killO, buildX, bslX, place, placeC, asInt?, loX, Nat.reduceLeDiff, Nat.reduceLT, List.append, List.cons_append, Option.bind, Bool.not_true, Bool.not_false, Nat.reduceSub, Nat.reduceBNe, Nat.add_zero, List.getD_nil, strs_len, encL_len, encF_len, encTk_len, allC_map, owns_map, C.def, killB_map, killO_map, pub_map, T.enc_take, F.enc_take, T.enc_take5, F.enc_take9, Tk.enc_take6, Nat.le_refl, List.length_map, List.drop_zero, List.flatMap_cons, List.flatMap_nil, List.any_nil, List.any_cons, Nat.reduceBEq, beq_self_eq_true, Bool.or_false, pick_or, pick_and, pick_t, pick_f, dec_and, bq_t, bq_f, decide_eq_true_eq, decide_eq_false_iff_not, imp_self, not_true_eq_false, not_false_eq_true, rg, z0, z1, z2, a0, a1, a2, l0, l1, l2, spLook_md, spLook_pre, spLook_alts, spLook_res, spLook_out]
        repeat' (first | with_reducible assumption | with_reducible refine And.intro ?_ ?_ | intro _)
        all_goals first | omega | (grind; done) | skip
      · have h8 : (kk = 8) = False := by simp; intro h; have := hk3 h; omega
        rw [w0, w1] at hF
        simp only [x_looks, F.enc, e6, initX, DV.toP, C.toQ, Q.pubB, Option.bind_some, List.map_cons, List.map_nil, pw_seq, pw_reg, pw_cond, condQ_t, condQ_f, condQ_d, not_dec, pw_ret, pw_skip, pw_exit, pw_block, thenQ_n, thenQ_r, thenQ_e, blkQ_n, blkQ_r, blkQ_e, loopQ_n, loopQ_r, loopQ_e, runX, stepR, callR, orF, Spec.at, stepX, stepM, evalK, callX, callE, Gam, get?, argsX, argsE, pubIds, St.pubs, mutIds, nodupIds, outE, retE, retP, allD, DV.toS, St.v, get, PV.un, PV.row, Option.map, St.put, upd, del, binC, rg, St.keep, List.map, Option.getD, effK, bne_self_eq_false, if_true, Bool.true_and, Nat.reduceEqDiff, if_false, reduceIte, reduceCtorEq, Nat.reduceAdd, true_and, endQ, finX, resD, resV, resOwns, refOwns, outX, PV.owns, ownsQ, List.append_nil, List.nil_append, List.foldl, PV.toD, Q.toC, allC, and_true, implies_true, true_implies, false_implies, AV.d.injEq, AV.ref.injEq, Option.some.injEq, DV.one.injEq, DV.agg.injEq, C.int.injEq, C.bool.injEq, C.str.injEq, C.row.injEq, List.cons.injEq, loadC, loadQ, cellsOf, List.length_cons, List.length_nil, List.getD_cons_zero, List.getD_cons_succ, List.drop, List.take, decide_true, decide_false, Int.toNat_natCast, Bool.false_and, Bool.and_true, Bool.and_false, St.map, PV.map, SV.map, St.pub, Q.pub, del, Q.killB, Q.killO, buildX, bslX, place, placeC, asInt?, loX, Nat.reduceLeDiff, Nat.reduceLT, List.append, List.cons_append, Option.bind, Bool.not_true, Bool.not_false, Nat.reduceSub, Nat.reduceBNe, Nat.add_zero, List.getD_nil, strs_len, encL_len, encF_len, encTk_len, allC_map, owns_map, C.def, killB_map, killO_map, pub_map, T.enc_take, F.enc_take, T.enc_take5, F.enc_take9, Tk.enc_take6, Nat.le_refl, List.length_map, List.drop_zero, List.flatMap_cons, List.flatMap_nil, List.any_nil, List.any_cons, Nat.reduceBEq, beq_self_eq_true, Bool.or_false, pick_or, pick_and, pick_t, pick_f, dec_and, bq_t, bq_f, decide_eq_true_eq, decide_eq_false_iff_not, imp_self, not_true_eq_false, not_false_eq_true, rg, z0, z1, z2, a0, a1, l0, l1, h8, spLook_md, spLook_pre, spLook_alts, spLook_res, spLook_out]
        repeat' (first | with_reducible assumption | with_reducible refine And.intro ?_ ?_ | intro _)
        all_goals first | omega | (grind; done) | skip
    · have h6 : (kk = 6) = False := by simp; intro h; have := hk2 (.inl h); omega
      have h7 : (kk = 7) = False := by simp; intro h; have := hk2 (.inr h); omega
      have h8 : (kk = 8) = False := by simp; intro h; have := hk3 h; omega
      simp only [x_looks, F.enc, e6, initX, DV.toP, C.toQ, Q.pubB, Option.bind_some, List.map_cons, List.map_nil, pw_seq, pw_reg, pw_cond, condQ_t, condQ_f, condQ_d, not_dec, pw_ret, pw_skip, pw_exit, pw_block, thenQ_n, thenQ_r, thenQ_e, blkQ_n, blkQ_r, blkQ_e, loopQ_n, loopQ_r, loopQ_e, runX, stepR, callR, orF, Spec.at, stepX, stepM, evalK, callX, callE, Gam, get?, argsX, argsE, pubIds, St.pubs, mutIds, nodupIds, outE, retE, retP, allD, DV.toS, St.v, get, PV.un, PV.row, Option.map, St.put, upd, del, binC, rg, St.keep, List.map, Option.getD, effK, bne_self_eq_false, if_true, Bool.true_and, Nat.reduceEqDiff, if_false, reduceIte, reduceCtorEq, Nat.reduceAdd, true_and, endQ, finX, resD, resV, resOwns, refOwns, outX, PV.owns, ownsQ, List.append_nil, List.nil_append, List.foldl, PV.toD, Q.toC, allC, and_true, implies_true, true_implies, false_implies, AV.d.injEq, AV.ref.injEq, Option.some.injEq, DV.one.injEq, DV.agg.injEq, C.int.injEq, C.bool.injEq, C.str.injEq, C.row.injEq, List.cons.injEq, loadC, loadQ, cellsOf, List.length_cons, List.length_nil, List.getD_cons_zero, List.getD_cons_succ, List.drop, List.take, decide_true, decide_false, Int.toNat_natCast, Bool.false_and, Bool.and_true, Bool.and_false, St.map, PV.map, SV.map, St.pub, Q.pub, del, Q.killB, Q.killO, buildX, bslX, place, placeC, asInt?, loX, Nat.reduceLeDiff, Nat.reduceLT, List.append, List.cons_append, Option.bind, Bool.not_true, Bool.not_false, Nat.reduceSub, Nat.reduceBNe, Nat.add_zero, List.getD_nil, strs_len, encL_len, encF_len, encTk_len, allC_map, owns_map, C.def, killB_map, killO_map, pub_map, T.enc_take, F.enc_take, T.enc_take5, F.enc_take9, Tk.enc_take6, Nat.le_refl, List.length_map, List.drop_zero, List.flatMap_cons, List.flatMap_nil, List.any_nil, List.any_cons, Nat.reduceBEq, beq_self_eq_true, Bool.or_false, pick_or, pick_and, pick_t, pick_f, dec_and, bq_t, bq_f, decide_eq_true_eq, decide_eq_false_iff_not, imp_self, not_true_eq_false, not_false_eq_true, rg, h6, h7, h8]
      repeat' (first | with_reducible assumption | with_reducible refine And.intro ?_ ?_ | intro _)
      all_goals first | omega | (grind; done) | skip
theorem look_all : ∀ k, Sound Go.Proofs.Tryd.prog 151 (spLook k) := fun k => Nat.rec Sound.none (fun k ih => looks_sound k ih) k
/-- As it is asked where there may be none. -/
noncomputable def spLookD : Spec := Spec.of (ι := Option F) [false] (fun i => match i with | some t => [.d (.agg t.enc)] | none => [.d (.agg [])]) (fun i => match i with | some t => t.fit 140737488355328 ∧ kindedF t | none => False) (fun i => match i with | some t => [.d (.one (.bool (decide (wayF t))))] | none => [.d (.one (.bool (decide False)))]) (fun _ => [.gone])
theorem spLookD_inj : ∀ i j : Option F, (fun i : Option F => (match i with | some t => [.d (.agg t.enc)] | none => [.d (.agg [])] : List AV)) i = (fun i : Option F => (match i with | some t => [.d (.agg t.enc)] | none => [.d (.agg [])] : List AV)) j → i = j := by
  intro i j h
  cases i with
  | none =>
    cases j with
    | none => rfl
    | some t => have := congrArg List.length (show [] = t.enc by simpa using h); rw [F.enc_len] at this; simp at this
  | some t =>
    cases j with
    | none => have := congrArg List.length (show t.enc = [] by simpa using h); rw [F.enc_len] at this; simp at this
    | some t' => simpa [F.enc_eq] using h
theorem spLookD_md : spLookD.md = [false] := rfl
theorem spLookD_alts : spLookD.alts = none := rfl
theorem spLookD_pre (t : F) : spLookD.pre [.d (.agg t.enc)] = (t.fit 140737488355328 ∧ kindedF t) := Spec.of_pre' spLookD_inj (some t)
theorem spLookD_res (t : F) : spLookD.res [.d (.agg t.enc)] = [.d (.one (.bool (decide (wayF t))))] := Spec.of_res spLookD_inj (some t)
theorem spLookD_out (t : F) : spLookD.out [.d (.agg t.enc)] = [.gone] := Spec.of_out spLookD_inj (some t)
theorem spLookD_pre0 : spLookD.pre [.d (.agg [])] = False := Spec.of_pre' spLookD_inj none
theorem spLookD_res0 : spLookD.res [.d (.agg [])] = [.d (.one (.bool (decide False)))] := Spec.of_res spLookD_inj none
theorem spLookD_out0 : spLookD.out [.d (.agg [])] = [.gone] := Spec.of_out spLookD_inj none
theorem lookD_sound : Sound Go.Proofs.Tryd.prog 151 spLookD := by
  rintro ds ⟨i, rfl, hi⟩ w S vs fps hG hS hF ha hA
  cases i with
  | none => exact hi.elim
  | some t =>
    have hp : (spLook (SizeOf.sizeOf t + 1)).pre [.d (.agg t.enc)] := by
      rw [spLook_pre]; exact ⟨hi, Nat.lt_succ_self _⟩
    refine (look_all (SizeOf.sizeOf t + 1) [.d (.agg t.enc)] hp w S vs fps hG hS hF ha hA).mono ?_
    rintro e w' ⟨r, o, hro, rest⟩
    obtain ⟨rfl, rfl⟩ := (Spec.may_none rfl).1 hro
    rw [spLook_res, spLook_out] at rest
    exact ⟨_, _, (Spec.may_none rfl).2 ⟨(spLookD_res t).symm, (spLookD_out t).symm⟩, rest⟩
noncomputable def spOkFI (k:Nat) : Spec := Spec.of (ι := F × Int × Int) [false, false, true] (fun i => [.d (.agg i.1.enc), .d (.one (.int .i64 i.2.1)), .ref [.int .i64 i.2.2]]) (fun i => (i.1.fit 140737488355328 ∧ 0 ≤ i.2.1 ∧ i.2.1 ≤ 8 ∧ 0 ≤ i.2.2 ∧ i.2.2 ≤ 1000) ∧ SizeOf.sizeOf i.1 < k) (fun i => [.d (.one (.bool (decide ((okFI i.1 i.2.1 i.2.2).1 = true))))]) (fun i => [.gone, .gone, .ref [.int .i64 (okFI i.1 i.2.1 i.2.2).2]])
theorem spOkFI_inj : ∀ i j : F × Int × Int, (fun (i : F × Int × Int) => ([.d (.agg i.1.enc), .d (.one (.int .i64 i.2.1)), .ref [.int .i64 i.2.2]] : List AV)) i = (fun (i : F × Int × Int) => ([.d (.agg i.1.enc), .d (.one (.int .i64 i.2.1)), .ref [.int .i64 i.2.2]] : List AV)) j → i = j := by
  rintro ⟨t, d, left⟩ ⟨t', d', left'⟩ h
  simp only [Prod.mk.injEq]
  simpa [strs_eq, T.enc_eq, encL_eq, F.enc_eq, encF_eq, Tk.enc_eq, encTk_eq, Gn.enc_eq] using h
theorem spOkFI_md (k:Nat) : (spOkFI k).md = [false, false, true] := rfl
theorem spOkFI_pre (k:Nat) (t : F) (d : Int) (left : Int) : (spOkFI k).pre [.d (.agg t.enc), .d (.one (.int .i64 d)), .ref [.int .i64 left]] = ((t.fit 140737488355328 ∧ 0 ≤ d ∧ d ≤ 8 ∧ 0 ≤ left ∧ left ≤ 1000) ∧ SizeOf.sizeOf t < k) := Spec.of_pre' spOkFI_inj (t, d, left)
theorem spOkFI_alts (k:Nat) : (spOkFI k).alts = none := rfl
theorem spOkFI_res (k:Nat) (t : F) (d : Int) (left : Int) : (spOkFI k).res [.d (.agg t.enc), .d (.one (.int .i64 d)), .ref [.int .i64 left]] = [.d (.one (.bool (decide ((okFI t d left).1 = true))))] := Spec.of_res spOkFI_inj (t, d, left)
theorem spOkFI_out (k:Nat) (t : F) (d : Int) (left : Int) : (spOkFI k).out [.d (.agg t.enc), .d (.one (.int .i64 d)), .ref [.int .i64 left]] = [.gone, .gone, .ref [.int .i64 (okFI t d left).2]] := Spec.of_out spOkFI_inj (t, d, left)
set_option maxHeartbeats 2000000 in
theorem okFI_sound (hG : get? 0 Globs.G = some ktabC) (k : Nat) (hS : Sound Go.Proofs.Tryd.prog 97 (spOkFI k)) : Sound Go.Proofs.Tryd.prog 97 (spOkFI (k + 1)) := by
  refine sound_fam (GOK.cons (l := [(136, spTextOk), (61, spValOkI), (150, spNone), (151, spLookD), (97, spOkFI k)]) call_within within_sound (GOK.cons call_textOk textOk_sound (GOK.cons call_ValOkI valOkI_sound (GOK.cons call_noneI none_sound (GOK.cons call_looks lookD_sound (GOK.cons call_okF hS GOK.nil)))))) Go.Proofs.Tryd.func97 (c := Go.Proofs.Tryd.f97.body.getD .skip) rfl (n := 116) rfl chk_okF rs_okF (fun _ => by simp) ?_ ?_
  · exact spOkFI_inj
  · rintro ⟨t, d, left⟩ ⟨⟨h1, h2, h3, h3', h3''⟩, h4⟩
    obtain ⟨kk, n, s, v, l⟩ := t
    obtain ⟨vk, vn, vs, vks, vl⟩ := v
    simp only [F.fit] at h1
    obtain ⟨_, _, f1, f2, f3, f4⟩ := h1
    simp only at h2 h3 h3' h3''
    generalize hv : T.mk vk vn vs vks vl = v at *
    have e3 : SizeOf.sizeOf l < k := by have e : SizeOf.sizeOf (F.mk kk n s v l) < k + 1 := h4
                                        rw [F.mk.sizeOf_spec] at e; omega
    clear h4
    have e6 : v.enc = [.int .i64 vk, .int .i64 vn, .str vs, .row 1 (strs vks), .row 5 (encL vl)] := by rw [← hv]; rfl
    have hH : headF kk n s v l ↔ (1 ≤ kk ∧ kk ≤ 21 ∧ kidsOf kk = l.length ∧ ((kk = 4 ∨ n = 0) ∧ ((kk = 3 ∨ kk = 21) ∨ s = ⟨#[]⟩) ∧ (kk = 2 ∨ v = T.zero)) ∧ -60 ≤ n ∧ n ≤ 59 ∧ okS s ∧ (okI v 1 60).1 = true) := Iff.rfl
    have hneg : ¬ (1 ≤ left ∧ d ≤ 7 ∧ headF kk n s v l) → (okFI (F.mk kk n s v l) d left).1 = false ∧ left - 1 = (okFI (F.mk kk n s v l) d left).2 := fun h => by simp only [okFI]; rw [if_neg h]; exact ⟨rfl, rfl⟩
    have hpos : (1 ≤ left ∧ d ≤ 7 ∧ headF kk n s v l) → okFI (F.mk kk n s v l) d left = (if (okFIL l (d + 1) (left - 1)).1 = true then (decide (kk = 20 → wayL l 0), (okFIL l (d + 1) (left - 1)).2) else (false, (okFIL l (d + 1) (left - 1)).2)) := fun h => by simp only [okFI]; rw [if_pos h]
    generalize hres : okFI (F.mk kk n s v l) d left = R at *
    clear hres
    have p1 := spNone_pre v
    have p2 := spNone_res v
    have p3 := spNone_out v
    have q1 := spValOkI_pre v
    have q2 := spValOkI_res v
    have q3 := spValOkI_out v
    rw [e6] at p1 p2 p3 q1 q2 q3
    obtain ⟨m, hm, hmk⟩ : ∃ m, ((ktab.map fun m => [C.int .i64 m]).getD kk.toNat []).getD 0 (.int .i64 0) = C.int .i64 m ∧ (1 ≤ kk ∧ kk ≤ 21 → m = kidsOf kk ∧ 0 < ((ktab.map fun m => [C.int .i64 m]).getD kk.toNat []).length ∧ kk.toNat < 22) := by
      by_cases h : kk.toNat < 22
      · rw [ktab_at h]
        refine ⟨_, rfl, fun h' => ⟨?_, by simp, h⟩⟩
        have := ktab_kids ⟨kk.toNat, h⟩ (by simp only; omega)
        simp only at this
        rw [this]; congr 1; omega
      · rw [ktab_out h]
        exact ⟨0, rfl, fun h' => by omega⟩
    have hm' := hm
    have hlen := ktab_len
    simp only [x_okF, F.enc, e6, initX, DV.toP, C.toQ, Q.pubB, Option.bind_some, List.map_cons, List.map_nil, pw_seq, pw_reg, pw_cond, condQ_t, condQ_f, condQ_d, not_dec, pw_ret, pw_skip, pw_exit, pw_block, thenQ_n, thenQ_r, thenQ_e, blkQ_n, blkQ_r, blkQ_e, loopQ_n, loopQ_r, loopQ_e, runX, stepR, callR, orF, Spec.at, stepX, stepM, evalK, callX, callE, Gam, get?, argsX, argsE, pubIds, St.pubs, mutIds, nodupIds, outE, retE, retP, allD, DV.toS, St.v, get, PV.un, PV.row, Option.map, St.put, upd, del, binC, rg, St.keep, List.map, Option.getD, effK, bne_self_eq_false, if_true, Bool.true_and, Nat.reduceEqDiff, if_false, reduceIte, reduceCtorEq, Nat.reduceAdd, true_and, endQ, finX, resD, resV, resOwns, refOwns, outX, PV.owns, ownsQ, List.append_nil, List.nil_append, List.foldl, PV.toD, Q.toC, allC, and_true, implies_true, true_implies, false_implies, AV.d.injEq, AV.ref.injEq, Option.some.injEq, DV.one.injEq, DV.agg.injEq, C.int.injEq, C.bool.injEq, C.str.injEq, C.row.injEq, List.cons.injEq, loadC, loadQ, cellsOf, List.length_cons, List.length_nil, List.getD_cons_zero, List.getD_cons_succ, List.drop, List.take, decide_true, decide_false, Int.toNat_natCast, Bool.false_and, Bool.and_true, Bool.and_false, St.map, PV.map, SV.map, St.pub, Q.pub, del, Q.killB, Q.killO, buildX, bslX, place, placeC, asInt?, loX, Nat.reduceLeDiff, Nat.reduceLT, List.append, List.cons_append, Option.bind, Bool.not_true, Bool.not_false, Nat.reduceSub, Nat.reduceBNe, Nat.add_zero, List.getD_nil, strs_len, encL_len, encF_len, encTk_len, allC_map, owns_map, C.def, killB_map, killO_map, pub_map, T.enc_take, F.enc_take, T.enc_take5, F.enc_take9, Tk.enc_take6, Nat.le_refl, List.length_map, List.drop_zero, List.flatMap_cons, List.flatMap_nil, List.any_nil, List.any_cons, Nat.reduceBEq, beq_self_eq_true, Bool.or_false, pick_or, pick_and, pick_t, pick_f, dec_and, bq_t, bq_f, decide_eq_true_eq, decide_eq_false_iff_not, imp_self, not_true_eq_false, not_false_eq_true, rg, hG, ktabC, hm', hlen, spWithin_md, spWithin_pre, spWithin_alts, spWithin_res, spWithin_out, spTextOk_md, spTextOk_pre, spTextOk_alts, spTextOk_res, spTextOk_out, spNone_md, spNone_alts, p1, p2, p3, spValOkI_md, spValOkI_alts, q1, q2, q3]
    repeat' (first | with_reducible assumption | with_reducible refine And.intro ?_ ?_ | intro _)
    all_goals first | omega | (grind; done) | skip
    have hh : 1 ≤ left ∧ d ≤ 7 ∧ headF kk n s v l := by grind
    have hpos' := hpos hh
    have hk : kk = 20 → l.length = 2 := fun h => by
      have e : kidsOf kk = 2 := by subst h; decide
      have := hh.2.2.2.2.1
      omega
    have hd : 1 ≤ left ∧ d ≤ 7 := ⟨hh.1, hh.2.1⟩
    clear hH hneg hpos p1 p2 p3 q1 q2 q3 hm hm' hmk hlen hh
    repeat (rename_i hx; clear hx)
    refine pw_loop (ι := Nat × Int) (fun i => l.length - i.1) (fun i => i.1 ≤ l.length ∧ 0 ≤ i.2 ∧ i.2 ≤ left - 1 ∧ okFIL l (d + 1) (left - 1) = okFIL (l.drop i.1) (d + 1) i.2 ∧ kindedL (l.take i.1))
      (fun i => ⟨[(1, .q (.c (.int .i64 d))), (2, .q (.box 118 0)), (3, .q (.box 3 0)), (93, .q (.c (.row 9 (encF l)))), (94, .q (.c (.int .i64 l.length))), (95, .q (.c (.int .i64 i.1)))], [(118, [.c (.int .i64 i.2)]), (3, [.c (.int .i64 kk), .c (.int .i64 n), .c (.str s), .c (.int .i64 vk), .c (.int .i64 vn), .c (.str vs), .c (.row 1 (strs vks)), .c (.row 5 (encL vl)), .c (.row 9 (encF l))])], []⟩) (0, left - 1) ⟨Nat.zero_le _, by simp only; omega, by simp only; omega, by simp only [List.drop_zero], by simp [kindedL]⟩ (Le.refl _) ?_
    rintro ⟨i, m⟩ ⟨hi, hm, hm', heq, hkd⟩
    simp only at hi hm hm' heq hkd
    have hln : (l.length : Int) ≤ 140737488355328 := f3
    rcases Nat.lt_or_ge i l.length with hlt | hge
    · obtain ⟨t, ht, hdr, hmem⟩ := drop_at hlt
      have a1 := encF_at ht
      have a2 : ((i : Int) < (l.length : Int)) = True := by simp; omega
      have a3 := fitF_mem f4 t hmem
      have a4 := size_mem hmem
      have a6 := F.enc_len t
      have a7 := okFI_le t (d + 1) m
      rw [hdr] at heq
      simp only [okFIL] at heq
      have hfalse : ¬ (okFI t (d + 1) m).1 = true → R.1 = false ∧ R.2 = (okFI t (d + 1) m).2 := fun hc => by
        rw [if_neg hc] at heq
        rw [heq] at hpos'
        rw [hpos']; simp
      simp only [initX, DV.toP, C.toQ, Q.pubB, Option.bind_some, List.map_cons, List.map_nil, pw_seq, pw_reg, pw_cond, condQ_t, condQ_f, condQ_d, not_dec, pw_ret, pw_skip, pw_exit, pw_block, thenQ_n, thenQ_r, thenQ_e, blkQ_n, blkQ_r, blkQ_e, loopQ_n, loopQ_r, loopQ_e, runX, stepR, callR, orF, Spec.at, stepX, stepM, evalK, callX, callE, Gam, get?, argsX, argsE, pubIds, St.pubs, mutIds, nodupIds, outE, retE, retP, allD, DV.toS, St.v, get, PV.un, PV.row, Option.map, St.put, upd, del, binC, rg, St.keep, List.map, Option.getD, effK, bne_self_eq_false, if_true, Bool.true_and, Nat.reduceEqDiff, if_false, reduceIte, reduceCtorEq, Nat.reduceAdd, true_and, endQ, finX, resD, resV, resOwns, refOwns, outX, PV.owns, ownsQ, List.append_nil, List.nil_append, List.foldl, PV.toD, Q.toC, allC, and_true, implies_true, true_implies, false_implies, AV.d.injEq, AV.ref.injEq, Option.some.injEq, DV.one.injEq, DV.agg.injEq, C.int.injEq, C.bool.injEq, C.str.injEq, C.row.injEq, List.cons.injEq, loadC, loadQ, cellsOf, List.length_cons, List.length_nil, List.getD_cons_zero, List.getD_cons_succ, List.drop, List.take, decide_true, decide_false, Int.toNat_natCast, Bool.false_and, Bool.and_true, Bool.and_false, St.map, PV.map, SV.map, St.pub, Q.pub, del, Q.killB, Q.killO, buildX, bslX, place, placeC, asInt?, loX, Nat.reduceLeDiff, Nat.reduceLT, List.append, List.cons_append, Option.bind, Bool.not_true, Bool.not_false, Nat.reduceSub, Nat.reduceBNe, Nat.add_zero, List.getD_nil, strs_len, encL_len, encF_len, encTk_len, allC_map, owns_map, C.def, killB_map, killO_map, pub_map, T.enc_take, F.enc_take, T.enc_take5, F.enc_take9, Tk.enc_take6, Nat.le_refl, List.length_map, List.drop_zero, List.flatMap_cons, List.flatMap_nil, List.any_nil, List.any_cons, Nat.reduceBEq, beq_self_eq_true, Bool.or_false, pick_or, pick_and, pick_t, pick_f, dec_and, bq_t, bq_f, decide_eq_true_eq, decide_eq_false_iff_not, imp_self, not_true_eq_false, not_false_eq_true, rg, a1, a2, a6, spOkFI_md, spOkFI_pre, spOkFI_alts, spOkFI_res, spOkFI_out]
      repeat' (first | with_reducible assumption | with_reducible refine And.intro ?_ ?_ | intro _)
      all_goals first | omega | skip
      · rename_i hc hR
        rw [(hfalse hc).1] at hR; cases hR
      · rename_i hc
        exact (hfalse hc).2.symm
      · have hc' : (okFI t (d + 1) m).1 = true := Classical.byContradiction (by assumption)
        rw [if_pos hc'] at heq
        refine ⟨(i + 1, (okFI t (d + 1) m).2), ⟨by simp only; omega, (a7.2 hc').1, by simp only; omega, heq, ?_⟩, by simp only; omega, Le.sub (fun _ h => h) (fun _ h => List.mem_append_left [_] h) (fun _ h => h)⟩
        rw [kindedL_mem]
        intro y hy
        simp only at hy
        rw [List.take_add_one, ht] at hy
        rcases List.mem_append.1 hy with hy | hy
        · exact kindedL_mem.1 hkd y hy
        · simp at hy; subst hy; exact (a7.2 hc').2
    · have a2 : ((i : Int) < (l.length : Int)) = False := by simp; omega
      rw [List.drop_eq_nil_of_le hge] at heq
      rw [List.take_of_length_le hge] at hkd
      simp only [okFIL] at heq
      rw [heq] at hpos'
      simp only [if_true] at hpos'
      have z0 : (0 : Int).toNat = 0 := rfl
      cases l with
      | nil =>
        have h20 : (kk = 20) = False := by simp; intro h; have := hk h; simp at this
        simp only [initX, DV.toP, C.toQ, Q.pubB, Option.bind_some, List.map_cons, List.map_nil, pw_seq, pw_reg, pw_cond, condQ_t, condQ_f, condQ_d, not_dec, pw_ret, pw_skip, pw_exit, pw_block, thenQ_n, thenQ_r, thenQ_e, blkQ_n, blkQ_r, blkQ_e, loopQ_n, loopQ_r, loopQ_e, runX, stepR, callR, orF, Spec.at, stepX, stepM, evalK, callX, callE, Gam, get?, argsX, argsE, pubIds, St.pubs, mutIds, nodupIds, outE, retE, retP, allD, DV.toS, St.v, get, PV.un, PV.row, Option.map, St.put, upd, del, binC, rg, St.keep, List.map, Option.getD, effK, bne_self_eq_false, if_true, Bool.true_and, Nat.reduceEqDiff, if_false, reduceIte, reduceCtorEq, Nat.reduceAdd, true_and, endQ, finX, resD, resV, resOwns, refOwns, outX, PV.owns, ownsQ, List.append_nil, List.nil_append, List.foldl, PV.toD, Q.toC, allC, and_true, implies_true, true_implies, false_implies, AV.d.injEq, AV.ref.injEq, Option.some.injEq, DV.one.injEq, DV.agg.injEq, C.int.injEq, C.bool.injEq, C.str.injEq, C.row.injEq, List.cons.injEq, loadC, loadQ, cellsOf, List.length_cons, List.length_nil, List.getD_cons_zero, List.getD_cons_succ, List.drop, List.take, decide_true, decide_false, Int.toNat_natCast, Bool.false_and, Bool.and_true, Bool.and_false, St.map, PV.map, SV.map, St.pub, Q.pub, del, Q.killB, Q.killO, buildX, bslX, place, placeC, asInt?, loX, Nat.reduceLeDiff, Nat.reduceLT, List.append, List.cons_append, Option.bind, Bool.not_true, Bool.not_false, Nat.reduceSub, Nat.reduceBNe, Nat.add_zero, List.getD_nil, strs_len, encL_len, encF_len, encTk_len, allC_map, owns_map, C.def, killB_map, killO_map, pub_map, T.enc_take, F.enc_take, T.enc_take5, F.enc_take9, Tk.enc_take6, Nat.le_refl, List.length_map, List.drop_zero, List.flatMap_cons, List.flatMap_nil, List.any_nil, List.any_cons, Nat.reduceBEq, beq_self_eq_true, Bool.or_false, pick_or, pick_and, pick_t, pick_f, dec_and, bq_t, bq_f, decide_eq_true_eq, decide_eq_false_iff_not, imp_self, not_true_eq_false, not_false_eq_true, rg, a2, z0, encF, h20, spLookD_md, spLookD_alts, spLookD_pre0, spLookD_res0, spLookD_out0, hpos']
        repeat' (first | with_reducible assumption | with_reducible refine And.intro ?_ ?_ | intro _)
        all_goals first | omega | (grind; done) | skip
      | cons x r =>
        have a6 := F.enc_len x
        have a7 := fitF_mem f4 x (by simp)
        have a8 := kindedL_mem.1 hkd x (by simp)
        have a9 : wayL (x :: r) 0 = wayF x := by simp [wayL]
        simp only [initX, DV.toP, C.toQ, Q.pubB, Option.bind_some, List.map_cons, List.map_nil, pw_seq, pw_reg, pw_cond, condQ_t, condQ_f, condQ_d, not_dec, pw_ret, pw_skip, pw_exit, pw_block, thenQ_n, thenQ_r, thenQ_e, blkQ_n, blkQ_r, blkQ_e, loopQ_n, loopQ_r, loopQ_e, runX, stepR, callR, orF, Spec.at, stepX, stepM, evalK, callX, callE, Gam, get?, argsX, argsE, pubIds, St.pubs, mutIds, nodupIds, outE, retE, retP, allD, DV.toS, St.v, get, PV.un, PV.row, Option.map, St.put, upd, del, binC, rg, St.keep, List.map, Option.getD, effK, bne_self_eq_false, if_true, Bool.true_and, Nat.reduceEqDiff, if_false, reduceIte, reduceCtorEq, Nat.reduceAdd, true_and, endQ, finX, resD, resV, resOwns, refOwns, outX, PV.owns, ownsQ, List.append_nil, List.nil_append, List.foldl, PV.toD, Q.toC, allC, and_true, implies_true, true_implies, false_implies, AV.d.injEq, AV.ref.injEq, Option.some.injEq, DV.one.injEq, DV.agg.injEq, C.int.injEq, C.bool.injEq, C.str.injEq, C.row.injEq, List.cons.injEq, loadC, loadQ, cellsOf, List.length_cons, List.length_nil, List.getD_cons_zero, List.getD_cons_succ, List.drop, List.take, decide_true, decide_false, Int.toNat_natCast, Bool.false_and, Bool.and_true, Bool.and_false, St.map, PV.map, SV.map, St.pub, Q.pub, del, Q.killB, Q.killO, buildX, bslX, place, placeC, asInt?, loX, Nat.reduceLeDiff, Nat.reduceLT, List.append, List.cons_append, Option.bind, Bool.not_true, Bool.not_false, Nat.reduceSub, Nat.reduceBNe, Nat.add_zero, List.getD_nil, strs_len, encL_len, encF_len, encTk_len, allC_map, owns_map, C.def, killB_map, killO_map, pub_map, T.enc_take, F.enc_take, T.enc_take5, F.enc_take9, Tk.enc_take6, Nat.le_refl, List.length_map, List.drop_zero, List.flatMap_cons, List.flatMap_nil, List.any_nil, List.any_cons, Nat.reduceBEq, beq_self_eq_true, Bool.or_false, pick_or, pick_and, pick_t, pick_f, dec_and, bq_t, bq_f, decide_eq_true_eq, decide_eq_false_iff_not, imp_self, not_true_eq_false, not_false_eq_true, rg, a2, z0, encF, a6, spLookD_md, spLookD_pre, spLookD_alts, spLookD_res, spLookD_out, hpos', a9]
        repeat' (first | with_reducible assumption | with_reducible refine And.intro ?_ ?_ | intro _)
        all_goals first | omega | (grind; done) | skip
theorem okFI_all (hG : get? 0 Globs.G = some ktabC) : ∀ k, Sound Go.Proofs.Tryd.prog 97 (spOkFI k) := fun k => Nat.rec Sound.none (fun k ih => okFI_sound hG k ih) k
noncomputable def spOkFIV  : Spec := Spec.of (ι := F × Int × Int) [false, false, true] (fun i => [.d (.agg i.1.enc), .d (.one (.int .i64 i.2.1)), .ref [.int .i64 i.2.2]]) (fun i => i.1.fit 140737488355328 ∧ 0 ≤ i.2.1 ∧ i.2.1 ≤ 8 ∧ 0 ≤ i.2.2 ∧ i.2.2 ≤ 1000) (fun i => [.d (.one (.bool (decide ((okFI i.1 i.2.1 i.2.2).1 = true))))]) (fun i => [.gone, .gone, .ref [.int .i64 (okFI i.1 i.2.1 i.2.2).2]])
theorem spOkFIV_inj : ∀ i j : F × Int × Int, (fun (i : F × Int × Int) => ([.d (.agg i.1.enc), .d (.one (.int .i64 i.2.1)), .ref [.int .i64 i.2.2]] : List AV)) i = (fun (i : F × Int × Int) => ([.d (.agg i.1.enc), .d (.one (.int .i64 i.2.1)), .ref [.int .i64 i.2.2]] : List AV)) j → i = j := by
  rintro ⟨t, d, left⟩ ⟨t', d', left'⟩ h
  simp only [Prod.mk.injEq]
  simpa [strs_eq, T.enc_eq, encL_eq, F.enc_eq, encF_eq, Tk.enc_eq, encTk_eq, Gn.enc_eq] using h
theorem spOkFIV_md  : (spOkFIV).md = [false, false, true] := rfl
theorem spOkFIV_pre  (t : F) (d : Int) (left : Int) : (spOkFIV).pre [.d (.agg t.enc), .d (.one (.int .i64 d)), .ref [.int .i64 left]] = (t.fit 140737488355328 ∧ 0 ≤ d ∧ d ≤ 8 ∧ 0 ≤ left ∧ left ≤ 1000) := Spec.of_pre' spOkFIV_inj (t, d, left)
theorem spOkFIV_alts  : (spOkFIV).alts = none := rfl
theorem spOkFIV_res  (t : F) (d : Int) (left : Int) : (spOkFIV).res [.d (.agg t.enc), .d (.one (.int .i64 d)), .ref [.int .i64 left]] = [.d (.one (.bool (decide ((okFI t d left).1 = true))))] := Spec.of_res spOkFIV_inj (t, d, left)
theorem spOkFIV_out  (t : F) (d : Int) (left : Int) : (spOkFIV).out [.d (.agg t.enc), .d (.one (.int .i64 d)), .ref [.int .i64 left]] = [.gone, .gone, .ref [.int .i64 (okFI t d left).2]] := Spec.of_out spOkFIV_inj (t, d, left)
theorem okFIV_sound (hG : get? 0 Globs.G = some ktabC) : Sound Go.Proofs.Tryd.prog 97 spOkFIV := Sound.all (μ := fun i => SizeOf.sizeOf i.1) (okFI_all hG)
noncomputable def spFiltOkI  : Spec := Spec.of (ι := F) [false] (fun i => [.d (.agg i.enc)]) (fun i => i.fit 140737488355328) (fun i => [.d (.one (.bool (decide ((okFI i 1 16).1 = true))))]) (fun _ => [.gone])
theorem spFiltOkI_inj : ∀ i j : F, (fun (i : F) => ([.d (.agg i.enc)] : List AV)) i = (fun (i : F) => ([.d (.agg i.enc)] : List AV)) j → i = j := by
  intro t t' h
  simpa [strs_eq, T.enc_eq, encL_eq, F.enc_eq, encF_eq, Tk.enc_eq, encTk_eq, Gn.enc_eq] using h
theorem spFiltOkI_md  : (spFiltOkI).md = [false] := rfl
theorem spFiltOkI_pre  (t : F) : (spFiltOkI).pre [.d (.agg t.enc)] = (t.fit 140737488355328) := Spec.of_pre' spFiltOkI_inj t
theorem spFiltOkI_alts  : (spFiltOkI).alts = none := rfl
theorem spFiltOkI_res  (t : F) : (spFiltOkI).res [.d (.agg t.enc)] = [.d (.one (.bool (decide ((okFI t 1 16).1 = true))))] := Spec.of_res spFiltOkI_inj t
theorem spFiltOkI_out  (t : F) : (spFiltOkI).out [.d (.agg t.enc)] = [.gone] := Spec.of_out spFiltOkI_inj t
theorem filtOkI_sound (hG : get? 0 Globs.G = some ktabC) : Sound Go.Proofs.Tryd.prog 32 spFiltOkI := by
  refine sound_fam (GOK.cons call_okF (okFIV_sound hG) GOK.nil) Go.Proofs.Tryd.func32 (c := Go.Proofs.Tryd.f32.body.getD .skip) rfl (n := 6) rfl chk_FiltOkI rs_FiltOkI (fun _ => by simp) ?_ ?_
  · exact spFiltOkI_inj
  · intro t h1
    have a6 := F.enc_len t
    simp only [x_FiltOkI, initX, DV.toP, C.toQ, Q.pubB, Option.bind_some, List.map_cons, List.map_nil, pw_seq, pw_reg, pw_cond, condQ_t, condQ_f, condQ_d, not_dec, pw_ret, pw_skip, pw_exit, pw_block, thenQ_n, thenQ_r, thenQ_e, blkQ_n, blkQ_r, blkQ_e, loopQ_n, loopQ_r, loopQ_e, runX, stepR, callR, orF, Spec.at, stepX, stepM, evalK, callX, callE, Gam, get?, argsX, argsE, pubIds, St.pubs, mutIds, nodupIds, outE, retE, retP, allD, DV.toS, St.v, get, PV.un, PV.row, Option.map, St.put, upd, del, binC, rg, St.keep, List.map, Option.getD, effK, bne_self_eq_false, if_true, Bool.true_and, Nat.reduceEqDiff, if_false, reduceIte, reduceCtorEq, Nat.reduceAdd, true_and, endQ, finX, resD, resV, resOwns, refOwns, outX, PV.owns, ownsQ, List.append_nil, List.nil_append, List.foldl, PV.toD, Q.toC, allC, and_true, implies_true, true_implies, false_implies, AV.d.injEq, AV.ref.injEq, Option.some.injEq, DV.one.injEq, DV.agg.injEq, C.int.injEq, C.bool.injEq, C.str.injEq, C.row.injEq, List.cons.injEq, loadC, loadQ, cellsOf, List.length_cons, List.length_nil, List.getD_cons_zero, List.getD_cons_succ, List.drop, List.take, decide_true, decide_false, Int.toNat_natCast, Bool.false_and, Bool.and_true, Bool.and_false, St.map, PV.map, SV.map, St.pub, Q.pub, del, Q.killB, Q.killO, buildX, bslX, place, placeC, asInt?, loX, Nat.reduceLeDiff, Nat.reduceLT, List.append, List.cons_append, Option.bind, Bool.not_true, Bool.not_false, Nat.reduceSub, Nat.reduceBNe, Nat.add_zero, List.getD_nil, strs_len, encL_len, encF_len, encTk_len, allC_map, owns_map, C.def, killB_map, killO_map, pub_map, T.enc_take, F.enc_take, T.enc_take5, F.enc_take9, Tk.enc_take6, Nat.le_refl, List.length_map, List.drop_zero, List.flatMap_cons, List.flatMap_nil, List.any_nil, List.any_cons, Nat.reduceBEq, beq_self_eq_true, Bool.or_false, pick_or, pick_and, pick_t, pick_f, dec_and, bq_t, bq_f, decide_eq_true_eq, decide_eq_false_iff_not, imp_self, not_true_eq_false, not_false_eq_true, rg, a6, spOkFIV_md, spOkFIV_pre, spOkFIV_alts, spOkFIV_res, spOkFIV_out]
    repeat' (first | with_reducible assumption | with_reducible refine And.intro ?_ ?_ | intro _)
    all_goals first | omega | skip
end Go.Proofs.Pw
