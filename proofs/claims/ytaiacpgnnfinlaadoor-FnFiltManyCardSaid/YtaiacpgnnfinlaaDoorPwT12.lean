/- What is a filter that is ok: the specification's functions. -/
import Derived.Test.YtaiacpgnnfinlaaDoorPwT10
import Derived.Test.YtaiacpgnnfinlaaDoorPwT11
set_option linter.unusedSimpArgs false
set_option linter.unusedVariables false
set_option linter.unusedSimpArgs false
set_option maxRecDepth 20000
namespace Go.Proofs.Pw
set_option linter.unusedSectionVars false
variable [Globs]
def x_l4Kids : X := (.seq (.reg [⟨some 2, none, .mv (.k (.c (.int .i64 0)))⟩] none [0]) (.seq (.seq (.reg [⟨some 3, none, .mv (.t 0)⟩] none [3]) (.block 0 (.seq (.seq (.reg [⟨some 5, none, .bin false .eql (.t 3) (.k (.c (.int .i64 1)))⟩, ⟨some 4, none, .mv (.t 5)⟩] none [3, 4]) (.cond (.t 4) .skip (.seq (.reg [⟨some 6, none, .bin false .eql (.t 3) (.k (.c (.int .i64 2)))⟩, ⟨some 4, none, .mv (.t 6)⟩] none [3, 4]) (.cond (.t 4) .skip (.seq (.reg [⟨some 7, none, .bin false .eql (.t 3) (.k (.c (.int .i64 3)))⟩, ⟨some 4, none, .mv (.t 7)⟩] none [3, 4]) (.cond (.t 4) .skip (.seq (.reg [⟨some 8, none, .bin false .eql (.t 3) (.k (.c (.int .i64 4)))⟩, ⟨some 4, none, .mv (.t 8)⟩] none [3, 4]) (.cond (.t 4) .skip (.seq (.reg [⟨some 9, none, .bin false .eql (.t 3) (.k (.c (.int .i64 5)))⟩, ⟨some 4, none, .mv (.t 9)⟩] none [3, 4]) (.cond (.t 4) .skip (.seq (.reg [⟨some 10, none, .bin false .eql (.t 3) (.k (.c (.int .i64 13)))⟩, ⟨some 4, none, .mv (.t 10)⟩] none [3, 4]) (.cond (.t 4) .skip (.seq (.reg [⟨some 11, none, .bin false .eql (.t 3) (.k (.c (.int .i64 14)))⟩, ⟨some 4, none, .mv (.t 11)⟩] none [3, 4]) (.cond (.t 4) .skip (.seq (.reg [⟨some 12, none, .bin false .eql (.t 3) (.k (.c (.int .i64 15)))⟩, ⟨some 4, none, .mv (.t 12)⟩] none [3, 4]) (.cond (.t 4) .skip (.seq (.reg [⟨some 13, none, .bin false .eql (.t 3) (.k (.c (.int .i64 18)))⟩, ⟨some 4, none, .mv (.t 13)⟩] none [3, 4]) (.cond (.t 4) .skip (.reg [⟨some 14, none, .bin false .eql (.t 3) (.k (.c (.int .i64 19)))⟩, ⟨some 4, none, .mv (.t 14)⟩] none [3, 4]))))))))))))))))))) (.cond (.t 4) (.seq (.reg [⟨some 2, none, .mv (.k (.c (.int .i64 0)))⟩] none [2]) .ret) (.seq (.seq (.reg [⟨some 16, none, .bin false .eql (.t 3) (.k (.c (.int .i64 12)))⟩, ⟨some 15, none, .mv (.t 16)⟩] none [3, 15]) (.cond (.t 15) .skip (.seq (.reg [⟨some 17, none, .bin false .eql (.t 3) (.k (.c (.int .i64 17)))⟩, ⟨some 15, none, .mv (.t 17)⟩] none [3, 15]) (.cond (.t 15) .skip (.reg [⟨some 18, none, .bin false .eql (.t 3) (.k (.c (.int .i64 21)))⟩, ⟨some 15, none, .mv (.t 18)⟩] none [3, 15]))))) (.cond (.t 15) (.seq (.reg [⟨some 2, none, .mv (.k (.c (.int .i64 1)))⟩] none [2]) .ret) (.seq (.seq (.reg [⟨some 20, none, .bin false .eql (.t 3) (.k (.c (.int .i64 6)))⟩, ⟨some 19, none, .mv (.t 20)⟩] none [3, 19]) (.cond (.t 19) .skip (.seq (.reg [⟨some 21, none, .bin false .eql (.t 3) (.k (.c (.int .i64 7)))⟩, ⟨some 19, none, .mv (.t 21)⟩] none [3, 19]) (.cond (.t 19) .skip (.seq (.reg [⟨some 22, none, .bin false .eql (.t 3) (.k (.c (.int .i64 9)))⟩, ⟨some 19, none, .mv (.t 22)⟩] none [3, 19]) (.cond (.t 19) .skip (.seq (.reg [⟨some 23, none, .bin false .eql (.t 3) (.k (.c (.int .i64 10)))⟩, ⟨some 19, none, .mv (.t 23)⟩] none [3, 19]) (.cond (.t 19) .skip (.seq (.reg [⟨some 24, none, .bin false .eql (.t 3) (.k (.c (.int .i64 11)))⟩, ⟨some 19, none, .mv (.t 24)⟩] none [3, 19]) (.cond (.t 19) .skip (.seq (.reg [⟨some 25, none, .bin false .eql (.t 3) (.k (.c (.int .i64 16)))⟩, ⟨some 19, none, .mv (.t 25)⟩] none [3, 19]) (.cond (.t 19) .skip (.reg [⟨some 26, none, .bin false .eql (.t 3) (.k (.c (.int .i64 20)))⟩, ⟨some 19, none, .mv (.t 26)⟩] none [3, 19]))))))))))))) (.cond (.t 19) (.seq (.reg [⟨some 2, none, .mv (.k (.c (.int .i64 2)))⟩] none [2]) .ret) (.seq (.reg [⟨some 28, none, .bin false .eql (.t 3) (.k (.c (.int .i64 8)))⟩, ⟨some 27, none, .mv (.t 28)⟩] none [27]) (.cond (.t 27) (.seq (.reg [⟨some 2, none, .mv (.k (.c (.int .i64 3)))⟩] none [2]) .ret) .skip)))))))))) (.seq (.reg [⟨some 2, none, .mv (.k (.c (.int .i64 (-1))))⟩] none [2]) .ret)))
theorem chk_l4Kids : chkX Go.Proofs.Tryd.prog 29 (Go.Proofs.Tryd.f28.body.getD .skip) x_l4Kids = true := by kernel_rfl
theorem rs_l4Kids : okRs Go.Proofs.Tryd.prog Go.Proofs.Tryd.f28.results.toList [.tmp 2] = true := by kernel_rfl
theorem call_l4Kids : okCallee Go.Proofs.Tryd.prog 28 = true := by kernel_rfl
def x_l4Clean : X := (.seq (.reg [⟨some 1, none, .box (.t 0) (some 9)⟩, ⟨some 2, none, .mv (.k (.c (.bool false)))⟩] none [1]) (.seq (.reg [⟨some 4, none, .fa (.t 1) 0⟩, ⟨some 5, none, .load (.t 4) none⟩, ⟨some 6, none, .bin false .eql (.t 5) (.k (.c (.int .i64 3)))⟩, ⟨some 7, none, .mv (.t 6)⟩, ⟨some 8, some (7, false), .fa (.t 1) 0⟩, ⟨some 9, some (7, false), .load (.t 8) none⟩, ⟨some 10, some (7, false), .bin false .eql (.t 9) (.k (.c (.int .i64 21)))⟩, ⟨some 11, none, .pick (.t 7) (.k (.c (.bool true))) (.t 10)⟩, ⟨some 3, none, .mv (.t 11)⟩] none [1, 3]) (.seq (.reg [⟨some 12, none, .fa (.t 1) 0⟩, ⟨some 13, none, .load (.t 12) none⟩, ⟨some 14, none, .bin false .eql (.t 13) (.k (.c (.int .i64 4)))⟩, ⟨some 15, none, .mv (.t 14)⟩, ⟨some 16, some (15, false), .fa (.t 1) 1⟩, ⟨some 17, some (15, false), .load (.t 16) none⟩, ⟨some 18, some (15, false), .bin false .eql (.t 17) (.k (.c (.int .i64 0)))⟩, ⟨some 19, none, .pick (.t 15) (.k (.c (.bool true))) (.t 18)⟩, ⟨some 20, none, .mv (.t 19)⟩, ⟨some 21, some (20, true), .mv (.t 3)⟩, ⟨some 22, some (20, true), .mv (.t 21)⟩, ⟨some 23, some (22, false), .fa (.t 1) 2⟩, ⟨some 24, some (22, false), .load (.t 23) none⟩, ⟨some 25, some (22, false), .bin false .eql (.t 24) (.k (.c (.str ⟨#[]⟩)))⟩, ⟨some 26, some (20, true), .pick (.t 22) (.k (.c (.bool true))) (.t 25)⟩, ⟨some 27, none, .pick (.t 20) (.t 26) (.k (.c (.bool false)))⟩, ⟨some 28, none, .mv (.t 27)⟩, ⟨some 29, some (28, true), .fa (.t 1) 0⟩, ⟨some 30, some (28, true), .load (.t 29) none⟩, ⟨some 31, some (28, true), .bin false .eql (.t 30) (.k (.c (.int .i64 2)))⟩, ⟨some 32, some (28, true), .mv (.t 31)⟩, ⟨some 33, some (32, false), .fa (.t 1) 3⟩, ⟨some 34, some (32, false), .load (.t 33) (some 5)⟩, ⟨some 35, some (32, false), .build [(.c (.int .i64 0)), (.c (.int .i64 0)), (.c (.str ⟨#[]⟩)), (.z 1), (.z 5)] []⟩, ⟨some 36, some (32, false), .call 20 [(.t 34), (.t 35)]⟩, ⟨some 37, some (28, true), .pick (.t 32) (.k (.c (.bool true))) (.t 36)⟩, ⟨some 38, none, .pick (.t 28) (.t 37) (.k (.c (.bool false)))⟩, ⟨some 2, none, .mv (.t 38)⟩] none [2]) .ret)))
theorem chk_l4Clean : chkX Go.Proofs.Tryd.prog 39 (Go.Proofs.Tryd.f29.body.getD .skip) x_l4Clean = true := by kernel_rfl
theorem rs_l4Clean : okRs Go.Proofs.Tryd.prog Go.Proofs.Tryd.f29.results.toList [.tmp 2] = true := by kernel_rfl
theorem call_l4Clean : okCallee Go.Proofs.Tryd.prog 29 = true := by kernel_rfl
def x_l4Way : X := (.seq (.reg [⟨some 1, none, .box (.t 0) (some 9)⟩, ⟨some 2, none, .mv (.k (.c (.bool false)))⟩] none [1]) (.seq (.seq (.reg [⟨some 3, none, .fa (.t 1) 0⟩, ⟨some 4, none, .load (.t 3) none⟩] none [1, 4]) (.block 0 (.seq (.seq (.reg [⟨some 6, none, .bin false .eql (.t 4) (.k (.c (.int .i64 1)))⟩, ⟨some 5, none, .mv (.t 6)⟩] none [1, 4, 5]) (.cond (.t 5) .skip (.seq (.reg [⟨some 7, none, .bin false .eql (.t 4) (.k (.c (.int .i64 3)))⟩, ⟨some 5, none, .mv (.t 7)⟩] none [1, 4, 5]) (.cond (.t 5) .skip (.seq (.reg [⟨some 8, none, .bin false .eql (.t 4) (.k (.c (.int .i64 4)))⟩, ⟨some 5, none, .mv (.t 8)⟩] none [1, 4, 5]) (.cond (.t 5) .skip (.seq (.reg [⟨some 9, none, .bin false .eql (.t 4) (.k (.c (.int .i64 5)))⟩, ⟨some 5, none, .mv (.t 9)⟩] none [1, 4, 5]) (.cond (.t 5) .skip (.reg [⟨some 10, none, .bin false .eql (.t 4) (.k (.c (.int .i64 18)))⟩, ⟨some 5, none, .mv (.t 10)⟩] none [1, 4, 5]))))))))) (.cond (.t 5) (.seq (.reg [⟨some 2, none, .mv (.k (.c (.bool true)))⟩] none [2]) .ret) (.seq (.seq (.reg [⟨some 12, none, .bin false .eql (.t 4) (.k (.c (.int .i64 6)))⟩, ⟨some 11, none, .mv (.t 12)⟩] none [1, 4, 11]) (.cond (.t 11) .skip (.reg [⟨some 13, none, .bin false .eql (.t 4) (.k (.c (.int .i64 7)))⟩, ⟨some 11, none, .mv (.t 13)⟩] none [1, 4, 11]))) (.cond (.t 11) (.seq (.reg [⟨some 14, none, .fa (.t 1) 8⟩, ⟨some 15, none, .load (.t 14) none⟩, ⟨some 16, none, .ia (.t 15) (.k (.c (.int .i64 0))) 9⟩, ⟨some 17, none, .load (.t 16) (some 9)⟩, ⟨some 18, none, .call 32 [(.t 17)]⟩, ⟨some 19, none, .mv (.t 18)⟩, ⟨some 20, some (19, true), .fa (.t 1) 8⟩, ⟨some 21, some (19, true), .load (.t 20) none⟩, ⟨some 22, some (19, true), .ia (.t 21) (.k (.c (.int .i64 1))) 9⟩, ⟨some 23, some (19, true), .load (.t 22) (some 9)⟩, ⟨some 24, some (19, true), .call 32 [(.t 23)]⟩, ⟨some 25, none, .pick (.t 19) (.t 24) (.k (.c (.bool false)))⟩, ⟨some 2, none, .mv (.t 25)⟩] none [2]) .ret) (.seq (.reg [⟨some 27, none, .bin false .eql (.t 4) (.k (.c (.int .i64 8)))⟩, ⟨some 26, none, .mv (.t 27)⟩] none [1, 26]) (.cond (.t 26) (.seq (.reg [⟨some 28, none, .fa (.t 1) 8⟩, ⟨some 29, none, .load (.t 28) none⟩, ⟨some 30, none, .ia (.t 29) (.k (.c (.int .i64 1))) 9⟩, ⟨some 31, none, .load (.t 30) (some 9)⟩, ⟨some 32, none, .call 32 [(.t 31)]⟩, ⟨some 33, none, .mv (.t 32)⟩, ⟨some 34, some (33, true), .fa (.t 1) 8⟩, ⟨some 35, some (33, true), .load (.t 34) none⟩, ⟨some 36, some (33, true), .ia (.t 35) (.k (.c (.int .i64 2))) 9⟩, ⟨some 37, some (33, true), .load (.t 36) (some 9)⟩, ⟨some 38, some (33, true), .call 32 [(.t 37)]⟩, ⟨some 39, none, .pick (.t 33) (.t 38) (.k (.c (.bool false)))⟩, ⟨some 2, none, .mv (.t 39)⟩] none [2]) .ret) .skip)))))))) (.seq (.reg [⟨some 2, none, .mv (.k (.c (.bool false)))⟩] none [2]) .ret)))
theorem chk_l4Way : chkX Go.Proofs.Tryd.prog 40 (Go.Proofs.Tryd.f32.body.getD .skip) x_l4Way = true := by kernel_rfl
theorem rs_l4Way : okRs Go.Proofs.Tryd.prog Go.Proofs.Tryd.f32.results.toList [.tmp 2] = true := by kernel_rfl
theorem call_l4Way : okCallee Go.Proofs.Tryd.prog 32 = true := by kernel_rfl
noncomputable def spKids  : Spec := Spec.of (ι := Int) [false] (fun i => [.d (.one (.int .i64 i))]) (fun _ => True) (fun i => [.d (.one (.int .i64 (kidsOf i)))]) (fun _ => [.gone])
theorem spKids_inj : ∀ i j : Int, (fun (i : Int) => ([.d (.one (.int .i64 i))] : List AV)) i = (fun (i : Int) => ([.d (.one (.int .i64 i))] : List AV)) j → i = j := by
  intro k k' h
  simpa [strs_eq, T.enc_eq, encL_eq, F.enc_eq, encF_eq, Tk.enc_eq, encTk_eq, Gn.enc_eq, ints_eq] using h
theorem spKids_md  : (spKids).md = [false] := rfl
theorem spKids_pre  (k : Int) : (spKids).pre [.d (.one (.int .i64 k))] = (True) := Spec.of_pre' spKids_inj k
theorem spKids_alts  : (spKids).alts = none := rfl
theorem spKids_res  (k : Int) : (spKids).res [.d (.one (.int .i64 k))] = [.d (.one (.int .i64 (kidsOf k)))] := Spec.of_res spKids_inj k
theorem spKids_out  (k : Int) : (spKids).out [.d (.one (.int .i64 k))] = [.gone] := Spec.of_out spKids_inj k
theorem l4Kids_sound : Sound Go.Proofs.Tryd.prog 28 spKids := by
  refine sound_fam GOK.nil Go.Proofs.Tryd.func28 (c := Go.Proofs.Tryd.f28.body.getD .skip) rfl (n := 29) rfl chk_l4Kids rs_l4Kids (fun _ => by simp) ?_ ?_
  · exact spKids_inj
  · intro k _
    simp only [x_l4Kids, go_sem, seval, rg, kidsOf]
    repeat' (first | with_reducible assumption | with_reducible refine And.intro ?_ ?_ | intro _)
    all_goals first | omega | (grind; done) | skip
noncomputable def spClean  : Spec := Spec.of (ι := F) [false] (fun i => [.d (.agg i.enc)]) (fun i => i.fit 140737488355328) (fun i => [.d (.one (.bool (decide (cleanQ i))))]) (fun _ => [.gone])
theorem spClean_inj : ∀ i j : F, (fun (i : F) => ([.d (.agg i.enc)] : List AV)) i = (fun (i : F) => ([.d (.agg i.enc)] : List AV)) j → i = j := by
  intro t t' h
  simpa [strs_eq, T.enc_eq, encL_eq, F.enc_eq, encF_eq, Tk.enc_eq, encTk_eq, Gn.enc_eq, ints_eq] using h
theorem spClean_md  : (spClean).md = [false] := rfl
theorem spClean_pre  (t : F) : (spClean).pre [.d (.agg t.enc)] = (t.fit 140737488355328) := Spec.of_pre' spClean_inj t
theorem spClean_alts  : (spClean).alts = none := rfl
theorem spClean_res  (t : F) : (spClean).res [.d (.agg t.enc)] = [.d (.one (.bool (decide (cleanQ t))))] := Spec.of_res spClean_inj t
theorem spClean_out  (t : F) : (spClean).out [.d (.agg t.enc)] = [.gone] := Spec.of_out spClean_inj t
theorem l4Clean_sound : Sound Go.Proofs.Tryd.prog 29 spClean := by
  refine sound_fam (GOK.cons call_ValSame sameV_sound GOK.nil) Go.Proofs.Tryd.func29 (c := Go.Proofs.Tryd.f29.body.getD .skip) rfl (n := 39) rfl chk_l4Clean rs_l4Clean (fun _ => by simp) ?_ ?_
  · exact spClean_inj
  · intro t h1
    obtain ⟨kk, n, s, v, l⟩ := t
    obtain ⟨vk, vn, vs, vks, vl⟩ := v
    simp only [F.fit] at h1
    obtain ⟨_, _, f1, f2, f3, f4⟩ := h1
    generalize hv : T.mk vk vn vs vks vl = v at *
    have e6 : v.enc = [.int .i64 vk, .int .i64 vn, .str vs, .row 1 (strs vks), .row 5 (encL vl)] := by rw [← hv]; rfl
    have p1 := spSameV_pre v T.zero
    have p2 := spSameV_res v T.zero
    have p3 := spSameV_out v T.zero
    rw [T.zero_enc, e6] at p1 p2 p3
    have hz := T.zero_fit
    simp only [x_l4Clean, F.enc, e6, go_sem, seval, rg, spSameV_md, spSameV_alts, p1, p2, p3]
    repeat' (first | with_reducible assumption | with_reducible refine And.intro ?_ ?_ | intro _)
    all_goals first | omega | (grind [cleanQ, cleanF]; done) | skip
noncomputable def spWay (k:Nat) : Spec := Spec.of (ι := F) [false] (fun i => [.d (.agg i.enc)]) (fun i => (i.fit 140737488355328 ∧ kindedF i) ∧ SizeOf.sizeOf i < k) (fun i => [.d (.one (.bool (decide (wayF i))))]) (fun _ => [.gone])
theorem spWay_inj : ∀ i j : F, (fun (i : F) => ([.d (.agg i.enc)] : List AV)) i = (fun (i : F) => ([.d (.agg i.enc)] : List AV)) j → i = j := by
  intro t t' h
  simpa [strs_eq, T.enc_eq, encL_eq, F.enc_eq, encF_eq, Tk.enc_eq, encTk_eq, Gn.enc_eq, ints_eq] using h
theorem spWay_md (k:Nat) : (spWay k).md = [false] := rfl
theorem spWay_pre (k:Nat) (t : F) : (spWay k).pre [.d (.agg t.enc)] = ((t.fit 140737488355328 ∧ kindedF t) ∧ SizeOf.sizeOf t < k) := Spec.of_pre' spWay_inj t
theorem spWay_alts (k:Nat) : (spWay k).alts = none := rfl
theorem spWay_res (k:Nat) (t : F) : (spWay k).res [.d (.agg t.enc)] = [.d (.one (.bool (decide (wayF t))))] := Spec.of_res spWay_inj t
theorem spWay_out (k:Nat) (t : F) : (spWay k).out [.d (.agg t.enc)] = [.gone] := Spec.of_out spWay_inj t
theorem l4Way_sound (k : Nat) (hS : Sound Go.Proofs.Tryd.prog 32 (spWay k)) : Sound Go.Proofs.Tryd.prog 32 (spWay (k + 1)) := by
  refine sound_fam (GOK.cons call_l4Way hS GOK.nil) Go.Proofs.Tryd.func32 (c := Go.Proofs.Tryd.f32.body.getD .skip) rfl (n := 40) rfl chk_l4Way rs_l4Way (fun _ => by simp) ?_ ?_
  · exact spWay_inj
  · rintro t ⟨⟨h1, h2⟩, h4⟩
    obtain ⟨kk, n, s, v, l⟩ := t
    obtain ⟨vk, vn, vs, vks, vl⟩ := v
    simp only [F.fit, kindedF] at h1 h2
    obtain ⟨_, _, f1, f2, f3, f4⟩ := h1
    obtain ⟨g1, g2⟩ := h2
    generalize hv : T.mk vk vn vs vks vl = v at *
    have e3 : SizeOf.sizeOf l < k := by have e : SizeOf.sizeOf (F.mk kk n s v l) < k + 1 := h4
                                        rw [F.mk.sizeOf_spec] at e; omega
    clear h4
    have e6 : v.enc = [.int .i64 vk, .int .i64 vn, .str vs, .row 1 (strs vks), .row 5 (encL vl)] := by rw [← hv]; rfl
    have hF : wayF (F.mk kk n s v l) ↔ ((kk = 1 ∨ kk = 3 ∨ kk = 4 ∨ kk = 5 ∨ kk = 18) ∨ ((kk = 6 ∨ kk = 7) ∧ wayL l 0 ∧ wayL l 1) ∨ (kk = 8 ∧ wayL l 1 ∧ wayL l 2)) := by simp only [wayF]
    have hk2 : kk = 6 ∨ kk = 7 → l.length = 2 := fun h => by
      have : kidsOf kk = 2 := by rcases h with rfl | rfl <;> decide
      omega
    have hk3 : kk = 8 → l.length = 3 := fun h => by
      have : kidsOf kk = 3 := by subst h; decide
      omega
    by_cases hz : 2 ≤ l.length
    · obtain ⟨x0, i0, _, m0⟩ := drop_at (l := l) (i := 0) (by omega)
      obtain ⟨x1, i1, _, m1⟩ := drop_at (l := l) (i := 1) (by omega)
      have a0 := encF_at i0
      have a1 := encF_at i1
      have w0 := wayL_at i0
      have w1 := wayL_at i1
      have l0 := F.enc_len x0
      have l1 := F.enc_len x1
      have s0 := size_mem m0
      have s1 := size_mem m1
      have t0 := fitF_mem f4 x0 m0
      have t1 := fitF_mem f4 x1 m1
      have u0 := kindedL_mem.1 g2 x0 m0
      have u1 := kindedL_mem.1 g2 x1 m1
      have z0 : (0 : Int).toNat = 0 := rfl
      have z1 : (1 : Int).toNat = 1 := rfl
      have z2 : (2 : Int).toNat = 2 := rfl
      by_cases h3 : 3 ≤ l.length
      · obtain ⟨x2, i2, _, m2⟩ := drop_at (l := l) (i := 2) (by omega)
        have a2 := encF_at i2
        have w2 := wayL_at i2
        have l2 := F.enc_len x2
        have s2 := size_mem m2
        have t2 := fitF_mem f4 x2 m2
        have u2 := kindedL_mem.1 g2 x2 m2
        rw [w0, w1, w2] at hF
        simp only [x_l4Way, F.enc, e6, go_sem, seval, rg, z0, z1, z2, a0, a1, a2, l0, l1, l2, spWay_md, spWay_pre, spWay_alts, spWay_res, spWay_out]
        repeat' (first | with_reducible assumption | with_reducible refine And.intro ?_ ?_ | intro _)
        all_goals first | omega | (grind; done) | skip
      · have h8 : (kk = 8) = False := by simp; intro h; have := hk3 h; omega
        rw [w0, w1] at hF
        simp only [x_l4Way, F.enc, e6, go_sem, seval, rg, z0, z1, z2, a0, a1, l0, l1, h8, spWay_md, spWay_pre, spWay_alts, spWay_res, spWay_out]
        repeat' (first | with_reducible assumption | with_reducible refine And.intro ?_ ?_ | intro _)
        all_goals first | omega | (grind; done) | skip
    · have h6 : (kk = 6) = False := by simp; intro h; have := hk2 (.inl h); omega
      have h7 : (kk = 7) = False := by simp; intro h; have := hk2 (.inr h); omega
      have h8 : (kk = 8) = False := by simp; intro h; have := hk3 h; omega
      simp only [x_l4Way, F.enc, e6, go_sem, seval, rg, h6, h7, h8]
      repeat' (first | with_reducible assumption | with_reducible refine And.intro ?_ ?_ | intro _)
      all_goals first | omega | (grind; done) | skip
theorem way_all : ∀ k, Sound Go.Proofs.Tryd.prog 32 (spWay k) := fun k => Nat.rec Sound.none (fun k ih => l4Way_sound k ih) k
/-- As it is asked where there may be none. -/
noncomputable def spWayD : Spec := Spec.of (ι := Option F) [false] (fun i => match i with | some t => [.d (.agg t.enc)] | none => [.d (.agg [])]) (fun i => match i with | some t => t.fit 140737488355328 ∧ kindedF t | none => False) (fun i => match i with | some t => [.d (.one (.bool (decide (wayF t))))] | none => [.d (.one (.bool (decide False)))]) (fun _ => [.gone])
theorem spWayD_inj : ∀ i j : Option F, (fun i : Option F => (match i with | some t => [.d (.agg t.enc)] | none => [.d (.agg [])] : List AV)) i = (fun i : Option F => (match i with | some t => [.d (.agg t.enc)] | none => [.d (.agg [])] : List AV)) j → i = j := by
  intro i j h
  cases i with
  | none =>
    cases j with
    | none => rfl
    | some t => have := congrArg List.length (show [] = t.enc by simpa using h); rw [F.enc_len] at this; simp at this
  | some t =>
    cases j with
    | none => have := congrArg List.length (show t.enc = [] by simpa using h); rw [F.enc_len] at this; simp at this
    | some t' => simpa [F.enc_eq] using h
theorem spWayD_md : spWayD.md = [false] := rfl
theorem spWayD_alts : spWayD.alts = none := rfl
theorem spWayD_pre (t : F) : spWayD.pre [.d (.agg t.enc)] = (t.fit 140737488355328 ∧ kindedF t) := Spec.of_pre' spWayD_inj (some t)
theorem spWayD_res (t : F) : spWayD.res [.d (.agg t.enc)] = [.d (.one (.bool (decide (wayF t))))] := Spec.of_res spWayD_inj (some t)
theorem spWayD_out (t : F) : spWayD.out [.d (.agg t.enc)] = [.gone] := Spec.of_out spWayD_inj (some t)
theorem spWayD_pre0 : spWayD.pre [.d (.agg [])] = False := Spec.of_pre' spWayD_inj none
theorem spWayD_res0 : spWayD.res [.d (.agg [])] = [.d (.one (.bool (decide False)))] := Spec.of_res spWayD_inj none
theorem spWayD_out0 : spWayD.out [.d (.agg [])] = [.gone] := Spec.of_out spWayD_inj none
theorem wayD_sound : Sound Go.Proofs.Tryd.prog 32 spWayD := by
  rintro ds ⟨i, rfl, hi⟩ w S vs fps hG hS hF ha hA
  cases i with
  | none => exact hi.elim
  | some t =>
    have hp : (spWay (SizeOf.sizeOf t + 1)).pre [.d (.agg t.enc)] := by
      rw [spWay_pre]; exact ⟨hi, Nat.lt_succ_self _⟩
    refine (way_all (SizeOf.sizeOf t + 1) [.d (.agg t.enc)] hp w S vs fps hG hS hF ha hA).mono ?_
    rintro e w' ⟨r, o, hro, rest⟩
    obtain ⟨rfl, rfl⟩ := (Spec.may_none rfl).1 hro
    rw [spWay_res, spWay_out] at rest
    exact ⟨_, _, (Spec.may_none rfl).2 ⟨(spWayD_res t).symm, (spWayD_out t).symm⟩, rest⟩
end Go.Proofs.Pw
/- What is a filter that is ok: the specification's functions, the whole. -/
set_option linter.unusedSimpArgs false
set_option maxRecDepth 20000
namespace Go.Proofs.Pw
set_option linter.unusedSectionVars false
variable [Globs]
def x_l4Form : X := (.seq (.reg [⟨some 2, none, .box (.t 0) (some 9)⟩, ⟨some 4, none, .mv (.k (.c (.bool false)))⟩] none [1, 2]) (.seq (.seq (.reg [⟨some 6, none, .mv (.t 1)⟩, ⟨some 7, none, .bin false .lss (.t 6) (.k (.c (.int .i64 1)))⟩, ⟨some 8, none, .mv (.t 7)⟩, ⟨some 9, some (8, false), .fa (.t 2) 0⟩, ⟨some 10, some (8, false), .load (.t 9) none⟩, ⟨some 11, some (8, false), .call 28 [(.t 10)]⟩, ⟨some 12, some (8, false), .fa (.t 2) 8⟩, ⟨some 13, some (8, false), .load (.t 12) none⟩, ⟨some 14, some (8, false), .len (.t 13) false⟩, ⟨some 15, some (8, false), .bin false .neq (.t 11) (.t 14)⟩, ⟨some 16, none, .pick (.t 8) (.k (.c (.bool true))) (.t 15)⟩, ⟨some 17, none, .mv (.t 16)⟩, ⟨some 18, some (17, false), .load (.t 2) (some 9)⟩, ⟨some 19, some (17, false), .call 29 [(.t 18)]⟩, ⟨some 20, some (17, false), .not (.t 19)⟩, ⟨some 21, none, .pick (.t 17) (.k (.c (.bool true))) (.t 20)⟩, ⟨some 22, none, .mv (.t 21)⟩, ⟨some 23, some (22, false), .fa (.t 2) 2⟩, ⟨some 24, some (22, false), .load (.t 23) none⟩, ⟨some 25, some (22, false), .call 30 [(.t 24)]⟩, ⟨some 26, some (22, false), .not (.t 25)⟩, ⟨some 27, none, .pick (.t 22) (.k (.c (.bool true))) (.t 26)⟩, ⟨some 28, none, .mv (.t 27)⟩, ⟨some 29, some (28, false), .fa (.t 2) 1⟩, ⟨some 30, some (28, false), .load (.t 29) none⟩, ⟨some 31, some (28, false), .bin false .lss (.t 30) (.k (.c (.int .i64 (-60))))⟩, ⟨some 32, none, .pick (.t 28) (.k (.c (.bool true))) (.t 31)⟩, ⟨some 33, none, .mv (.t 32)⟩, ⟨some 34, some (33, false), .fa (.t 2) 1⟩, ⟨some 35, some (33, false), .load (.t 34) none⟩, ⟨some 36, some (33, false), .bin false .geq (.t 35) (.k (.c (.int .i64 60)))⟩, ⟨some 37, none, .pick (.t 33) (.k (.c (.bool true))) (.t 36)⟩, ⟨some 38, none, .mv (.t 37)⟩, ⟨some 39, some (38, false), .fa (.t 2) 3⟩, ⟨some 40, some (38, false), .load (.t 39) (some 5)⟩, ⟨some 41, some (38, false), .call 31 [(.t 40)]⟩, ⟨some 42, some (38, false), .not (.t 41)⟩, ⟨some 43, none, .pick (.t 38) (.k (.c (.bool true))) (.t 42)⟩] (some 9) [1, 2, 43]) (.cond (.t 43) (.seq (.reg [⟨some 4, none, .mv (.k (.c (.bool false)))⟩] none [4]) .ret) .skip)) (.seq (.seq (.reg [⟨some 5, none, .mv (.k (.c (.int .i64 0)))⟩] none [1, 2, 5]) (.block 0 (.loop (.seq (.seq (.reg [⟨some 44, none, .mv (.t 5)⟩, ⟨some 45, none, .fa (.t 2) 8⟩, ⟨some 46, none, .load (.t 45) none⟩, ⟨some 47, none, .len (.t 46) false⟩, ⟨some 48, none, .bin false .lss (.t 44) (.t 47)⟩] none [1, 2, 5, 48]) (.cond (.t 48) .skip (.exit 0))) (.seq (.block 1 (.seq (.reg [⟨some 51, none, .fa (.t 2) 8⟩, ⟨some 52, none, .load (.t 51) none⟩, ⟨some 53, none, .mv (.t 5)⟩, ⟨some 54, none, .ia (.t 52) (.t 53) 9⟩, ⟨some 55, none, .load (.t 54) (some 9)⟩, ⟨some 56, none, .mv (.t 1)⟩, ⟨some 57, none, .bin false .sub (.t 56) (.k (.c (.int .i64 1)))⟩, ⟨some 58, none, .call 17 [(.t 55), (.t 57)]⟩, ⟨some 59, none, .not (.t 58)⟩] none [1, 2, 5, 59]) (.cond (.t 59) (.seq (.reg [⟨some 4, none, .mv (.k (.c (.bool false)))⟩] none [4]) .ret) .skip))) (.reg [⟨some 49, none, .mv (.t 5)⟩, ⟨some 50, none, .bin false .add (.t 49) (.k (.c (.int .i64 1)))⟩, ⟨some 5, none, .mv (.t 50)⟩] none [1, 2, 5])))))) (.seq (.reg [⟨some 60, none, .fa (.t 2) 0⟩, ⟨some 61, none, .load (.t 60) none⟩, ⟨some 62, none, .bin false .neq (.t 61) (.k (.c (.int .i64 20)))⟩, ⟨some 63, none, .mv (.t 62)⟩, ⟨some 64, some (63, false), .fa (.t 2) 8⟩, ⟨some 65, some (63, false), .load (.t 64) none⟩, ⟨some 66, some (63, false), .ia (.t 65) (.k (.c (.int .i64 0))) 9⟩, ⟨some 67, some (63, false), .load (.t 66) (some 9)⟩, ⟨some 68, some (63, false), .call 32 [(.t 67)]⟩, ⟨some 69, none, .pick (.t 63) (.k (.c (.bool true))) (.t 68)⟩, ⟨some 4, none, .mv (.t 69)⟩] none [4]) .ret))))
theorem chk_l4Form : chkX Go.Proofs.Tryd.prog 70 (Go.Proofs.Tryd.f17.body.getD .skip) x_l4Form = true := by kernel_rfl
theorem rs_l4Form : okRs Go.Proofs.Tryd.prog Go.Proofs.Tryd.f17.results.toList [.tmp 4] = true := by kernel_rfl
theorem call_l4Form : okCallee Go.Proofs.Tryd.prog 17 = true := by kernel_rfl
def x_l4Many : X := (.seq (.reg [⟨some 2, none, .box (.t 0) (some 9)⟩, ⟨some 4, none, .mv (.k (.c (.int .i64 0)))⟩] none [1, 2]) (.seq (.reg [⟨some 5, none, .mv (.k (.c (.int .i64 1)))⟩] none [1, 2, 5]) (.seq (.seq (.reg [⟨some 6, none, .mv (.k (.c (.int .i64 0)))⟩] none [1, 2, 5, 6]) (.block 0 (.loop (.seq (.seq (.reg [⟨some 7, none, .mv (.t 6)⟩, ⟨some 8, none, .fa (.t 2) 8⟩, ⟨some 9, none, .load (.t 8) none⟩, ⟨some 10, none, .len (.t 9) false⟩, ⟨some 11, none, .bin false .lss (.t 7) (.t 10)⟩, ⟨some 12, none, .mv (.t 11)⟩, ⟨some 13, some (12, true), .mv (.t 1)⟩, ⟨some 14, some (12, true), .bin false .gtr (.t 13) (.k (.c (.int .i64 0)))⟩, ⟨some 15, none, .pick (.t 12) (.t 14) (.k (.c (.bool false)))⟩] none [1, 2, 5, 6, 15]) (.cond (.t 15) .skip (.exit 0))) (.seq (.block 1 (.reg [⟨some 18, none, .mv (.t 5)⟩, ⟨some 19, none, .fa (.t 2) 8⟩, ⟨some 20, none, .load (.t 19) none⟩, ⟨some 21, none, .mv (.t 6)⟩, ⟨some 22, none, .ia (.t 20) (.t 21) 9⟩, ⟨some 23, none, .load (.t 22) (some 9)⟩, ⟨some 24, none, .mv (.t 1)⟩, ⟨some 25, none, .bin false .sub (.t 24) (.k (.c (.int .i64 1)))⟩, ⟨some 26, none, .call 16 [(.t 23), (.t 25)]⟩, ⟨some 27, none, .bin false .add (.t 18) (.t 26)⟩, ⟨some 5, none, .mv (.t 27)⟩] none [1, 2, 5, 6])) (.reg [⟨some 16, none, .mv (.t 6)⟩, ⟨some 17, none, .bin false .add (.t 16) (.k (.c (.int .i64 1)))⟩, ⟨some 6, none, .mv (.t 17)⟩] none [1, 2, 5, 6])))))) (.seq (.reg [⟨some 28, none, .mv (.t 5)⟩, ⟨some 4, none, .mv (.t 28)⟩] none [4]) .ret))))
theorem chk_l4Many : chkX Go.Proofs.Tryd.prog 29 (Go.Proofs.Tryd.f16.body.getD .skip) x_l4Many = true := by kernel_rfl
theorem rs_l4Many : okRs Go.Proofs.Tryd.prog Go.Proofs.Tryd.f16.results.toList [.tmp 4] = true := by kernel_rfl
theorem call_l4Many : okCallee Go.Proofs.Tryd.prog 16 = true := by kernel_rfl
def x_FiltOk : X := (.seq (.reg [⟨some 1, none, .box (.t 0) (some 9)⟩, ⟨some 2, none, .mv (.k (.c (.bool false)))⟩] none [1]) (.seq (.reg [⟨some 3, none, .load (.t 1) (some 9)⟩, ⟨some 4, none, .call 17 [(.t 3), (.k (.c (.int .i64 7)))]⟩, ⟨some 5, none, .mv (.t 4)⟩, ⟨some 6, some (5, true), .load (.t 1) (some 9)⟩, ⟨some 7, some (5, true), .call 16 [(.t 6), (.k (.c (.int .i64 7)))]⟩, ⟨some 8, some (5, true), .bin false .leq (.t 7) (.k (.c (.int .i64 16)))⟩, ⟨some 9, none, .pick (.t 5) (.t 8) (.k (.c (.bool false)))⟩, ⟨some 2, none, .mv (.t 9)⟩] none [2]) .ret))
theorem chk_FiltOk : chkX Go.Proofs.Tryd.prog 10 (Go.Proofs.Tryd.f8.body.getD .skip) x_FiltOk = true := by kernel_rfl
theorem rs_FiltOk : okRs Go.Proofs.Tryd.prog Go.Proofs.Tryd.f8.results.toList [.tmp 2] = true := by kernel_rfl
theorem call_FiltOk : okCallee Go.Proofs.Tryd.prog 8 = true := by kernel_rfl
noncomputable def spFormF (k:Nat) : Spec := Spec.of (ι := F × Int) [false, false] (fun i => [.d (.agg i.1.enc), .d (.one (.int .i64 i.2))]) (fun i => (i.1.fit 140737488355328 ∧ smallF i.1 ∧ -1 ≤ i.2 ∧ i.2 ≤ 1000) ∧ SizeOf.sizeOf i.1 < k) (fun i => [.d (.one (.bool (decide (formF i.1 i.2))))]) (fun _ => [.gone, .gone])
theorem spFormF_inj : ∀ i j : F × Int, (fun (i : F × Int) => ([.d (.agg i.1.enc), .d (.one (.int .i64 i.2))] : List AV)) i = (fun (i : F × Int) => ([.d (.agg i.1.enc), .d (.one (.int .i64 i.2))] : List AV)) j → i = j := by
  rintro ⟨t, d⟩ ⟨t', d'⟩ h
  simp only [Prod.mk.injEq]
  simpa [strs_eq, T.enc_eq, encL_eq, F.enc_eq, encF_eq, Tk.enc_eq, encTk_eq, Gn.enc_eq, ints_eq] using h
theorem spFormF_md (k:Nat) : (spFormF k).md = [false, false] := rfl
theorem spFormF_pre (k:Nat) (t : F) (d : Int) : (spFormF k).pre [.d (.agg t.enc), .d (.one (.int .i64 d))] = ((t.fit 140737488355328 ∧ smallF t ∧ -1 ≤ d ∧ d ≤ 1000) ∧ SizeOf.sizeOf t < k) := Spec.of_pre' spFormF_inj (t, d)
theorem spFormF_alts (k:Nat) : (spFormF k).alts = none := rfl
theorem spFormF_res (k:Nat) (t : F) (d : Int) : (spFormF k).res [.d (.agg t.enc), .d (.one (.int .i64 d))] = [.d (.one (.bool (decide (formF t d))))] := Spec.of_res spFormF_inj (t, d)
theorem spFormF_out (k:Nat) (t : F) (d : Int) : (spFormF k).out [.d (.agg t.enc), .d (.one (.int .i64 d))] = [.gone, .gone] := Spec.of_out spFormF_inj (t, d)
set_option maxHeartbeats 1000000 in
theorem l4Form_sound (k : Nat) (hS : Sound Go.Proofs.Tryd.prog 17 (spFormF k)) : Sound Go.Proofs.Tryd.prog 17 (spFormF (k + 1)) := by
  refine sound_fam (GOK.cons (l := [(29, spClean), (32, spWayD), (30, spOkS), (31, spOkT), (17, spFormF k)]) call_l4Kids l4Kids_sound (GOK.cons call_l4Clean l4Clean_sound (GOK.cons call_l4Way wayD_sound (GOK.cons call_l1Str l1Str_sound (GOK.cons call_ValOk sOkT_sound (GOK.cons call_l4Form hS GOK.nil)))))) Go.Proofs.Tryd.func17 (c := Go.Proofs.Tryd.f17.body.getD .skip) rfl (n := 70) rfl chk_l4Form rs_l4Form (fun _ => by simp) ?_ ?_
  · exact spFormF_inj
  · rintro ⟨t, d⟩ ⟨⟨h1, h2, h3, h3'⟩, h4⟩
    obtain ⟨kk, n, s, v, l⟩ := t
    have hfull := h1
    obtain ⟨vk, vn, vs, vks, vl⟩ := v
    simp only [F.fit, smallF] at h1 h2
    obtain ⟨_, _, f1, f2, f3, f4⟩ := h1
    obtain ⟨g1, g2⟩ := h2
    simp only at h3 h3'
    generalize hv : T.mk vk vn vs vks vl = v at *
    have e3 : SizeOf.sizeOf l < k := by have e : SizeOf.sizeOf (F.mk kk n s v l) < k + 1 := h4
                                        rw [F.mk.sizeOf_spec] at e; omega
    clear h4
    have e6 : v.enc = [.int .i64 vk, .int .i64 vn, .str vs, .row 1 (strs vks), .row 5 (encL vl)] := by rw [← hv]; rfl
    have hF : formF (F.mk kk n s v l) d ↔ (1 ≤ d ∧ kidsOf kk = l.length ∧ cleanQ (F.mk kk n s v l) ∧ okS s ∧ -60 ≤ n ∧ n < 60 ∧ okT v ∧ formFL l (d - 1) ∧ (kk = 20 → wayL l 0)) := by simp only [formF, cleanQ]
    have p1 := spOkT_pre v
    have p2 := spOkT_res v
    have p3 := spOkT_out v
    have c1 := spClean_pre (F.mk kk n s v l)
    have c2 := spClean_res (F.mk kk n s v l)
    have c3 := spClean_out (F.mk kk n s v l)
    rw [e6] at p1 p2 p3
    simp only [F.enc, e6, List.cons_append, List.nil_append] at c1 c2 c3
    have hlen : (l.length : Int) ≤ 140737488355328 := f3
    simp only [x_l4Form, F.enc, e6, go_sem, seval, rg, spOkT_md, spOkT_alts, p1, p2, p3, spClean_md, spClean_alts, c1, c2, c3, spKids_md, spKids_pre, spKids_alts, spKids_res, spKids_out, spOkS_md, spOkS_pre, spOkS_alts, spOkS_res, spOkS_out]
    repeat' (first | with_reducible assumption | with_reducible refine And.intro ?_ ?_ | intro _)
    all_goals first | omega | (grind; done) | skip
    have hb : formF (F.mk kk n s v l) d ↔ (formFL l (d - 1) ∧ (kk = 20 → wayL l 0)) := by grind
    have hk : kk = 20 → l.length = 2 := fun h => by
      have e : kidsOf kk = 2 := by subst h; decide
      have : kidsOf kk = l.length := by grind
      omega
    have hd : 1 ≤ d := by omega
    clear hF c1 c2 c3 p1 p2 p3 hfull
    repeat (rename_i hx; clear hx)
    refine pw_loop (ι := Nat) (fun i => l.length - i) (fun i => i ≤ l.length ∧ ∀ t ∈ l.take i, formF t (d - 1))
      (fun i => ⟨[(1, .q (.c (.int .i64 d))), (2, .q (.box 2 0)), (5, .q (.c (.int .i64 i)))], [(2, [.c (.int .i64 kk), .c (.int .i64 n), .c (.str s), .c (.int .i64 vk), .c (.int .i64 vn), .c (.str vs), .c (.row 1 (strs vks)), .c (.row 5 (encL vl)), .c (.row 9 (encF l))])], []⟩) 0 ⟨Nat.zero_le _, by simp⟩ (Le.refl _) ?_
    rintro i ⟨hi, hall⟩
    rcases Nat.lt_or_ge i l.length with hlt | hge
    · obtain ⟨t, ht, _, hmem⟩ := drop_at hlt
      have a1 := encF_at ht
      have a2 : ((i : Int) < (l.length : Int)) = True := by simp; omega
      have a3 := fitF_mem f4 t hmem
      have a4 := size_mem hmem
      have a5 := smallFL_mem.1 g2 t hmem
      have a6 := F.enc_len t
      simp only [go_sem, seval, rg, a1, a2, a6, spFormF_md, spFormF_pre, spFormF_alts, spFormF_res, spFormF_out]
      repeat' (first | with_reducible assumption | with_reducible refine And.intro ?_ ?_ | intro _)
      all_goals first | omega | skip
      · rename_i hc ho
        exact hc (formFL_mem.1 (hb.1 ho).1 t hmem)
      · rename_i hc _
        refine ⟨i + 1, ⟨by omega, fun y hy => ?_⟩, by omega, Le.refl _⟩
        rw [List.take_add_one, ht] at hy
        rcases List.mem_append.1 hy with hy | hy
        · exact hall y hy
        · simp at hy; subst hy; exact Classical.not_not.1 hc
    · have a2 : ((i : Int) < (l.length : Int)) = False := by simp; omega
      rw [List.take_of_length_le hge] at hall
      have hfl := formFL_mem.2 hall
      have z0 : (0 : Int).toNat = 0 := rfl
      cases l with
      | nil =>
        have h20 : (kk = 20) = False := by simp; intro h; have := hk h; simp at this
        simp only [go_sem, seval, rg, a2, z0, encF, h20, spWayD_md, spWayD_alts, spWayD_pre0, spWayD_res0, spWayD_out0]
        repeat' (first | with_reducible assumption | with_reducible refine And.intro ?_ ?_ | intro _)
        all_goals first | omega | (grind; done) | skip
      | cons x r =>
        have a6 := F.enc_len x
        have a7 := fitF_mem f4 x (by simp)
        have a8 := formF_kinded (hall x (by simp))
        have a9 : wayL (x :: r) 0 = wayF x := by simp [wayL]
        rw [a9] at hb
        simp only [go_sem, seval, rg, a2, z0, encF, a6, spWayD_md, spWayD_pre, spWayD_alts, spWayD_res, spWayD_out]
        repeat' (first | with_reducible assumption | with_reducible refine And.intro ?_ ?_ | intro _)
        all_goals first | omega | (grind; done) | skip
theorem formF_all : ∀ k, Sound Go.Proofs.Tryd.prog 17 (spFormF k) := fun k => Nat.rec Sound.none (fun k ih => l4Form_sound k ih) k
noncomputable def spManyF (k:Nat) : Spec := Spec.of (ι := F × Int) [false, false] (fun i => [.d (.agg i.1.enc), .d (.one (.int .i64 i.2))]) (fun i => (i.1.fit 140737488355328 ∧ sizeF i.1 ≤ 1048577 ∧ -1 ≤ i.2 ∧ i.2 ≤ 1000) ∧ SizeOf.sizeOf i.1 < k) (fun i => [.d (.one (.int .i64 (manyF i.1 i.2)))]) (fun _ => [.gone, .gone])
theorem spManyF_inj : ∀ i j : F × Int, (fun (i : F × Int) => ([.d (.agg i.1.enc), .d (.one (.int .i64 i.2))] : List AV)) i = (fun (i : F × Int) => ([.d (.agg i.1.enc), .d (.one (.int .i64 i.2))] : List AV)) j → i = j := by
  rintro ⟨t, d⟩ ⟨t', d'⟩ h
  simp only [Prod.mk.injEq]
  simpa [strs_eq, T.enc_eq, encL_eq, F.enc_eq, encF_eq, Tk.enc_eq, encTk_eq, Gn.enc_eq, ints_eq] using h
theorem spManyF_md (k:Nat) : (spManyF k).md = [false, false] := rfl
theorem spManyF_pre (k:Nat) (t : F) (d : Int) : (spManyF k).pre [.d (.agg t.enc), .d (.one (.int .i64 d))] = ((t.fit 140737488355328 ∧ sizeF t ≤ 1048577 ∧ -1 ≤ d ∧ d ≤ 1000) ∧ SizeOf.sizeOf t < k) := Spec.of_pre' spManyF_inj (t, d)
theorem spManyF_alts (k:Nat) : (spManyF k).alts = none := rfl
theorem spManyF_res (k:Nat) (t : F) (d : Int) : (spManyF k).res [.d (.agg t.enc), .d (.one (.int .i64 d))] = [.d (.one (.int .i64 (manyF t d)))] := Spec.of_res spManyF_inj (t, d)
theorem spManyF_out (k:Nat) (t : F) (d : Int) : (spManyF k).out [.d (.agg t.enc), .d (.one (.int .i64 d))] = [.gone, .gone] := Spec.of_out spManyF_inj (t, d)
theorem l4Many_sound (k : Nat) (hS : Sound Go.Proofs.Tryd.prog 16 (spManyF k)) : Sound Go.Proofs.Tryd.prog 16 (spManyF (k + 1)) := by
  refine sound_fam (GOK.cons call_l4Many hS GOK.nil) Go.Proofs.Tryd.func16 (c := Go.Proofs.Tryd.f16.body.getD .skip) rfl (n := 29) rfl chk_l4Many rs_l4Many (fun _ => by simp) ?_ ?_
  · exact spManyF_inj
  · rintro ⟨t, d⟩ ⟨⟨h1, h2, h3, h3'⟩, h4⟩
    obtain ⟨kk, n, s, v, l⟩ := t
    obtain ⟨vk, vn, vs, vks, vl⟩ := v
    simp only [F.fit, lenB] at h1
    obtain ⟨_, _, f1, f2, f3, f4⟩ := h1
    generalize hv : T.mk vk vn vs vks vl = v at *
    have e3 : SizeOf.sizeOf l < k := by have e : SizeOf.sizeOf (F.mk kk n s v l) < k + 1 := h4
                                        rw [F.mk.sizeOf_spec] at e; omega
    clear h4
    have e6 : v.enc = [.int .i64 vk, .int .i64 vn, .str vs, .row 1 (strs vks), .row 5 (encL vl)] := by rw [← hv]; rfl
    simp only [sizeF] at h2 h3 h3'
    simp only [x_l4Many, F.enc, e6, go_sem, seval, rg, manyF]
    refine pw_loop (ι := Nat × Int) (fun i => l.length - i.1) (fun i => i.1 ≤ l.length ∧ 1 ≤ i.2 ∧ i.2 + manyFL (l.drop i.1) d = 1 + manyFL l d ∧ i.2 + sizeFL (l.drop i.1) ≤ 1 + sizeFL l)
      (fun i => ⟨[(1, .q (.c (.int .i64 d))), (2, .q (.box 2 0)), (5, .q (.c (.int .i64 i.2))), (6, .q (.c (.int .i64 i.1)))], [(2, [.c (.int .i64 kk), .c (.int .i64 n), .c (.str s), .c (.int .i64 vk), .c (.int .i64 vn), .c (.str vs), .c (.row 1 (strs vks)), .c (.row 5 (encL vl)), .c (.row 9 (encF l))])], []⟩) (0, 1) ⟨Nat.zero_le _, by simp, by simp, by simp⟩ (Le.refl _) ?_
    rintro ⟨i, m⟩ ⟨hi, hm, hsum, hsz⟩
    simp only at hi hm hsum hsz
    have hz := fun l => manyFL_le l d
    rcases Nat.lt_or_ge i l.length with hlt | hge
    · obtain ⟨t, ht, hdr, hmem⟩ := drop_at hlt
      have a1 := encF_at ht
      have a2 : ((i : Int) < (l.length : Int)) = True := by simp; omega
      have a3 := fitF_mem f4 t hmem
      have a4 := size_mem hmem
      have a5 := sizeFL_at ht
      have a6 := F.enc_len t
      have a7 := manyF_le t (d - 1)
      have a8 := hz (l.drop (i + 1))
      rw [hdr] at hsum hsz
      simp only [manyFL, sizeFL] at hsum hsz
      simp only [go_sem, seval, rg, a1, a2, a6, spManyF_md, spManyF_pre, spManyF_alts, spManyF_res, spManyF_out]
      repeat' (first | with_reducible assumption | with_reducible refine And.intro ?_ ?_ | intro _)
      all_goals first | omega | skip
      rename_i hd _ _
      rw [if_pos (by omega)] at hsum
      exact ⟨(i + 1, m + manyF t (d - 1)), ⟨by simp only; omega, by simp only; omega, by simp only; omega, by simp only; omega⟩, by simp only; omega, Le.refl _⟩
    · have a2 : ((i : Int) < (l.length : Int)) = False := by simp; omega
      rw [List.drop_eq_nil_of_le hge] at hsum
      simp only [manyFL] at hsum
      simp only [go_sem, seval, rg, a2]
      repeat' (first | with_reducible assumption | with_reducible refine And.intro ?_ ?_ | intro _)
      all_goals first | omega | skip
theorem manyF_all : ∀ k, Sound Go.Proofs.Tryd.prog 16 (spManyF k) := fun k => Nat.rec Sound.none (fun k ih => l4Many_sound k ih) k
noncomputable def spFormFV  : Spec := Spec.of (ι := F × Int) [false, false] (fun i => [.d (.agg i.1.enc), .d (.one (.int .i64 i.2))]) (fun i => i.1.fit 140737488355328 ∧ smallF i.1 ∧ -1 ≤ i.2 ∧ i.2 ≤ 1000) (fun i => [.d (.one (.bool (decide (formF i.1 i.2))))]) (fun _ => [.gone, .gone])
theorem spFormFV_inj : ∀ i j : F × Int, (fun (i : F × Int) => ([.d (.agg i.1.enc), .d (.one (.int .i64 i.2))] : List AV)) i = (fun (i : F × Int) => ([.d (.agg i.1.enc), .d (.one (.int .i64 i.2))] : List AV)) j → i = j := by
  rintro ⟨t, d⟩ ⟨t', d'⟩ h
  simp only [Prod.mk.injEq]
  simpa [strs_eq, T.enc_eq, encL_eq, F.enc_eq, encF_eq, Tk.enc_eq, encTk_eq, Gn.enc_eq, ints_eq] using h
theorem spFormFV_md  : (spFormFV).md = [false, false] := rfl
theorem spFormFV_pre  (t : F) (d : Int) : (spFormFV).pre [.d (.agg t.enc), .d (.one (.int .i64 d))] = (t.fit 140737488355328 ∧ smallF t ∧ -1 ≤ d ∧ d ≤ 1000) := Spec.of_pre' spFormFV_inj (t, d)
theorem spFormFV_alts  : (spFormFV).alts = none := rfl
theorem spFormFV_res  (t : F) (d : Int) : (spFormFV).res [.d (.agg t.enc), .d (.one (.int .i64 d))] = [.d (.one (.bool (decide (formF t d))))] := Spec.of_res spFormFV_inj (t, d)
theorem spFormFV_out  (t : F) (d : Int) : (spFormFV).out [.d (.agg t.enc), .d (.one (.int .i64 d))] = [.gone, .gone] := Spec.of_out spFormFV_inj (t, d)
noncomputable def spManyFV  : Spec := Spec.of (ι := F × Int) [false, false] (fun i => [.d (.agg i.1.enc), .d (.one (.int .i64 i.2))]) (fun i => i.1.fit 140737488355328 ∧ sizeF i.1 ≤ 1048577 ∧ -1 ≤ i.2 ∧ i.2 ≤ 1000) (fun i => [.d (.one (.int .i64 (manyF i.1 i.2)))]) (fun _ => [.gone, .gone])
theorem spManyFV_inj : ∀ i j : F × Int, (fun (i : F × Int) => ([.d (.agg i.1.enc), .d (.one (.int .i64 i.2))] : List AV)) i = (fun (i : F × Int) => ([.d (.agg i.1.enc), .d (.one (.int .i64 i.2))] : List AV)) j → i = j := by
  rintro ⟨t, d⟩ ⟨t', d'⟩ h
  simp only [Prod.mk.injEq]
  simpa [strs_eq, T.enc_eq, encL_eq, F.enc_eq, encF_eq, Tk.enc_eq, encTk_eq, Gn.enc_eq, ints_eq] using h
theorem spManyFV_md  : (spManyFV).md = [false, false] := rfl
theorem spManyFV_pre  (t : F) (d : Int) : (spManyFV).pre [.d (.agg t.enc), .d (.one (.int .i64 d))] = (t.fit 140737488355328 ∧ sizeF t ≤ 1048577 ∧ -1 ≤ d ∧ d ≤ 1000) := Spec.of_pre' spManyFV_inj (t, d)
theorem spManyFV_alts  : (spManyFV).alts = none := rfl
theorem spManyFV_res  (t : F) (d : Int) : (spManyFV).res [.d (.agg t.enc), .d (.one (.int .i64 d))] = [.d (.one (.int .i64 (manyF t d)))] := Spec.of_res spManyFV_inj (t, d)
theorem spManyFV_out  (t : F) (d : Int) : (spManyFV).out [.d (.agg t.enc), .d (.one (.int .i64 d))] = [.gone, .gone] := Spec.of_out spManyFV_inj (t, d)
theorem formFV_sound : Sound Go.Proofs.Tryd.prog 17 spFormFV := Sound.all (μ := fun i => SizeOf.sizeOf i.1) formF_all
theorem manyFV_sound : Sound Go.Proofs.Tryd.prog 16 spManyFV := Sound.all (μ := fun i => SizeOf.sizeOf i.1) manyF_all
noncomputable def spOkF  : Spec := Spec.of (ι := F) [false] (fun i => [.d (.agg i.enc)]) (fun i => i.fit 140737488355328 ∧ smallF i ∧ sizeF i ≤ 1048577) (fun i => [.d (.one (.bool (decide (okF i))))]) (fun _ => [.gone])
theorem spOkF_inj : ∀ i j : F, (fun (i : F) => ([.d (.agg i.enc)] : List AV)) i = (fun (i : F) => ([.d (.agg i.enc)] : List AV)) j → i = j := by
  intro t t' h
  simpa [strs_eq, T.enc_eq, encL_eq, F.enc_eq, encF_eq, Tk.enc_eq, encTk_eq, Gn.enc_eq, ints_eq] using h
theorem spOkF_md  : (spOkF).md = [false] := rfl
theorem spOkF_pre  (t : F) : (spOkF).pre [.d (.agg t.enc)] = (t.fit 140737488355328 ∧ smallF t ∧ sizeF t ≤ 1048577) := Spec.of_pre' spOkF_inj t
theorem spOkF_alts  : (spOkF).alts = none := rfl
theorem spOkF_res  (t : F) : (spOkF).res [.d (.agg t.enc)] = [.d (.one (.bool (decide (okF t))))] := Spec.of_res spOkF_inj t
theorem spOkF_out  (t : F) : (spOkF).out [.d (.agg t.enc)] = [.gone] := Spec.of_out spOkF_inj t
theorem sOkF_sound : Sound Go.Proofs.Tryd.prog 8 spOkF := by
  refine sound_fam (GOK.cons (l := [(16, spManyFV)]) call_l4Form formFV_sound (GOK.cons call_l4Many manyFV_sound GOK.nil)) Go.Proofs.Tryd.func8 (c := Go.Proofs.Tryd.f8.body.getD .skip) rfl (n := 10) rfl chk_FiltOk rs_FiltOk (fun _ => by simp) ?_ ?_
  · exact spOkF_inj
  · rintro t ⟨h1, h2, h3⟩
    have a6 := F.enc_len t
    simp only [x_FiltOk, go_sem, seval, rg, a6, spFormFV_md, spFormFV_pre, spFormFV_alts, spFormFV_res, spFormFV_out, spManyFV_md, spManyFV_pre, spManyFV_alts, spManyFV_res, spManyFV_out]
    repeat' (first | with_reducible assumption | with_reducible refine And.intro ?_ ?_ | intro _)
    all_goals first | omega | skip
    exact decide_eq_decide.2 Iff.rfl
end Go.Proofs.Pw
/- Drawing: filters. -/
set_option linter.unusedSimpArgs false
set_option maxRecDepth 20000
namespace Go.Proofs.Pw
set_option linter.unusedSectionVars false
variable [Globs]
def x_l4Leaf : X := (.seq (.reg [⟨some 2, none, .alloc [(.c (.int .i64 0)), (.c (.int .i64 0)), (.c (.str ⟨#[]⟩)), (.c (.int .i64 0)), (.c (.int .i64 0)), (.c (.str ⟨#[]⟩)), (.z 1), (.z 5), (.z 9)]⟩] none [0, 2]) (.seq (.seq (.reg [⟨some 3, none, .mv (.t 0)⟩, ⟨some 4, none, .callr 24 [(.t 3), (.k (.c (.int .i64 10)))]⟩] none [0, 2, 4]) (.block 0 (.seq (.seq (.reg [⟨some 6, none, .bin false .eql (.t 4) (.k (.c (.int .i64 0)))⟩, ⟨some 5, none, .mv (.t 6)⟩] none [0, 2, 4, 5]) (.cond (.t 5) .skip (.reg [⟨some 7, none, .bin false .eql (.t 4) (.k (.c (.int .i64 1)))⟩, ⟨some 5, none, .mv (.t 7)⟩] none [0, 2, 4, 5]))) (.cond (.t 5) (.seq (.reg [⟨some 8, none, .mv (.t 0)⟩, ⟨some 9, none, .mv (.t 0)⟩, ⟨some 10, none, .callr 24 [(.t 9), (.k (.c (.int .i64 2)))]⟩, ⟨some 11, none, .bin false .add (.k (.c (.int .i64 1))) (.t 10)⟩, ⟨some 12, none, .callr 51 [(.t 8), (.t 11)]⟩, ⟨some 13, none, .build [(.c (.int .i64 0)), (.c (.int .i64 0)), (.c (.str ⟨#[]⟩)), (.c (.int .i64 0)), (.c (.int .i64 0)), (.c (.str ⟨#[]⟩)), (.z 1), (.z 5), (.z 9)] [(0, (.k (.c (.int .i64 2))), none), (3, (.t 12), (some 5))]⟩, ⟨none, none, .st (.t 2) (.t 13) (some 9)⟩] none [2]) .ret) (.seq (.seq (.reg [⟨some 15, none, .bin false .eql (.t 4) (.k (.c (.int .i64 2)))⟩, ⟨some 14, none, .mv (.t 15)⟩] none [0, 2, 4, 14]) (.cond (.t 14) .skip (.reg [⟨some 16, none, .bin false .eql (.t 4) (.k (.c (.int .i64 3)))⟩, ⟨some 14, none, .mv (.t 16)⟩] none [0, 2, 4, 14]))) (.cond (.t 14) (.seq (.reg [⟨some 17, none, .mv (.t 0)⟩, ⟨some 18, none, .bsl 1 [((.k (.c (.str ⟨#[97]⟩))), none), ((.k (.c (.str ⟨#[98]⟩))), none), ((.k (.c (.str ⟨#[99]⟩))), none), ((.k (.c (.str ⟨#[97]⟩))), none)]⟩, ⟨some 19, none, .callr 26 [(.t 17), (.t 18)]⟩, ⟨some 20, none, .build [(.c (.int .i64 0)), (.c (.int .i64 0)), (.c (.str ⟨#[]⟩)), (.c (.int .i64 0)), (.c (.int .i64 0)), (.c (.str ⟨#[]⟩)), (.z 1), (.z 5), (.z 9)] [(0, (.k (.c (.int .i64 3))), none), (2, (.t 19), none)]⟩, ⟨none, none, .st (.t 2) (.t 20) (some 9)⟩] none [2]) .ret) (.seq (.reg [⟨some 22, none, .bin false .eql (.t 4) (.k (.c (.int .i64 4)))⟩, ⟨some 21, none, .mv (.t 22)⟩] none [0, 2, 4, 21]) (.cond (.t 21) (.seq (.reg [⟨some 23, none, .mv (.t 0)⟩, ⟨some 24, none, .bsl 1 [((.k (.c (.int .i64 0))), none), ((.k (.c (.int .i64 1))), none), ((.k (.c (.int .i64 (-1)))), none), ((.k (.c (.int .i64 2))), none)]⟩, ⟨some 25, none, .callr 25 [(.t 23), (.t 24)]⟩, ⟨some 26, none, .build [(.c (.int .i64 0)), (.c (.int .i64 0)), (.c (.str ⟨#[]⟩)), (.c (.int .i64 0)), (.c (.int .i64 0)), (.c (.str ⟨#[]⟩)), (.z 1), (.z 5), (.z 9)] [(0, (.k (.c (.int .i64 4))), none), (1, (.t 25), none)]⟩, ⟨none, none, .st (.t 2) (.t 26) (some 9)⟩] none [2]) .ret) (.seq (.seq (.reg [⟨some 28, none, .bin false .eql (.t 4) (.k (.c (.int .i64 5)))⟩, ⟨some 27, none, .mv (.t 28)⟩] none [0, 2, 4, 27]) (.cond (.t 27) .skip (.reg [⟨some 29, none, .bin false .eql (.t 4) (.k (.c (.int .i64 6)))⟩, ⟨some 27, none, .mv (.t 29)⟩] none [0, 2, 4, 27]))) (.cond (.t 27) (.seq (.reg [⟨some 30, none, .build [(.c (.int .i64 0)), (.c (.int .i64 0)), (.c (.str ⟨#[]⟩)), (.c (.int .i64 0)), (.c (.int .i64 0)), (.c (.str ⟨#[]⟩)), (.z 1), (.z 5), (.z 9)] [(0, (.k (.c (.int .i64 5))), none)]⟩, ⟨none, none, .st (.t 2) (.t 30) (some 9)⟩] none [2]) .ret) (.seq (.reg [⟨some 32, none, .bin false .eql (.t 4) (.k (.c (.int .i64 7)))⟩, ⟨some 31, none, .mv (.t 32)⟩] none [0, 2, 31]) (.cond (.t 31) (.seq (.reg [⟨some 33, none, .mv (.t 0)⟩, ⟨some 34, none, .bsl 1 [((.k (.c (.int .i64 13))), none), ((.k (.c (.int .i64 14))), none), ((.k (.c (.int .i64 15))), none), ((.k (.c (.int .i64 18))), none), ((.k (.c (.int .i64 19))), none)]⟩, ⟨some 35, none, .callr 25 [(.t 33), (.t 34)]⟩, ⟨some 36, none, .build [(.c (.int .i64 0)), (.c (.int .i64 0)), (.c (.str ⟨#[]⟩)), (.c (.int .i64 0)), (.c (.int .i64 0)), (.c (.str ⟨#[]⟩)), (.z 1), (.z 5), (.z 9)] [(0, (.t 35), none)]⟩, ⟨none, none, .st (.t 2) (.t 36) (some 9)⟩] none [2]) .ret) .skip)))))))))))) (.seq (.reg [⟨some 37, none, .build [(.c (.int .i64 0)), (.c (.int .i64 0)), (.c (.str ⟨#[]⟩)), (.c (.int .i64 0)), (.c (.int .i64 0)), (.c (.str ⟨#[]⟩)), (.z 1), (.z 5), (.z 9)] [(0, (.k (.c (.int .i64 1))), none)]⟩, ⟨none, none, .st (.t 2) (.t 37) (some 9)⟩] none [2]) .ret)))
theorem chk_l4Leaf : chkX Go.Proofs.Tryd.prog 38 (Go.Proofs.Tryd.f43.body.getD .skip) x_l4Leaf = true := by kernel_rfl
theorem rs_l4Leaf : okRs Go.Proofs.Tryd.prog Go.Proofs.Tryd.f43.results.toList [.cell 2 (some 9)] = true := by kernel_rfl
theorem call_l4Leaf : okCallee Go.Proofs.Tryd.prog 43 = true := by kernel_rfl
def x_l4Look : X := (.seq (.reg [⟨some 4, none, .alloc [(.c (.int .i64 0)), (.c (.int .i64 0)), (.c (.str ⟨#[]⟩)), (.c (.int .i64 0)), (.c (.int .i64 0)), (.c (.str ⟨#[]⟩)), (.z 1), (.z 5), (.z 9)]⟩] none [0, 1, 4]) (.seq (.seq (.reg [⟨some 5, none, .mv (.t 1)⟩, ⟨some 6, none, .bin false .leq (.t 5) (.k (.c (.int .i64 1)))⟩, ⟨some 7, none, .mv (.t 6)⟩, ⟨some 8, some (7, false), .mv (.t 0)⟩, ⟨some 9, some (7, false), .callr 24 [(.t 8), (.k (.c (.int .i64 3)))]⟩, ⟨some 10, some (7, false), .bin false .eql (.t 9) (.k (.c (.int .i64 0)))⟩, ⟨some 11, none, .pick (.t 7) (.k (.c (.bool true))) (.t 10)⟩] none [0, 1, 4, 11]) (.cond (.t 11) (.seq (.seq (.reg [⟨some 12, none, .mv (.t 0)⟩, ⟨some 13, none, .callr 24 [(.t 12), (.k (.c (.int .i64 5)))]⟩] none [0, 4, 13]) (.block 0 (.seq (.reg [⟨some 15, none, .bin false .eql (.t 13) (.k (.c (.int .i64 0)))⟩, ⟨some 14, none, .mv (.t 15)⟩] none [0, 4, 13, 14]) (.cond (.t 14) (.seq (.reg [⟨some 16, none, .build [(.c (.int .i64 0)), (.c (.int .i64 0)), (.c (.str ⟨#[]⟩)), (.c (.int .i64 0)), (.c (.int .i64 0)), (.c (.str ⟨#[]⟩)), (.z 1), (.z 5), (.z 9)] [(0, (.k (.c (.int .i64 1))), none)]⟩, ⟨none, none, .st (.t 4) (.t 16) (some 9)⟩] none [4]) .ret) (.seq (.seq (.reg [⟨some 18, none, .bin false .eql (.t 13) (.k (.c (.int .i64 1)))⟩, ⟨some 17, none, .mv (.t 18)⟩] none [0, 4, 13, 17]) (.cond (.t 17) .skip (.reg [⟨some 19, none, .bin false .eql (.t 13) (.k (.c (.int .i64 2)))⟩, ⟨some 17, none, .mv (.t 19)⟩] none [0, 4, 13, 17]))) (.cond (.t 17) (.seq (.reg [⟨some 20, none, .build [(.c (.int .i64 0)), (.c (.int .i64 0)), (.c (.str ⟨#[]⟩)), (.c (.int .i64 0)), (.c (.int .i64 0)), (.c (.str ⟨#[]⟩)), (.z 1), (.z 5), (.z 9)] [(0, (.k (.c (.int .i64 5))), none)]⟩, ⟨none, none, .st (.t 4) (.t 20) (some 9)⟩] none [4]) .ret) (.seq (.reg [⟨some 22, none, .bin false .eql (.t 13) (.k (.c (.int .i64 3)))⟩, ⟨some 21, none, .mv (.t 22)⟩] none [0, 4, 21]) (.cond (.t 21) (.seq (.reg [⟨some 23, none, .mv (.t 0)⟩, ⟨some 24, none, .bsl 1 [((.k (.c (.int .i64 0))), none), ((.k (.c (.int .i64 1))), none), ((.k (.c (.int .i64 (-1)))), none)]⟩, ⟨some 25, none, .callr 25 [(.t 23), (.t 24)]⟩, ⟨some 26, none, .build [(.c (.int .i64 0)), (.c (.int .i64 0)), (.c (.str ⟨#[]⟩)), (.c (.int .i64 0)), (.c (.int .i64 0)), (.c (.str ⟨#[]⟩)), (.z 1), (.z 5), (.z 9)] [(0, (.k (.c (.int .i64 4))), none), (1, (.t 25), none)]⟩, ⟨none, none, .st (.t 4) (.t 26) (some 9)⟩] none [4]) .ret) .skip)))))))) (.seq (.reg [⟨some 27, none, .mv (.t 0)⟩, ⟨some 28, none, .bsl 1 [((.k (.c (.str ⟨#[97]⟩))), none), ((.k (.c (.str ⟨#[98]⟩))), none), ((.k (.c (.str ⟨#[99]⟩))), none)]⟩, ⟨some 29, none, .callr 26 [(.t 27), (.t 28)]⟩, ⟨some 30, none, .build [(.c (.int .i64 0)), (.c (.int .i64 0)), (.c (.str ⟨#[]⟩)), (.c (.int .i64 0)), (.c (.int .i64 0)), (.c (.str ⟨#[]⟩)), (.z 1), (.z 5), (.z 9)] [(0, (.k (.c (.int .i64 3))), none), (2, (.t 29), none)]⟩, ⟨none, none, .st (.t 4) (.t 30) (some 9)⟩] none [4]) .ret)) .skip)) (.seq (.seq (.reg [⟨some 31, none, .mv (.t 0)⟩, ⟨some 32, none, .callr 24 [(.t 31), (.k (.c (.int .i64 5)))]⟩] none [0, 1, 4, 32]) (.block 1 (.seq (.reg [⟨some 34, none, .bin false .eql (.t 32) (.k (.c (.int .i64 0)))⟩, ⟨some 33, none, .mv (.t 34)⟩] none [0, 1, 4, 32, 33]) (.cond (.t 33) (.seq (.reg [⟨some 35, none, .mv (.t 0)⟩, ⟨some 36, none, .mv (.t 1)⟩, ⟨some 37, none, .bin false .sub (.t 36) (.k (.c (.int .i64 1)))⟩, ⟨some 38, none, .callr 50 [(.t 35), (.t 37)]⟩, ⟨some 39, none, .mv (.t 0)⟩, ⟨some 40, none, .mv (.t 1)⟩, ⟨some 41, none, .bin false .sub (.t 40) (.k (.c (.int .i64 1)))⟩, ⟨some 42, none, .callr 50 [(.t 39), (.t 41)]⟩, ⟨some 43, none, .bsl 9 [((.t 38), (some 9)), ((.t 42), (some 9))]⟩, ⟨some 44, none, .build [(.c (.int .i64 0)), (.c (.int .i64 0)), (.c (.str ⟨#[]⟩)), (.c (.int .i64 0)), (.c (.int .i64 0)), (.c (.str ⟨#[]⟩)), (.z 1), (.z 5), (.z 9)] [(0, (.k (.c (.int .i64 7))), none), (8, (.t 43), none)]⟩, ⟨none, none, .st (.t 4) (.t 44) (some 9)⟩] none [4]) .ret) (.seq (.reg [⟨some 46, none, .bin false .eql (.t 32) (.k (.c (.int .i64 1)))⟩, ⟨some 45, none, .mv (.t 46)⟩] none [0, 1, 4, 45]) (.cond (.t 45) (.seq (.reg [⟨some 47, none, .mv (.t 0)⟩, ⟨some 48, none, .mv (.t 1)⟩, ⟨some 49, none, .bin false .sub (.t 48) (.k (.c (.int .i64 1)))⟩, ⟨some 50, none, .callr 42 [(.t 47), (.t 49)]⟩, ⟨some 51, none, .mv (.t 0)⟩, ⟨some 52, none, .mv (.t 1)⟩, ⟨some 53, none, .bin false .sub (.t 52) (.k (.c (.int .i64 1)))⟩, ⟨some 54, none, .callr 50 [(.t 51), (.t 53)]⟩, ⟨some 55, none, .mv (.t 0)⟩, ⟨some 56, none, .mv (.t 1)⟩, ⟨some 57, none, .bin false .sub (.t 56) (.k (.c (.int .i64 1)))⟩, ⟨some 58, none, .callr 50 [(.t 55), (.t 57)]⟩, ⟨some 59, none, .bsl 9 [((.t 50), (some 9)), ((.t 54), (some 9)), ((.t 58), (some 9))]⟩, ⟨some 60, none, .build [(.c (.int .i64 0)), (.c (.int .i64 0)), (.c (.str ⟨#[]⟩)), (.c (.int .i64 0)), (.c (.int .i64 0)), (.c (.str ⟨#[]⟩)), (.z 1), (.z 5), (.z 9)] [(0, (.k (.c (.int .i64 8))), none), (8, (.t 59), none)]⟩, ⟨none, none, .st (.t 4) (.t 60) (some 9)⟩] none [4]) .ret) .skip)))))) (.seq (.reg [⟨some 61, none, .mv (.t 0)⟩, ⟨some 62, none, .mv (.t 1)⟩, ⟨some 63, none, .bin false .sub (.t 62) (.k (.c (.int .i64 1)))⟩, ⟨some 64, none, .callr 50 [(.t 61), (.t 63)]⟩, ⟨some 65, none, .mv (.t 0)⟩, ⟨some 66, none, .mv (.t 1)⟩, ⟨some 67, none, .bin false .sub (.t 66) (.k (.c (.int .i64 1)))⟩, ⟨some 68, none, .callr 50 [(.t 65), (.t 67)]⟩, ⟨some 69, none, .bsl 9 [((.t 64), (some 9)), ((.t 68), (some 9))]⟩, ⟨some 70, none, .build [(.c (.int .i64 0)), (.c (.int .i64 0)), (.c (.str ⟨#[]⟩)), (.c (.int .i64 0)), (.c (.int .i64 0)), (.c (.str ⟨#[]⟩)), (.z 1), (.z 5), (.z 9)] [(0, (.k (.c (.int .i64 6))), none), (8, (.t 69), none)]⟩, ⟨none, none, .st (.t 4) (.t 70) (some 9)⟩] none [4]) .ret))))
theorem chk_l4Look : chkX Go.Proofs.Tryd.prog 71 (Go.Proofs.Tryd.f50.body.getD .skip) x_l4Look = true := by kernel_rfl
theorem rs_l4Look : okRs Go.Proofs.Tryd.prog Go.Proofs.Tryd.f50.results.toList [.cell 4 (some 9)] = true := by kernel_rfl
theorem call_l4Look : okCallee Go.Proofs.Tryd.prog 50 = true := by kernel_rfl
def x_l4Filt : X := (.seq (.reg [⟨some 4, none, .alloc [(.c (.int .i64 0)), (.c (.int .i64 0)), (.c (.str ⟨#[]⟩)), (.c (.int .i64 0)), (.c (.int .i64 0)), (.c (.str ⟨#[]⟩)), (.z 1), (.z 5), (.z 9)]⟩] none [0, 1, 4]) (.seq (.seq (.reg [⟨some 7, none, .mv (.t 1)⟩, ⟨some 8, none, .bin false .leq (.t 7) (.k (.c (.int .i64 1)))⟩, ⟨some 9, none, .mv (.t 8)⟩, ⟨some 10, some (9, false), .mv (.t 0)⟩, ⟨some 11, some (9, false), .callr 24 [(.t 10), (.k (.c (.int .i64 4)))]⟩, ⟨some 12, some (9, false), .bin false .eql (.t 11) (.k (.c (.int .i64 0)))⟩, ⟨some 13, none, .pick (.t 9) (.k (.c (.bool true))) (.t 12)⟩] none [0, 1, 4, 13]) (.cond (.t 13) (.seq (.reg [⟨some 14, none, .mv (.t 0)⟩, ⟨some 15, none, .callr 43 [(.t 14)]⟩, ⟨none, none, .st (.t 4) (.t 15) (some 9)⟩] none [4]) .ret) .skip)) (.seq (.reg [⟨some 16, none, .mv (.t 0)⟩, ⟨some 17, none, .bsl 1 [((.k (.c (.int .i64 6))), none), ((.k (.c (.int .i64 6))), none), ((.k (.c (.int .i64 6))), none), ((.k (.c (.int .i64 7))), none), ((.k (.c (.int .i64 7))), none), ((.k (.c (.int .i64 8))), none), ((.k (.c (.int .i64 9))), none), ((.k (.c (.int .i64 9))), none), ((.k (.c (.int .i64 10))), none), ((.k (.c (.int .i64 11))), none), ((.k (.c (.int .i64 12))), none), ((.k (.c (.int .i64 12))), none), ((.k (.c (.int .i64 16))), none), ((.k (.c (.int .i64 17))), none), ((.k (.c (.int .i64 20))), none), ((.k (.c (.int .i64 21))), none)]⟩, ⟨some 18, none, .callr 25 [(.t 16), (.t 17)]⟩, ⟨some 19, none, .build [(.c (.int .i64 0)), (.c (.int .i64 0)), (.c (.str ⟨#[]⟩)), (.c (.int .i64 0)), (.c (.int .i64 0)), (.c (.str ⟨#[]⟩)), (.z 1), (.z 5), (.z 9)] [(0, (.t 18), none)]⟩, ⟨some 5, none, .alloc [(.c (.int .i64 0)), (.c (.int .i64 0)), (.c (.str ⟨#[]⟩)), (.c (.int .i64 0)), (.c (.int .i64 0)), (.c (.str ⟨#[]⟩)), (.z 1), (.z 5), (.z 9)]⟩, ⟨none, none, .st (.t 5) (.t 19) (some 9)⟩] none [0, 1, 4, 5]) (.seq (.seq (.reg [⟨some 20, none, .fa (.t 5) 0⟩, ⟨some 21, none, .load (.t 20) none⟩, ⟨some 22, none, .bin false .eql (.t 21) (.k (.c (.int .i64 21)))⟩] none [0, 1, 4, 5, 22]) (.cond (.t 22) (.reg [⟨some 23, none, .mv (.t 0)⟩, ⟨some 24, none, .bsl 1 [((.k (.c (.str ⟨#[97]⟩))), none), ((.k (.c (.str ⟨#[98]⟩))), none), ((.k (.c (.str ⟨#[122]⟩))), none)]⟩, ⟨some 25, none, .callr 26 [(.t 23), (.t 24)]⟩, ⟨some 26, none, .fa (.t 5) 2⟩, ⟨none, none, .st (.t 26) (.t 25) none⟩] none [0, 1, 4, 5]) .skip)) (.seq (.seq (.reg [⟨some 6, none, .mv (.k (.c (.int .i64 0)))⟩] none [0, 1, 4, 5, 6]) (.block 0 (.loop (.seq (.seq (.reg [⟨some 27, none, .mv (.t 6)⟩, ⟨some 28, none, .fa (.t 5) 0⟩, ⟨some 29, none, .load (.t 28) none⟩, ⟨some 30, none, .call 28 [(.t 29)]⟩, ⟨some 31, none, .bin false .lss (.t 27) (.t 30)⟩] none [0, 1, 4, 5, 6, 31]) (.cond (.t 31) .skip (.exit 0))) (.seq (.block 1 (.seq (.reg [⟨some 34, none, .fa (.t 5) 0⟩, ⟨some 35, none, .load (.t 34) none⟩, ⟨some 36, none, .bin false .eql (.t 35) (.k (.c (.int .i64 20)))⟩, ⟨some 37, none, .mv (.t 36)⟩, ⟨some 38, some (37, true), .mv (.t 6)⟩, ⟨some 39, some (37, true), .bin false .eql (.t 38) (.k (.c (.int .i64 0)))⟩, ⟨some 40, none, .pick (.t 37) (.t 39) (.k (.c (.bool false)))⟩] none [0, 1, 4, 5, 6, 40]) (.cond (.t 40) (.mix [⟨some 41, none, .fa (.t 5) 8⟩, ⟨some 42, none, .load (.t 41) none⟩, ⟨some 43, none, .mv (.t 0)⟩, ⟨some 44, none, .mv (.t 1)⟩, ⟨some 45, none, .bin false .sub (.t 44) (.k (.c (.int .i64 1)))⟩, ⟨some 46, none, .callr 50 [(.t 43), (.t 45)]⟩, ⟨some 47, none, .bsl 9 [((.t 46), (some 9))]⟩] [⟨some 48, none, .app (.t 42) (.t 47) 9 136 []⟩, ⟨some 49, none, .fa (.t 5) 8⟩, ⟨none, none, .st (.t 49) (.t 48) none⟩] [[], [], [], [], [], [1], []] [0, 1, 4, 5, 6]) (.mix [⟨some 50, none, .fa (.t 5) 8⟩, ⟨some 51, none, .load (.t 50) none⟩, ⟨some 52, none, .mv (.t 0)⟩, ⟨some 53, none, .mv (.t 1)⟩, ⟨some 54, none, .bin false .sub (.t 53) (.k (.c (.int .i64 1)))⟩, ⟨some 55, none, .callr 42 [(.t 52), (.t 54)]⟩, ⟨some 56, none, .bsl 9 [((.t 55), (some 9))]⟩] [⟨some 57, none, .app (.t 51) (.t 56) 9 136 []⟩, ⟨some 58, none, .fa (.t 5) 8⟩, ⟨none, none, .st (.t 58) (.t 57) none⟩] [[], [], [], [], [], [1], []] [0, 1, 4, 5, 6])))) (.reg [⟨some 32, none, .mv (.t 6)⟩, ⟨some 33, none, .bin false .add (.t 32) (.k (.c (.int .i64 1)))⟩, ⟨some 6, none, .mv (.t 33)⟩] none [0, 1, 4, 5, 6])))))) (.seq (.reg [⟨some 59, none, .load (.t 5) (some 9)⟩, ⟨none, none, .st (.t 4) (.t 59) (some 9)⟩] none [4]) .ret))))))
theorem chk_l4Filt : chkX Go.Proofs.Tryd.prog 60 (Go.Proofs.Tryd.f42.body.getD .skip) x_l4Filt = true := by kernel_rfl
theorem rs_l4Filt : okRs Go.Proofs.Tryd.prog Go.Proofs.Tryd.f42.results.toList [.cell 4 (some 9)] = true := by kernel_rfl
theorem call_l4Filt : okCallee Go.Proofs.Tryd.prog 42 = true := by kernel_rfl
theorem ints4 (a b c d : Int) : C.row 1 [[C.int .i64 a], [C.int .i64 b], [C.int .i64 c], [C.int .i64 d]] = C.row 1 (ints .i64 [a, b, c, d]) := rfl
theorem ints16 (a b c d e f g h i j k l m n o p : Int) : C.row 1 [[C.int .i64 a], [C.int .i64 b], [C.int .i64 c], [C.int .i64 d], [C.int .i64 e], [C.int .i64 f], [C.int .i64 g], [C.int .i64 h], [C.int .i64 i], [C.int .i64 j], [C.int .i64 k], [C.int .i64 l], [C.int .i64 m], [C.int .i64 n], [C.int .i64 o], [C.int .i64 p]] = C.row 1 (ints .i64 [a, b, c, d, e, f, g, h, i, j, k, l, m, n, o, p]) := rfl
abbrev DrI := Int × Int × ByteArray × Int × Int × ByteArray × List ByteArray × List T × List F × Int
def DrI.f (i : DrI) : F := .mk i.1 i.2.1 i.2.2.1 (.mk i.2.2.2.1 i.2.2.2.2.1 i.2.2.2.2.2.1 i.2.2.2.2.2.2.1 i.2.2.2.2.2.2.2.1) i.2.2.2.2.2.2.2.2.1
def spLeafF  : Spec := Spec.ofR (ι := (List Int) × Int) (κ := Int × Int × ByteArray × Int × Int × ByteArray × (List ByteArray) × (List T) × (List Pw.F) × Int) [true] (fun i => [.ref (rdC i.1 i.2)]) (fun i => byt i.1 ∧ 0 ≤ i.2 ∧ i.2 ≤ 1099511627776 - 1000) (fun i k => drF 1 (Pw.F.mk k.1 k.2.1 k.2.2.1 (.mk k.2.2.2.1 k.2.2.2.2.1 k.2.2.2.2.2.1 k.2.2.2.2.2.2.1 k.2.2.2.2.2.2.2.1) k.2.2.2.2.2.2.2.2.1) ∧ i.2 ≤ k.2.2.2.2.2.2.2.2.2 ∧ k.2.2.2.2.2.2.2.2.2 ≤ i.2 + 1000) (fun i k => [.d (.agg (Pw.F.mk k.1 k.2.1 k.2.2.1 (.mk k.2.2.2.1 k.2.2.2.2.1 k.2.2.2.2.2.1 k.2.2.2.2.2.2.1 k.2.2.2.2.2.2.2.1) k.2.2.2.2.2.2.2.2.1).enc)]) (fun i k => [.ref (rdC i.1 k.2.2.2.2.2.2.2.2.2)])
theorem spLeafF_inj : ∀ i j : (List Int) × Int, (fun (i : (List Int) × Int) => ([.ref (rdC i.1 i.2)] : List AV)) i = (fun (i : (List Int) × Int) => ([.ref (rdC i.1 i.2)] : List AV)) j → i = j := by
  rintro ⟨bs, p⟩ ⟨bs', p'⟩ h
  simp only [Prod.mk.injEq]
  simpa [strs_eq, T.enc_eq, encL_eq, F.enc_eq, encF_eq, Tk.enc_eq, encTk_eq, Gn.enc_eq, ints_eq, rdC_eq, and_assoc] using h
theorem spLeafF_md  : (spLeafF).md = [true] := rfl
theorem spLeafF_pre  (bs : List Int) (p : Int) : (spLeafF).pre [.ref (rdC bs p)] = (byt bs ∧ 0 ≤ p ∧ p ≤ 1099511627776 - 1000) := Spec.ofR_pre spLeafF_inj (bs, p)
theorem spLeafF_ne0  (bs : List Int) (p : Int) : (spLeafF).ne [.ref (rdC bs p)] = (∃ k : Int × Int × ByteArray × Int × Int × ByteArray × (List ByteArray) × (List T) × (List Pw.F) × Int, drF 1 (Pw.F.mk k.1 k.2.1 k.2.2.1 (.mk k.2.2.2.1 k.2.2.2.2.1 k.2.2.2.2.2.1 k.2.2.2.2.2.2.1 k.2.2.2.2.2.2.2.1) k.2.2.2.2.2.2.2.2.1) ∧ p ≤ k.2.2.2.2.2.2.2.2.2 ∧ k.2.2.2.2.2.2.2.2.2 ≤ p + 1000) := Spec.ofR_ne spLeafF_inj (bs, p)
theorem spLeafF_all  (bs : List Int) (p : Int) (F : List AV → List AV → Prop) : (spLeafF).all [.ref (rdC bs p)] F = (∀ (k : Int) (n : Int) (s : ByteArray) (vk : Int) (vn : Int) (vs : ByteArray) (vks : List ByteArray) (vl : List T) (l : List Pw.F) (q : Int), (drF 1 (Pw.F.mk k n s (.mk vk vn vs vks vl) l) ∧ p ≤ q ∧ q ≤ p + 1000) → F [.d (.agg (Pw.F.mk k n s (.mk vk vn vs vks vl) l).enc)] [.ref (rdC bs q)]) := by
  refine (Spec.ofR_all spLeafF_inj (bs, p) F).trans (propext ⟨fun h k n s vk vn vs vks vl l q hr => h (k, n, s, vk, vn, vs, vks, vl, l, q) hr, fun h k hr => ?_⟩)
  exact h k.1 k.2.1 k.2.2.1 k.2.2.2.1 k.2.2.2.2.1 k.2.2.2.2.2.1 k.2.2.2.2.2.2.1 k.2.2.2.2.2.2.2.1 k.2.2.2.2.2.2.2.2.1 k.2.2.2.2.2.2.2.2.2 hr
theorem drEx {M A m : Int} {bs : List Int} {p q k n vk vn : Int} {s vs : ByteArray} {vks : List ByteArray} {vl : List T} {l : List F} {K L R : List (List C)} (hK : strs vks = K) (hL : encL vl = L) (hR : encF l = R) (h : drF m (F.mk k n s (T.mk vk vn vs vks vl) l)) (hm : m ≤ M) (hq : p ≤ q ∧ q ≤ p + A) : ∃ i : DrI,
    (drF M (F.mk i.1 i.2.1 i.2.2.1 (T.mk i.2.2.2.1 i.2.2.2.2.1 i.2.2.2.2.2.1 i.2.2.2.2.2.2.1 i.2.2.2.2.2.2.2.1) i.2.2.2.2.2.2.2.2.1) ∧ p ≤ i.2.2.2.2.2.2.2.2.2 ∧ i.2.2.2.2.2.2.2.2.2 ≤ p + A) ∧
    (F.mk i.1 i.2.1 i.2.2.1 (T.mk i.2.2.2.1 i.2.2.2.2.1 i.2.2.2.2.2.1 i.2.2.2.2.2.2.1 i.2.2.2.2.2.2.2.1) i.2.2.2.2.2.2.2.2.1).enc = [C.int .i64 k, C.int .i64 n, C.str s, C.int .i64 vk, C.int .i64 vn, C.str vs, C.row 1 K, C.row 5 L, C.row 9 R] ∧ rdC bs q = rdC bs i.2.2.2.2.2.2.2.2.2 := by
  subst hK hL hR
  exact ⟨(k, n, s, vk, vn, vs, vks, vl, l, q), ⟨h.mono hm, hq⟩, rfl, rfl⟩
theorem leafZ {k n : Int} {s : ByteArray} (hk : i64 k) (hn : i64 n ∧ -1000 ≤ n ∧ n ≤ 1000) (hs : (s.size : Int) ≤ 1000) : drF 1 (.mk k n s (.mk 0 0 ⟨#[]⟩ [] []) []) := drF_leaf hk hn hs zero_dr.1 (by have := zero_dr.2; show sizeT T.zero ≤ _; omega)
theorem spLeafF_ne (bs : List Int) (p : Int) : spLeafF.ne [.ref (rdC bs p)] = True := by
  rw [spLeafF_ne0]
  exact eq_true ⟨(0, 0, ⟨#[]⟩, 0, 0, ⟨#[]⟩, [], [], [], p), drF_leaf (k := 0) (n := 0) (s := ⟨#[]⟩) (v := T.zero) (by unfold i64; omega) (by unfold i64; omega) (by decide) zero_dr.1 (by rw [zero_dr.2]; omega), Int.le_refl _, by show p ≤ p + 1000; omega⟩
set_option maxHeartbeats 2000000 in
theorem l4Leaf_sound : Sound Go.Proofs.Tryd.prog 43 spLeafF := by
  refine sound_famR (GOK.cons (l := [(26, spDof), (25, spDnum), (51, spValF.weak)]) call_pick pick_sound (GOK.cons (l := [(25, spDnum), (51, spValF.weak)]) call_dof dof_sound (GOK.cons (l := [(51, spValF.weak)]) call_dnum dnum_sound (GOK.cons call_l1Val (l1Val_all.weak valF_weakable) GOK.nil)))) Go.Proofs.Tryd.func43 (c := Go.Proofs.Tryd.f43.body.getD .skip) rfl (n := 38) rfl chk_l4Leaf rs_l4Leaf (fun _ => by simp) ?_
  · rintro ⟨bs, p⟩ ⟨hb, h1, h2⟩
    change byt bs at hb
    simp only at h1 h2
    have hl : ∀ m : Int, (0 ≤ m ∧ m < 2) → vb (1 + m).toNat ≤ 620 := fun m hm => by
      have : m = 0 ∨ m = 1 := by omega
      rcases this with rfl | rfl <;> decide
    simp only [x_l4Leaf, rg, go_sem, seval, Prod.fst, strs4, ints4, ints5, spPick_md, spPick_pre, spPick_ne, ↓spPick_all, spPick_all, spDof_md, spDof_pre, spDof_ne, ↓spDof_all, spDof_all, spDnum_md, spDnum_pre, spDnum_ne, ↓spDnum_all, spDnum_all, weak_md, weak_pre, weak_ne, ↓weak_all, AV.weak, Pt.toC, spValF_md, spValF_pre, spValF_ne, ↓spValF_all, spValF_all]
    repeat' (first | with_reducible assumption | with_reducible refine And.intro ?_ ?_ | intro _)
    all_goals first | omega | skip
    all_goals try
      have hl' := hl _ (by assumption)
      omega
    all_goals first
      | exact drEx (vks := []) (vl := []) (l := []) rfl rfl rfl (leafZ (by unfold i64; omega) (by unfold i64; omega) (by decide)) (Int.le_refl _) (by omega)
      | (rename_i k n s ks l q hd
         have hl' := hl _ (by assumption)
         exact drEx (l := []) rfl rfl rfl (drF_leaf (by unfold i64; omega) (by unfold i64; omega) (by decide) hd.1.1 (by have := hd.1.2.1; omega)) (Int.le_refl _) (by omega))
      | (rename_i hx
         simp only [List.mem_cons, List.not_mem_nil, or_false] at hx
         exact drEx (vks := []) (vl := []) (l := []) rfl rfl rfl (leafZ (by unfold i64; omega) (by unfold i64; omega) (by first | decide | (rcases hx with rfl | rfl | rfl | rfl <;> decide))) (Int.le_refl _) (by omega))
      | skip
def spLookF (m:Nat) : Spec := Spec.ofR (ι := (List Int) × Int × Int) (κ := Int × Int × ByteArray × Int × Int × ByteArray × (List ByteArray) × (List T) × (List Pw.F) × Int) [true, false] (fun i => [.ref (rdC i.1 i.2.1), .d (.one (.int .i64 i.2.2))]) (fun i => (byt i.1 ∧ 0 ≤ i.2.1 ∧ i.2.1 + fb i.2.2.toNat ≤ 1099511627776 ∧ -1 ≤ i.2.2 ∧ i.2.2 ≤ 5) ∧ i.2.2.toNat < m) (fun i k => drF (fb i.2.2.toNat) (Pw.F.mk k.1 k.2.1 k.2.2.1 (.mk k.2.2.2.1 k.2.2.2.2.1 k.2.2.2.2.2.1 k.2.2.2.2.2.2.1 k.2.2.2.2.2.2.2.1) k.2.2.2.2.2.2.2.2.1) ∧ i.2.1 ≤ k.2.2.2.2.2.2.2.2.2 ∧ k.2.2.2.2.2.2.2.2.2 ≤ i.2.1 + fb i.2.2.toNat) (fun i k => [.d (.agg (Pw.F.mk k.1 k.2.1 k.2.2.1 (.mk k.2.2.2.1 k.2.2.2.2.1 k.2.2.2.2.2.1 k.2.2.2.2.2.2.1 k.2.2.2.2.2.2.2.1) k.2.2.2.2.2.2.2.2.1).enc)]) (fun i k => [.ref (rdC i.1 k.2.2.2.2.2.2.2.2.2), .gone])
theorem spLookF_inj : ∀ i j : (List Int) × Int × Int, (fun (i : (List Int) × Int × Int) => ([.ref (rdC i.1 i.2.1), .d (.one (.int .i64 i.2.2))] : List AV)) i = (fun (i : (List Int) × Int × Int) => ([.ref (rdC i.1 i.2.1), .d (.one (.int .i64 i.2.2))] : List AV)) j → i = j := by
  rintro ⟨bs, p, d⟩ ⟨bs', p', d'⟩ h
  simp only [Prod.mk.injEq]
  simpa [strs_eq, T.enc_eq, encL_eq, F.enc_eq, encF_eq, Tk.enc_eq, encTk_eq, Gn.enc_eq, ints_eq, rdC_eq, and_assoc] using h
theorem spLookF_md (m:Nat) : (spLookF m).md = [true, false] := rfl
theorem spLookF_pre (m:Nat) (bs : List Int) (p : Int) (d : Int) : (spLookF m).pre [.ref (rdC bs p), .d (.one (.int .i64 d))] = ((byt bs ∧ 0 ≤ p ∧ p + fb d.toNat ≤ 1099511627776 ∧ -1 ≤ d ∧ d ≤ 5) ∧ d.toNat < m) := Spec.ofR_pre spLookF_inj (bs, p, d)
theorem spLookF_ne0 (m:Nat) (bs : List Int) (p : Int) (d : Int) : (spLookF m).ne [.ref (rdC bs p), .d (.one (.int .i64 d))] = (∃ k : Int × Int × ByteArray × Int × Int × ByteArray × (List ByteArray) × (List T) × (List Pw.F) × Int, drF (fb d.toNat) (Pw.F.mk k.1 k.2.1 k.2.2.1 (.mk k.2.2.2.1 k.2.2.2.2.1 k.2.2.2.2.2.1 k.2.2.2.2.2.2.1 k.2.2.2.2.2.2.2.1) k.2.2.2.2.2.2.2.2.1) ∧ p ≤ k.2.2.2.2.2.2.2.2.2 ∧ k.2.2.2.2.2.2.2.2.2 ≤ p + fb d.toNat) := Spec.ofR_ne spLookF_inj (bs, p, d)
theorem spLookF_all (m:Nat) (bs : List Int) (p : Int) (d : Int) (F : List AV → List AV → Prop) : (spLookF m).all [.ref (rdC bs p), .d (.one (.int .i64 d))] F = (∀ (k : Int) (n : Int) (s : ByteArray) (vk : Int) (vn : Int) (vs : ByteArray) (vks : List ByteArray) (vl : List T) (l : List Pw.F) (q : Int), (drF (fb d.toNat) (Pw.F.mk k n s (.mk vk vn vs vks vl) l) ∧ p ≤ q ∧ q ≤ p + fb d.toNat) → F [.d (.agg (Pw.F.mk k n s (.mk vk vn vs vks vl) l).enc)] [.ref (rdC bs q), .gone]) := by
  refine (Spec.ofR_all spLookF_inj (bs, p, d) F).trans (propext ⟨fun h k n s vk vn vs vks vl l q hr => h (k, n, s, vk, vn, vs, vks, vl, l, q) hr, fun h k hr => ?_⟩)
  exact h k.1 k.2.1 k.2.2.1 k.2.2.2.1 k.2.2.2.2.1 k.2.2.2.2.2.1 k.2.2.2.2.2.2.1 k.2.2.2.2.2.2.2.1 k.2.2.2.2.2.2.2.2.1 k.2.2.2.2.2.2.2.2.2 hr
theorem spLookF_ne (m : Nat) (bs : List Int) (p d : Int) : (spLookF m).ne [.ref (rdC bs p), .d (.one (.int .i64 d))] = True := by
  rw [spLookF_ne0]
  have := fb_pos d.toNat
  exact eq_true ⟨(0, 0, ⟨#[]⟩, 0, 0, ⟨#[]⟩, [], [], [], p), (leafZ (k := 0) (n := 0) (s := ⟨#[]⟩) (by unfold i64; omega) (by unfold i64; omega) (by decide)).mono (by omega), Int.le_refl _, by show p ≤ p + fb d.toNat; omega⟩
theorem two_dr {a b : F} {A B m k n : Int} {s : ByteArray} (ha : drF A a) (hb : drF B b) (hk : i64 k) (hn : i64 n ∧ -1000 ≤ n ∧ n ≤ 1000) (hs : (s.size : Int) ≤ 1000) (hm : 1 + (A + B) ≤ m) : drF m (.mk k n s (.mk 0 0 ⟨#[]⟩ [] []) [a, b]) :=
  drF_mk hk hn hs zero_dr.1 (by have := zero_dr.2; show sizeT T.zero ≤ _; omega) (by simp) ⟨ha.1, hb.1, trivial⟩ (by simp only [smallFL]; exact ⟨ha.2.1, hb.2.1, trivial⟩) (by have := ha.2.2; have := hb.2.2; simp only [sizeFL]; omega)
theorem three_dr {a b c : F} {A B D m k n : Int} {s : ByteArray} (ha : drF A a) (hb : drF B b) (hc : drF D c) (hk : i64 k) (hn : i64 n ∧ -1000 ≤ n ∧ n ≤ 1000) (hs : (s.size : Int) ≤ 1000) (hm : 1 + (A + B + D) ≤ m) : drF m (.mk k n s (.mk 0 0 ⟨#[]⟩ [] []) [a, b, c]) :=
  drF_mk hk hn hs zero_dr.1 (by have := zero_dr.2; show sizeT T.zero ≤ _; omega) (by simp) ⟨ha.1, hb.1, hc.1, trivial⟩ (by simp only [smallFL]; exact ⟨ha.2.1, hb.2.1, hc.2.1, trivial⟩) (by have := ha.2.2; have := hb.2.2; have := hc.2.2; simp only [sizeFL]; omega)
set_option maxHeartbeats 4000000 in
theorem l4Look_sound (m : Nat) (hL : Sound Go.Proofs.Tryd.prog 50 (spLookF m)) (hF : Sound Go.Proofs.Tryd.prog 42 (spLookF m)) : Sound Go.Proofs.Tryd.prog 50 (spLookF (m + 1)) := by
  refine sound_famR (GOK.cons (l := [(26, spDof), (25, spDnum), (50, spLookF m), (42, spLookF m)]) call_pick pick_sound (GOK.cons (l := [(25, spDnum), (50, spLookF m), (42, spLookF m)]) call_dof dof_sound (GOK.cons (l := [(50, spLookF m), (42, spLookF m)]) call_dnum dnum_sound (GOK.cons (l := [(42, spLookF m)]) call_l4Look hL (GOK.cons call_l4Filt hF GOK.nil))))) Go.Proofs.Tryd.func50 (c := Go.Proofs.Tryd.f50.body.getD .skip) rfl (n := 71) rfl chk_l4Look rs_l4Look (fun _ => by simp) ?_
  · rintro ⟨bs, p, d⟩ ⟨⟨hb, h1, h2, h3, h4⟩, h5⟩
    change byt bs at hb
    simp only at h1 h2 h3 h4 h5
    have hv := fb_pos d.toNat
    by_cases c1 : d ≤ 1
    · have a1 : (d ≤ 1) = True := eq_true c1
      simp only [x_l4Look, rg, go_sem, seval, Prod.fst, a1, strs3, ints3, spPick_md, spPick_pre, spPick_ne, ↓spPick_all, spPick_all, spDof_md, spDof_pre, spDof_ne, ↓spDof_all, spDof_all, spDnum_md, spDnum_pre, spDnum_ne, ↓spDnum_all, spDnum_all]
      repeat' (first | with_reducible assumption | with_reducible refine And.intro ?_ ?_ | intro _)
      all_goals first | omega | skip
      all_goals first
        | exact drEx (vks := []) (vl := []) (l := []) rfl rfl rfl (leafZ (by unfold i64; omega) (by unfold i64; omega) (by decide)) (by omega) (by omega)
        | (rename_i hx
           simp only [List.mem_cons, List.not_mem_nil, or_false] at hx
           exact drEx (vks := []) (vl := []) (l := []) rfl rfl rfl (leafZ (by unfold i64; omega) (by unfold i64; omega) (by first | decide | (rcases hx with rfl | rfl | rfl <;> decide))) (by omega) (by omega))
        | skip
    · have a1 : (d ≤ 1) = False := eq_false c1
      obtain ⟨e, he⟩ : ∃ e, d.toNat = e + 1 := ⟨d.toNat - 1, by omega⟩
      have he' : (d - 1).toNat = e := by omega
      have hfd : fb d.toNat = 1100 + 3 * fb e := by rw [he]; rfl
      have hv2 := fb_pos e
      rw [hfd] at h2 hv
      rw [he] at h5
      simp only [x_l4Look, rg, go_sem, seval, Prod.fst, a1, strs3, ints3, F.enc_len, spPick_md, spPick_pre, spPick_ne, ↓spPick_all, spPick_all, spDof_md, spDof_pre, spDof_ne, ↓spDof_all, spDof_all, spDnum_md, spDnum_pre, spDnum_ne, ↓spDnum_all, spDnum_all, spLookF_md, spLookF_pre, spLookF_ne, ↓spLookF_all, spLookF_all, he']
      rw [hfd]
      repeat' (first | with_reducible assumption | with_reducible refine And.intro ?_ ?_ | intro _)
      all_goals first | omega | skip
      all_goals first
        | exact drEx (vks := []) (vl := []) (l := []) rfl rfl rfl (leafZ (by unfold i64; omega) (by unfold i64; omega) (by decide)) (by omega) (by omega)
        | (rename_i hx
           simp only [List.mem_cons, List.not_mem_nil, or_false] at hx
           exact drEx (vks := []) (vl := []) (l := []) rfl rfl rfl (leafZ (by unfold i64; omega) (by unfold i64; omega) (by first | decide | (rcases hx with rfl | rfl | rfl <;> decide))) (by omega) (by omega))
        | skip
      all_goals first
        | (rename_i hd0 _ _ _ _ _ _ _ _ _ _ _ hd1 _ _ _ _ _ _ _ _ _ _ _ hd2
           exact drEx (vks := []) (vl := []) (l := [_, _, _]) rfl rfl rfl (three_dr hd0.1 hd1.1 hd2.1 (by unfold i64; omega) (by unfold i64; omega) (by decide) (by omega)) (Int.le_refl _) (by omega))
        | (rename_i hd1 _ _ _ _ _ _ _ _ _ _ _ hd2
           exact drEx (vks := []) (vl := []) (l := [_, _]) rfl rfl rfl (two_dr hd1.1 hd2.1 (by unfold i64; omega) (by unfold i64; omega) (by decide) (by omega)) (Int.le_refl _) (by omega))
set_option maxHeartbeats 4000000 in
theorem l4Filt_sound (m : Nat) (hL : Sound Go.Proofs.Tryd.prog 50 (spLookF m)) (hF : Sound Go.Proofs.Tryd.prog 42 (spLookF m)) : Sound Go.Proofs.Tryd.prog 42 (spLookF (m + 1)) := by
  refine sound_famR (GOK.cons (l := [(26, spDof), (25, spDnum), (28, spKids), (43, spLeafF), (50, spLookF m), (42, spLookF m)]) call_pick pick_sound (GOK.cons (l := [(25, spDnum), (28, spKids), (43, spLeafF), (50, spLookF m), (42, spLookF m)]) call_dof dof_sound (GOK.cons (l := [(28, spKids), (43, spLeafF), (50, spLookF m), (42, spLookF m)]) call_dnum dnum_sound (GOK.cons (l := [(43, spLeafF), (50, spLookF m), (42, spLookF m)]) call_l4Kids l4Kids_sound (GOK.cons (l := [(50, spLookF m), (42, spLookF m)]) call_l4Leaf l4Leaf_sound (GOK.cons (l := [(42, spLookF m)]) call_l4Look hL (GOK.cons call_l4Filt hF GOK.nil))))))) Go.Proofs.Tryd.func42 (c := Go.Proofs.Tryd.f42.body.getD .skip) rfl (n := 60) rfl chk_l4Filt rs_l4Filt (fun _ => by simp) ?_
  · rintro ⟨bs, p, d⟩ ⟨⟨hb, h1, h2, h3, h4⟩, h5⟩
    change byt bs at hb
    simp only at h1 h2 h3 h4 h5
    have hv := fb_pos d.toNat
    by_cases c1 : d ≤ 1
    · have a1 : (d ≤ 1) = True := eq_true c1
      simp only [x_l4Filt, rg, go_sem, seval, Prod.fst, a1, F.enc_len, spPick_md, spPick_pre, spPick_ne, ↓spPick_all, spPick_all, spLeafF_md, spLeafF_pre, spLeafF_ne, ↓spLeafF_all, spLeafF_all]
      repeat' (first | with_reducible assumption | with_reducible refine And.intro ?_ ?_ | intro _)
      all_goals first | omega | skip
      rename_i k n s vk vn vs vks vl l q hd
      exact ⟨(k, n, s, vk, vn, vs, vks, vl, l, q), ⟨hd.1.mono (by omega), hd.2.1, by show q ≤ p + fb d.toNat; omega⟩, rfl, rfl⟩
    · have a1 : (d ≤ 1) = False := eq_false c1
      obtain ⟨e, he⟩ : ∃ e, d.toNat = e + 1 := ⟨d.toNat - 1, by omega⟩
      have he' : (d - 1).toNat = e := by omega
      have hfd : fb d.toNat = 1100 + 3 * fb e := by rw [he]; rfl
      have hv2 := fb_pos e
      rw [hfd] at h2 hv
      rw [he] at h5
      simp only [x_l4Filt, rg, go_sem, seval, Prod.fst, a1, F.enc_len, ints16, strs3, spPick_md, spPick_pre, spPick_ne, ↓spPick_all, spPick_all, spLeafF_md, spLeafF_pre, spLeafF_ne, ↓spLeafF_all, spLeafF_all, spDof_md, spDof_pre, spDof_ne, ↓spDof_all, spDof_all, spDnum_md, spDnum_pre, spDnum_ne, ↓spDnum_all, spDnum_all]
      rw [hfd]
      repeat' (first | with_reducible assumption | with_reducible refine And.intro ?_ ?_ | intro _)
      all_goals first | omega | skip
      · rename_i k n s vk vn vs vks vl l q hd
        exact drEx rfl rfl rfl hd.1 (by omega) (by omega)
      · rename_i kk hk hk21 s0 hs
        simp only [List.mem_cons, List.not_mem_nil, or_false] at hk
        have hK : 1 ≤ kidsOf kk ∧ kidsOf kk ≤ 3 ∧ i64 kk := by
          rcases hk with rfl | rfl | rfl | rfl | rfl | rfl | rfl | rfl | rfl | rfl | rfl | rfl | rfl | rfl | rfl | rfl <;> (refine ⟨?_, ?_, ?_⟩ <;> first | decide | (unfold i64; omega))
        simp only [List.mem_cons, List.not_mem_nil, or_false] at hs
        have hsz : (s0.size : Int) ≤ 1000 := by rcases hs with rfl | rfl | rfl <;> decide
        refine pw_loop (ι := Nat × Int × List Pw.F) (fun i => 4 - i.1)
          (fun i => (i.1 : Int) ≤ kidsOf kk ∧ p + 2 ≤ i.2.1 ∧ i.2.1 ≤ p + 10 + i.1 * fb e ∧ i.2.2.length = i.1 ∧ fitF 1000 i.2.2 ∧ smallFL i.2.2 ∧ sizeFL i.2.2 ≤ i.1 * fb e)
          (fun i => ⟨[(0, .q (.box 60 0)), (1, .q (.c (.int .i64 d))), (4, .q (.box 4 0)), (5, .q (.box 5 0)), (6, .q (.c (.int .i64 i.1)))],
            [(60, (rdC bs i.2.1).map .c), (4, [.c (.int .i64 0), .c (.int .i64 0), .c (.str ⟨#[]⟩), .c (.int .i64 0), .c (.int .i64 0), .c (.str ⟨#[]⟩), .z 1, .z 5, .z 9]), (5, [.c (.int .i64 kk), .c (.int .i64 0), .c (.str s0), .c (.int .i64 0), .c (.int .i64 0), .c (.str ⟨#[]⟩), .z 1, .z 5, .own 48])],
            [(48, 9, encF i.2.2)]⟩) (0, p + 1 + 1 + 1, []) ⟨by show ((0 : Nat) : Int) ≤ _; omega, by show p + 2 ≤ p + 1 + 1 + 1; omega, by show p + 1 + 1 + 1 ≤ p + 10 + ((0 : Nat) : Int) * fb e; simp; omega, by simp, trivial, by simp [smallFL], by simp [sizeFL]⟩ ?_ ?_
        · refine (Le.ownB (b := 5) (j := 8) (d := 48) (sz := 9) (qs := [.c (.int .i64 kk), .c (.int .i64 0), .c (.str s0), .c (.int .i64 0), .c (.int .i64 0), .c (.str ⟨#[]⟩), .z 1, .z 5, .z 9]) (by decide) (by simp) rfl (by simp [Q.killO, rdC]) (by simp [PV.map, Q.killO])).trans (Le.of_eq ?_)
          simp [upd, del, encF]
        · rintro ⟨i, q, l⟩ ⟨g1, g2, g3, g4, g5, g6, g7⟩
          simp only at g1 g2 g3 g4 g5 g6 g7
          rcases Int.lt_or_le (i : Int) (kidsOf kk) with hlt | hge
          · have b1 : ((i : Int) < kidsOf kk) = True := eq_true hlt
            have b4 : (i : Int) * fb e ≤ 2 * fb e := Int.mul_le_mul_of_nonneg_right (by omega) (by omega)
            have b5 : ((i + 1 : Nat) : Int) * fb e = i * fb e + fb e := by rw [Int.natCast_add, Int.add_mul]; simp
            have key : ∀ (t : F) (q' : Int), drF (fb e) t ∧ q ≤ q' ∧ q' ≤ q + fb e → (((i + 1 : Nat) : Int) ≤ kidsOf kk ∧ p + 2 ≤ q' ∧ q' ≤ p + 10 + ((i + 1 : Nat) : Int) * fb e ∧ (l ++ [t]).length = i + 1 ∧ fitF 1000 (l ++ [t]) ∧ smallFL (l ++ [t]) ∧ sizeFL (l ++ [t]) ≤ ((i + 1 : Nat) : Int) * fb e) := fun t q' ht => by
              have z := ht.1.2.2
              refine ⟨by omega, by omega, by omega, by simp; omega, fitF_app g5 ⟨ht.1.1, trivial⟩, smallFL_app g6 (by simp only [smallFL]; exact ⟨ht.1.2.1, trivial⟩), ?_⟩
              rw [sizeFL_app]; simp only [sizeFL]; omega
            by_cases c20 : kk = 20
            · exact absurd c20 (by omega)
            · have b2 : (kk = 20) = False := eq_false c20
              simp only [rg, go_sem, seval, Prod.fst, b1, b2, encF_len, F.enc_len, spKids_md, spKids_pre, spKids_alts, spKids_res, spKids_out, spLookF_md, spLookF_pre, spLookF_ne, ↓spLookF_all, spLookF_all, he']
              repeat' (first | with_reducible assumption | with_reducible refine And.intro ?_ ?_ | intro _)
              all_goals first | omega | skip
              rename_i k n s vk vn vs vks vl l' q' hd _ _
              refine ⟨(i + 1, q', l ++ [.mk k n s (.mk vk vn vs vks vl) l']), key _ _ hd, by show 4 - (i + 1) < 4 - i; omega, Le.of_eq (by simp [encF_app, encF])⟩
          · have b1 : ((i : Int) < kidsOf kk) = False := eq_false (by omega)
            have b4 : (i : Int) * fb e ≤ 3 * fb e := Int.mul_le_mul_of_nonneg_right (by omega) (by omega)
            simp only [rg, go_sem, seval, Prod.fst, b1, spKids_md, spKids_pre, spKids_alts, spKids_res, spKids_out]
            repeat' (first | with_reducible assumption | with_reducible refine And.intro ?_ ?_ | intro _)
            all_goals first | omega | skip
            exact drEx (vks := []) (vl := []) rfl rfl rfl (drF_mk hK.2.2 (by unfold i64; omega) (hsz) zero_dr.1 (by have := zero_dr.2; show sizeT T.zero ≤ _; omega) (by omega) g5 g6 (Int.le_refl _)) (by omega) (by omega)
      · rename_i kk hk hk21
        simp only [List.mem_cons, List.not_mem_nil, or_false] at hk
        have hK : 1 ≤ kidsOf kk ∧ kidsOf kk ≤ 3 ∧ i64 kk := by
          rcases hk with rfl | rfl | rfl | rfl | rfl | rfl | rfl | rfl | rfl | rfl | rfl | rfl | rfl | rfl | rfl | rfl <;> (refine ⟨?_, ?_, ?_⟩ <;> first | decide | (unfold i64; omega))
        refine pw_loop (ι := Nat × Int × List Pw.F) (fun i => 4 - i.1)
          (fun i => (i.1 : Int) ≤ kidsOf kk ∧ p + 2 ≤ i.2.1 ∧ i.2.1 ≤ p + 10 + i.1 * fb e ∧ i.2.2.length = i.1 ∧ fitF 1000 i.2.2 ∧ smallFL i.2.2 ∧ sizeFL i.2.2 ≤ i.1 * fb e)
          (fun i => ⟨[(0, .q (.box 60 0)), (1, .q (.c (.int .i64 d))), (4, .q (.box 4 0)), (5, .q (.box 5 0)), (6, .q (.c (.int .i64 i.1)))],
            [(60, (rdC bs i.2.1).map .c), (4, [.c (.int .i64 0), .c (.int .i64 0), .c (.str ⟨#[]⟩), .c (.int .i64 0), .c (.int .i64 0), .c (.str ⟨#[]⟩), .z 1, .z 5, .z 9]), (5, [.c (.int .i64 kk), .c (.int .i64 0), .c (.str ⟨#[]⟩), .c (.int .i64 0), .c (.int .i64 0), .c (.str ⟨#[]⟩), .z 1, .z 5, .own 48])],
            [(48, 9, encF i.2.2)]⟩) (0, p + 1 + 1, []) ⟨by show ((0 : Nat) : Int) ≤ _; omega, by show p + 2 ≤ p + 1 + 1; omega, by show p + 1 + 1 ≤ p + 10 + ((0 : Nat) : Int) * fb e; simp; omega, by simp, trivial, by simp [smallFL], by simp [sizeFL]⟩ ?_ ?_
        · refine (Le.ownB (b := 5) (j := 8) (d := 48) (sz := 9) (qs := [.c (.int .i64 kk), .c (.int .i64 0), .c (.str ⟨#[]⟩), .c (.int .i64 0), .c (.int .i64 0), .c (.str ⟨#[]⟩), .z 1, .z 5, .z 9]) (by decide) (by simp) rfl (by simp [Q.killO, rdC]) (by simp [PV.map, Q.killO])).trans (Le.of_eq ?_)
          simp [upd, del, encF]
        · rintro ⟨i, q, l⟩ ⟨g1, g2, g3, g4, g5, g6, g7⟩
          simp only at g1 g2 g3 g4 g5 g6 g7
          rcases Int.lt_or_le (i : Int) (kidsOf kk) with hlt | hge
          · have b1 : ((i : Int) < kidsOf kk) = True := eq_true hlt
            have b4 : (i : Int) * fb e ≤ 2 * fb e := Int.mul_le_mul_of_nonneg_right (by omega) (by omega)
            have b5 : ((i + 1 : Nat) : Int) * fb e = i * fb e + fb e := by rw [Int.natCast_add, Int.add_mul]; simp
            have key : ∀ (t : F) (q' : Int), drF (fb e) t ∧ q ≤ q' ∧ q' ≤ q + fb e → (((i + 1 : Nat) : Int) ≤ kidsOf kk ∧ p + 2 ≤ q' ∧ q' ≤ p + 10 + ((i + 1 : Nat) : Int) * fb e ∧ (l ++ [t]).length = i + 1 ∧ fitF 1000 (l ++ [t]) ∧ smallFL (l ++ [t]) ∧ sizeFL (l ++ [t]) ≤ ((i + 1 : Nat) : Int) * fb e) := fun t q' ht => by
              have z := ht.1.2.2
              refine ⟨by omega, by omega, by omega, by simp; omega, fitF_app g5 ⟨ht.1.1, trivial⟩, smallFL_app g6 (by simp only [smallFL]; exact ⟨ht.1.2.1, trivial⟩), ?_⟩
              rw [sizeFL_app]; simp only [sizeFL]; omega
            by_cases c20 : kk = 20
            · have b2 : (kk = 20) = True := eq_true c20
              by_cases ci : (i : Int) = 0
              · have b3 : ((i : Int) = 0) = True := eq_true ci
                simp only [rg, go_sem, seval, Prod.fst, b1, b2, b3, encF_len, F.enc_len, spKids_md, spKids_pre, spKids_alts, spKids_res, spKids_out, spLookF_md, spLookF_pre, spLookF_ne, ↓spLookF_all, spLookF_all, he']
                repeat' (first | with_reducible assumption | with_reducible refine And.intro ?_ ?_ | intro _)
                all_goals first | omega | skip
                rename_i k n s vk vn vs vks vl l' q' hd _ _
                refine ⟨(i + 1, q', l ++ [.mk k n s (.mk vk vn vs vks vl) l']), key _ _ hd, by show 4 - (i + 1) < 4 - i; omega, Le.of_eq (by simp [encF_app, encF])⟩
              · have b3 : ((i : Int) = 0) = False := eq_false ci
                simp only [rg, go_sem, seval, Prod.fst, b1, b2, b3, encF_len, F.enc_len, spKids_md, spKids_pre, spKids_alts, spKids_res, spKids_out, spLookF_md, spLookF_pre, spLookF_ne, ↓spLookF_all, spLookF_all, he']
                repeat' (first | with_reducible assumption | with_reducible refine And.intro ?_ ?_ | intro _)
                all_goals first | omega | skip
                rename_i k n s vk vn vs vks vl l' q' hd _ _
                refine ⟨(i + 1, q', l ++ [.mk k n s (.mk vk vn vs vks vl) l']), key _ _ hd, by show 4 - (i + 1) < 4 - i; omega, Le.of_eq (by simp [encF_app, encF])⟩
            · have b2 : (kk = 20) = False := eq_false c20
              simp only [rg, go_sem, seval, Prod.fst, b1, b2, encF_len, F.enc_len, spKids_md, spKids_pre, spKids_alts, spKids_res, spKids_out, spLookF_md, spLookF_pre, spLookF_ne, ↓spLookF_all, spLookF_all, he']
              repeat' (first | with_reducible assumption | with_reducible refine And.intro ?_ ?_ | intro _)
              all_goals first | omega | skip
              rename_i k n s vk vn vs vks vl l' q' hd _ _
              refine ⟨(i + 1, q', l ++ [.mk k n s (.mk vk vn vs vks vl) l']), key _ _ hd, by show 4 - (i + 1) < 4 - i; omega, Le.of_eq (by simp [encF_app, encF])⟩
          · have b1 : ((i : Int) < kidsOf kk) = False := eq_false (by omega)
            have b4 : (i : Int) * fb e ≤ 3 * fb e := Int.mul_le_mul_of_nonneg_right (by omega) (by omega)
            simp only [rg, go_sem, seval, Prod.fst, b1, spKids_md, spKids_pre, spKids_alts, spKids_res, spKids_out]
            repeat' (first | with_reducible assumption | with_reducible refine And.intro ?_ ?_ | intro _)
            all_goals first | omega | skip
            exact drEx (vks := []) (vl := []) rfl rfl rfl (drF_mk hK.2.2 (by unfold i64; omega) (by decide) zero_dr.1 (by have := zero_dr.2; show sizeT T.zero ≤ _; omega) (by omega) g5 g6 (Int.le_refl _)) (by omega) (by omega)
theorem lookF_all : ∀ m, Sound Go.Proofs.Tryd.prog 50 (spLookF m) ∧ Sound Go.Proofs.Tryd.prog 42 (spLookF m) := fun m => by
  induction m with
  | zero => exact ⟨Sound.noneR, Sound.noneR⟩
  | succ k ih => exact ⟨l4Look_sound k ih.1 ih.2, l4Filt_sound k ih.1 ih.2⟩
def spFiltF  : Spec := Spec.ofR (ι := (List Int) × Int × Int) (κ := Int × Int × ByteArray × Int × Int × ByteArray × (List ByteArray) × (List T) × (List Pw.F) × Int) [true, false] (fun i => [.ref (rdC i.1 i.2.1), .d (.one (.int .i64 i.2.2))]) (fun i => byt i.1 ∧ 0 ≤ i.2.1 ∧ i.2.1 + fb i.2.2.toNat ≤ 1099511627776 ∧ -1 ≤ i.2.2 ∧ i.2.2 ≤ 5) (fun i k => drF (fb i.2.2.toNat) (Pw.F.mk k.1 k.2.1 k.2.2.1 (.mk k.2.2.2.1 k.2.2.2.2.1 k.2.2.2.2.2.1 k.2.2.2.2.2.2.1 k.2.2.2.2.2.2.2.1) k.2.2.2.2.2.2.2.2.1) ∧ i.2.1 ≤ k.2.2.2.2.2.2.2.2.2 ∧ k.2.2.2.2.2.2.2.2.2 ≤ i.2.1 + fb i.2.2.toNat) (fun i k => [.d (.agg (Pw.F.mk k.1 k.2.1 k.2.2.1 (.mk k.2.2.2.1 k.2.2.2.2.1 k.2.2.2.2.2.1 k.2.2.2.2.2.2.1 k.2.2.2.2.2.2.2.1) k.2.2.2.2.2.2.2.2.1).enc)]) (fun i k => [.ref (rdC i.1 k.2.2.2.2.2.2.2.2.2), .gone])
theorem spFiltF_inj : ∀ i j : (List Int) × Int × Int, (fun (i : (List Int) × Int × Int) => ([.ref (rdC i.1 i.2.1), .d (.one (.int .i64 i.2.2))] : List AV)) i = (fun (i : (List Int) × Int × Int) => ([.ref (rdC i.1 i.2.1), .d (.one (.int .i64 i.2.2))] : List AV)) j → i = j := by
  rintro ⟨bs, p, d⟩ ⟨bs', p', d'⟩ h
  simp only [Prod.mk.injEq]
  simpa [strs_eq, T.enc_eq, encL_eq, F.enc_eq, encF_eq, Tk.enc_eq, encTk_eq, Gn.enc_eq, ints_eq, rdC_eq, and_assoc] using h
theorem spFiltF_md  : (spFiltF).md = [true, false] := rfl
theorem spFiltF_pre  (bs : List Int) (p : Int) (d : Int) : (spFiltF).pre [.ref (rdC bs p), .d (.one (.int .i64 d))] = (byt bs ∧ 0 ≤ p ∧ p + fb d.toNat ≤ 1099511627776 ∧ -1 ≤ d ∧ d ≤ 5) := Spec.ofR_pre spFiltF_inj (bs, p, d)
theorem spFiltF_ne0  (bs : List Int) (p : Int) (d : Int) : (spFiltF).ne [.ref (rdC bs p), .d (.one (.int .i64 d))] = (∃ k : Int × Int × ByteArray × Int × Int × ByteArray × (List ByteArray) × (List T) × (List Pw.F) × Int, drF (fb d.toNat) (Pw.F.mk k.1 k.2.1 k.2.2.1 (.mk k.2.2.2.1 k.2.2.2.2.1 k.2.2.2.2.2.1 k.2.2.2.2.2.2.1 k.2.2.2.2.2.2.2.1) k.2.2.2.2.2.2.2.2.1) ∧ p ≤ k.2.2.2.2.2.2.2.2.2 ∧ k.2.2.2.2.2.2.2.2.2 ≤ p + fb d.toNat) := Spec.ofR_ne spFiltF_inj (bs, p, d)
theorem spFiltF_all  (bs : List Int) (p : Int) (d : Int) (F : List AV → List AV → Prop) : (spFiltF).all [.ref (rdC bs p), .d (.one (.int .i64 d))] F = (∀ (k : Int) (n : Int) (s : ByteArray) (vk : Int) (vn : Int) (vs : ByteArray) (vks : List ByteArray) (vl : List T) (l : List Pw.F) (q : Int), (drF (fb d.toNat) (Pw.F.mk k n s (.mk vk vn vs vks vl) l) ∧ p ≤ q ∧ q ≤ p + fb d.toNat) → F [.d (.agg (Pw.F.mk k n s (.mk vk vn vs vks vl) l).enc)] [.ref (rdC bs q), .gone]) := by
  refine (Spec.ofR_all spFiltF_inj (bs, p, d) F).trans (propext ⟨fun h k n s vk vn vs vks vl l q hr => h (k, n, s, vk, vn, vs, vks, vl, l, q) hr, fun h k hr => ?_⟩)
  exact h k.1 k.2.1 k.2.2.1 k.2.2.2.1 k.2.2.2.2.1 k.2.2.2.2.2.1 k.2.2.2.2.2.2.1 k.2.2.2.2.2.2.2.1 k.2.2.2.2.2.2.2.2.1 k.2.2.2.2.2.2.2.2.2 hr
theorem spFiltF_ne (bs : List Int) (p d : Int) : spFiltF.ne [.ref (rdC bs p), .d (.one (.int .i64 d))] = True := by
  rw [spFiltF_ne0]
  have := fb_pos d.toNat
  exact eq_true ⟨(0, 0, ⟨#[]⟩, 0, 0, ⟨#[]⟩, [], [], [], p), (leafZ (k := 0) (n := 0) (s := ⟨#[]⟩) (by unfold i64; omega) (by unfold i64; omega) (by decide)).mono (by omega), Int.le_refl _, by show p ≤ p + fb d.toNat; omega⟩
theorem l4Filt_all : Sound Go.Proofs.Tryd.prog 42 spFiltF := Sound.allR (fun i => i.2.2.toNat) (fun k => (lookF_all k).2)
def spSomeF  : Spec := Spec.ofR (ι := (List Int) × Int) (κ := Int × Int × ByteArray × Int × Int × ByteArray × (List ByteArray) × (List T) × (List Pw.F) × Int) [true] (fun i => [.ref (rdC i.1 i.2)]) (fun i => byt i.1 ∧ 0 ≤ i.2 ∧ i.2 + 150000 ≤ 1099511627776) (fun i k => drF 140000 (Pw.F.mk k.1 k.2.1 k.2.2.1 (.mk k.2.2.2.1 k.2.2.2.2.1 k.2.2.2.2.2.1 k.2.2.2.2.2.2.1 k.2.2.2.2.2.2.2.1) k.2.2.2.2.2.2.2.2.1) ∧ i.2 ≤ k.2.2.2.2.2.2.2.2.2 ∧ k.2.2.2.2.2.2.2.2.2 ≤ i.2 + 150000) (fun i k => [.d (.agg (Pw.F.mk k.1 k.2.1 k.2.2.1 (.mk k.2.2.2.1 k.2.2.2.2.1 k.2.2.2.2.2.1 k.2.2.2.2.2.2.1 k.2.2.2.2.2.2.2.1) k.2.2.2.2.2.2.2.2.1).enc)]) (fun i k => [.ref (rdC i.1 k.2.2.2.2.2.2.2.2.2)])
theorem spSomeF_inj : ∀ i j : (List Int) × Int, (fun (i : (List Int) × Int) => ([.ref (rdC i.1 i.2)] : List AV)) i = (fun (i : (List Int) × Int) => ([.ref (rdC i.1 i.2)] : List AV)) j → i = j := by
  rintro ⟨bs, p⟩ ⟨bs', p'⟩ h
  simp only [Prod.mk.injEq]
  simpa [strs_eq, T.enc_eq, encL_eq, F.enc_eq, encF_eq, Tk.enc_eq, encTk_eq, Gn.enc_eq, ints_eq, rdC_eq, and_assoc] using h
theorem spSomeF_md  : (spSomeF).md = [true] := rfl
theorem spSomeF_pre  (bs : List Int) (p : Int) : (spSomeF).pre [.ref (rdC bs p)] = (byt bs ∧ 0 ≤ p ∧ p + 150000 ≤ 1099511627776) := Spec.ofR_pre spSomeF_inj (bs, p)
theorem spSomeF_ne0  (bs : List Int) (p : Int) : (spSomeF).ne [.ref (rdC bs p)] = (∃ k : Int × Int × ByteArray × Int × Int × ByteArray × (List ByteArray) × (List T) × (List Pw.F) × Int, drF 140000 (Pw.F.mk k.1 k.2.1 k.2.2.1 (.mk k.2.2.2.1 k.2.2.2.2.1 k.2.2.2.2.2.1 k.2.2.2.2.2.2.1 k.2.2.2.2.2.2.2.1) k.2.2.2.2.2.2.2.2.1) ∧ p ≤ k.2.2.2.2.2.2.2.2.2 ∧ k.2.2.2.2.2.2.2.2.2 ≤ p + 150000) := Spec.ofR_ne spSomeF_inj (bs, p)
theorem spSomeF_all  (bs : List Int) (p : Int) (F : List AV → List AV → Prop) : (spSomeF).all [.ref (rdC bs p)] F = (∀ (k : Int) (n : Int) (s : ByteArray) (vk : Int) (vn : Int) (vs : ByteArray) (vks : List ByteArray) (vl : List T) (l : List Pw.F) (q : Int), (drF 140000 (Pw.F.mk k n s (.mk vk vn vs vks vl) l) ∧ p ≤ q ∧ q ≤ p + 150000) → F [.d (.agg (Pw.F.mk k n s (.mk vk vn vs vks vl) l).enc)] [.ref (rdC bs q)]) := by
  refine (Spec.ofR_all spSomeF_inj (bs, p) F).trans (propext ⟨fun h k n s vk vn vs vks vl l q hr => h (k, n, s, vk, vn, vs, vks, vl, l, q) hr, fun h k hr => ?_⟩)
  exact h k.1 k.2.1 k.2.2.1 k.2.2.2.1 k.2.2.2.2.1 k.2.2.2.2.2.1 k.2.2.2.2.2.2.1 k.2.2.2.2.2.2.2.1 k.2.2.2.2.2.2.2.2.1 k.2.2.2.2.2.2.2.2.2 hr
theorem spSomeF_ne (bs : List Int) (p : Int) : spSomeF.ne [.ref (rdC bs p)] = True := by
  rw [spSomeF_ne0]
  exact eq_true ⟨(0, 0, ⟨#[]⟩, 0, 0, ⟨#[]⟩, [], [], [], p), (leafZ (k := 0) (n := 0) (s := ⟨#[]⟩) (by unfold i64; omega) (by unfold i64; omega) (by decide)).mono (by omega), Int.le_refl _, by show p ≤ p + 150000; omega⟩
end Go.Proofs.Pw
