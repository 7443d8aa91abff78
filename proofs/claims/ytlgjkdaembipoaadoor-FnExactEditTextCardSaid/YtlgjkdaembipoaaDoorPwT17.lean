/- Copies of trees: the functions of the laws' text. -/
import Derived.Test.YtlgjkdaembipoaaDoorPwT9
import Derived.Test.YtlgjkdaembipoaaDoorProg
import Derived.KernelRfl
set_option linter.unusedSimpArgs false
set_option linter.unusedVariables false
set_option linter.unusedSimpArgs false
set_option maxRecDepth 20000
namespace Go.Proofs.Pw
set_option linter.unusedSectionVars false
variable [Globs]
def x_toStringS : X := (.seq (.reg [⟨some 2, none, .mv (.k (.z 1))⟩] none [0]) (.seq (.reg [⟨some 5, none, .mv (.t 0)⟩, ⟨some 6, none, .len (.t 5) false⟩, ⟨some 7, none, .mk (.t 6) [(.str ⟨#[]⟩)] 16⟩, ⟨some 3, none, .mv (.t 7)⟩] none [0, 3]) (.seq (.seq (.reg [⟨some 4, none, .mv (.k (.c (.int .i64 0)))⟩] none [0, 3, 4]) (.block 0 (.loop (.seq (.seq (.reg [⟨some 8, none, .mv (.t 4)⟩, ⟨some 9, none, .mv (.t 0)⟩, ⟨some 10, none, .len (.t 9) false⟩, ⟨some 11, none, .bin false .lss (.t 8) (.t 10)⟩] none [0, 3, 4, 11]) (.cond (.t 11) .skip (.exit 0))) (.seq (.block 1 (.reg [⟨some 14, none, .mv (.t 3)⟩, ⟨some 15, none, .mv (.t 4)⟩, ⟨some 16, none, .mv (.t 0)⟩, ⟨some 17, none, .mv (.t 4)⟩, ⟨some 18, none, .ia (.t 16) (.t 17) 1⟩, ⟨some 19, none, .load (.t 18) none⟩, ⟨some 20, none, .ia (.t 14) (.t 15) 1⟩, ⟨none, none, .st (.t 20) (.t 19) none⟩] none [0, 3, 4])) (.reg [⟨some 12, none, .mv (.t 4)⟩, ⟨some 13, none, .bin false .add (.t 12) (.k (.c (.int .i64 1)))⟩, ⟨some 4, none, .mv (.t 13)⟩] none [0, 3, 4])))))) (.seq (.reg [⟨some 21, none, .mv (.t 3)⟩, ⟨some 2, none, .mv (.t 21)⟩] none [2]) .ret))))
theorem chk_toStringS : chkX Go.Proofs.Tryd.prog 22 (Go.Proofs.Tryd.f48.body.getD .skip) x_toStringS = true := by kernel_rfl
theorem rs_toStringS : okRs Go.Proofs.Tryd.prog Go.Proofs.Tryd.f48.results.toList [.tmp 2] = true := by kernel_rfl
theorem call_toStringS : okCallee Go.Proofs.Tryd.prog 48 = true := by kernel_rfl
def x_toValS : X := (.seq (.reg [⟨some 2, none, .mv (.k (.z 5))⟩] none [0]) (.seq (.reg [⟨some 5, none, .mv (.t 0)⟩, ⟨some 6, none, .len (.t 5) false⟩, ⟨some 7, none, .mk (.t 6) [(.int .i64 0), (.int .i64 0), (.str ⟨#[]⟩), (.row 1 []), (.row 5 [])] 80⟩, ⟨some 3, none, .mv (.t 7)⟩] none [0, 3]) (.seq (.seq (.reg [⟨some 4, none, .mv (.k (.c (.int .i64 0)))⟩] none [0, 3, 4]) (.block 0 (.loop (.seq (.seq (.reg [⟨some 8, none, .mv (.t 4)⟩, ⟨some 9, none, .mv (.t 0)⟩, ⟨some 10, none, .len (.t 9) false⟩, ⟨some 11, none, .bin false .lss (.t 8) (.t 10)⟩] none [0, 3, 4, 11]) (.cond (.t 11) .skip (.exit 0))) (.seq (.block 1 (.reg [⟨some 14, none, .mv (.t 3)⟩, ⟨some 15, none, .mv (.t 4)⟩, ⟨some 16, none, .mv (.t 0)⟩, ⟨some 17, none, .mv (.t 4)⟩, ⟨some 18, none, .ia (.t 16) (.t 17) 5⟩, ⟨some 19, none, .load (.t 18) (some 5)⟩, ⟨some 20, none, .call 27 [(.t 19)]⟩, ⟨some 21, none, .ia (.t 14) (.t 15) 5⟩, ⟨none, none, .st (.t 21) (.t 20) (some 5)⟩] none [0, 3, 4])) (.reg [⟨some 12, none, .mv (.t 4)⟩, ⟨some 13, none, .bin false .add (.t 12) (.k (.c (.int .i64 1)))⟩, ⟨some 4, none, .mv (.t 13)⟩] none [0, 3, 4])))))) (.seq (.reg [⟨some 22, none, .mv (.t 3)⟩, ⟨some 2, none, .mv (.t 22)⟩] none [2]) .ret))))
theorem chk_toValS : chkX Go.Proofs.Tryd.prog 23 (Go.Proofs.Tryd.f49.body.getD .skip) x_toValS = true := by kernel_rfl
theorem rs_toValS : okRs Go.Proofs.Tryd.prog Go.Proofs.Tryd.f49.results.toList [.tmp 2] = true := by kernel_rfl
theorem call_toValS : okCallee Go.Proofs.Tryd.prog 49 = true := by kernel_rfl
def x_toVal : X := (.seq (.reg [⟨some 1, none, .box (.t 0) (some 5)⟩, ⟨some 2, none, .alloc [(.c (.int .i64 0)), (.c (.int .i64 0)), (.c (.str ⟨#[]⟩)), (.z 1), (.z 5)]⟩] none [1, 2]) (.seq (.reg [⟨some 3, none, .alloc [(.c (.int .i64 0)), (.c (.int .i64 0)), (.c (.str ⟨#[]⟩)), (.z 1), (.z 5)]⟩] none [1, 2, 3]) (.seq (.reg [⟨some 4, none, .fa (.t 1) 0⟩, ⟨some 5, none, .load (.t 4) none⟩, ⟨some 6, none, .fa (.t 3) 0⟩, ⟨none, none, .st (.t 6) (.t 5) none⟩] none [1, 2, 3]) (.seq (.reg [⟨some 7, none, .fa (.t 1) 1⟩, ⟨some 8, none, .load (.t 7) none⟩, ⟨some 9, none, .fa (.t 3) 1⟩, ⟨none, none, .st (.t 9) (.t 8) none⟩] none [1, 2, 3]) (.seq (.reg [⟨some 10, none, .fa (.t 1) 2⟩, ⟨some 11, none, .load (.t 10) none⟩, ⟨some 12, none, .fa (.t 3) 2⟩, ⟨none, none, .st (.t 12) (.t 11) none⟩] none [1, 2, 3]) (.seq (.reg [⟨some 13, none, .fa (.t 1) 3⟩, ⟨some 14, none, .load (.t 13) none⟩, ⟨some 15, none, .call 48 [(.t 14)]⟩, ⟨some 16, none, .fa (.t 3) 3⟩, ⟨none, none, .st (.t 16) (.t 15) none⟩] none [1, 2, 3]) (.seq (.reg [⟨some 17, none, .fa (.t 1) 4⟩, ⟨some 18, none, .load (.t 17) none⟩, ⟨some 19, none, .call 49 [(.t 18)]⟩, ⟨some 20, none, .fa (.t 3) 4⟩, ⟨none, none, .st (.t 20) (.t 19) none⟩] none [2, 3]) (.seq (.reg [⟨some 21, none, .load (.t 3) (some 5)⟩, ⟨none, none, .st (.t 2) (.t 21) (some 5)⟩] none [2]) .ret))))))))
theorem chk_toVal : chkX Go.Proofs.Tryd.prog 22 (Go.Proofs.Tryd.f27.body.getD .skip) x_toVal = true := by kernel_rfl
theorem rs_toVal : okRs Go.Proofs.Tryd.prog Go.Proofs.Tryd.f27.results.toList [.cell 2 (some 5)] = true := by kernel_rfl
theorem call_toVal : okCallee Go.Proofs.Tryd.prog 27 = true := by kernel_rfl
noncomputable def spToStrS  : Spec := Spec.of (ι := (List ByteArray)) [false] (fun i => [.d (.one (.row 1 (strs i)))]) (fun i => lenB 1048576 i.length) (fun i => [.d (.one (.row 1 (strs i)))]) (fun _ => [.gone])
theorem spToStrS_inj : ∀ i j : (List ByteArray), (fun (i : (List ByteArray)) => ([.d (.one (.row 1 (strs i)))] : List AV)) i = (fun (i : (List ByteArray)) => ([.d (.one (.row 1 (strs i)))] : List AV)) j → i = j := by
  intro ks ks' h
  simpa [strs_eq, T.enc_eq, encL_eq, F.enc_eq, encF_eq, Tk.enc_eq, encTk_eq, Gn.enc_eq, ints_eq] using h
theorem spToStrS_md  : (spToStrS).md = [false] := rfl
theorem spToStrS_pre  (ks : List ByteArray) : (spToStrS).pre [.d (.one (.row 1 (strs ks)))] = (lenB 1048576 ks.length) := Spec.of_pre' spToStrS_inj ks
theorem spToStrS_alts  : (spToStrS).alts = none := rfl
theorem spToStrS_res  (ks : List ByteArray) : (spToStrS).res [.d (.one (.row 1 (strs ks)))] = [.d (.one (.row 1 (strs ks)))] := Spec.of_res spToStrS_inj ks
theorem spToStrS_out  (ks : List ByteArray) : (spToStrS).out [.d (.one (.row 1 (strs ks)))] = [.gone] := Spec.of_out spToStrS_inj ks
theorem toStrS_sound : Sound Go.Proofs.Tryd.prog 48 spToStrS := by
  refine sound_fam GOK.nil Go.Proofs.Tryd.func48 (c := Go.Proofs.Tryd.f48.body.getD .skip) rfl (n := 22) rfl chk_toStringS rs_toStringS (fun _ => by simp) ?_ ?_
  · exact spToStrS_inj
  · intro ks h1
    simp only [lenB] at h1
    simp only [x_toStringS, rg, go_sem, seval]
    repeat' (first | with_reducible assumption | with_reducible refine And.intro ?_ ?_ | intro _)
    all_goals first | omega | skip
    have hl : (strs ks).length = (List.replicate ks.length [C.str ⟨#[]⟩]).length := by simp [strs_len]
    refine pw_loop (ι := Nat) (fun i => ks.length - i) (fun i => i ≤ ks.length)
      (fun i => ⟨[(0, .q (.c (.row 1 (strs ks)))), (3, .q (.own 7)), (4, .q (.c (.int .i64 i)))], [], [(7, 1, (strs ks).take i ++ (List.replicate ks.length [C.str ⟨#[]⟩]).drop i)]⟩) 0 (Nat.zero_le _) (Le.refl _) ?_
    intro i hi
    rcases Nat.lt_or_ge i ks.length with hlt | hge
    · obtain ⟨s, hs, hdr, hmem⟩ := drop_at hlt
      have a1 := strs_at hs
      have a2 : ((i : Int) < (ks.length : Int)) = True := by simp; omega
      have a3 : ((strs ks).take i ++ (List.replicate ks.length [C.str ⟨#[]⟩]).drop i).length = ks.length := by rw [fill_len hl]; simp
      have a4 : ((strs ks).take i ++ (List.replicate ks.length [C.str ⟨#[]⟩]).drop i).getD i [] = [C.str ⟨#[]⟩] := by rw [fill_get hl (by rw [strs_len]; exact hlt), getD_rep hlt]
      have a5 : ((strs ks).take i ++ (List.replicate ks.length [C.str ⟨#[]⟩]).drop i).set i [C.str s] = (strs ks).take (i + 1) ++ (List.replicate ks.length [C.str ⟨#[]⟩]).drop (i + 1) := fill_set hl (by simp [strs, hs])
      simp only [go_sem, seval, rg, a1, a2, a3, a4, a5]
      repeat' (first | with_reducible assumption | with_reducible refine And.intro ?_ ?_ | intro _)
      all_goals first | omega | skip
      exact ⟨i + 1, by omega, by omega, Le.refl _⟩
    · have a2 : ((i : Int) < (ks.length : Int)) = False := by simp; omega
      have hie : i = (strs ks).length := by rw [strs_len]; omega
      have a3 : (strs ks).take i ++ (List.replicate ks.length [C.str ⟨#[]⟩]).drop i = strs ks := by rw [hie]; exact fill_all hl
      simp only [go_sem, seval, a2, a3]
noncomputable def spToTS (k:Nat) : Spec := Spec.of (ι := (List T)) [false] (fun i => [.d (.one (.row 5 (encL i)))]) (fun i => (lenB 1048576 i.length ∧ fitL 1048576 i) ∧ SizeOf.sizeOf i < k) (fun i => [.d (.one (.row 5 (encL i)))]) (fun _ => [.gone])
theorem spToTS_inj : ∀ i j : (List T), (fun (i : (List T)) => ([.d (.one (.row 5 (encL i)))] : List AV)) i = (fun (i : (List T)) => ([.d (.one (.row 5 (encL i)))] : List AV)) j → i = j := by
  intro ks ks' h
  simpa [strs_eq, T.enc_eq, encL_eq, F.enc_eq, encF_eq, Tk.enc_eq, encTk_eq, Gn.enc_eq, ints_eq] using h
theorem spToTS_md (k:Nat) : (spToTS k).md = [false] := rfl
theorem spToTS_pre (k:Nat) (ks : List T) : (spToTS k).pre [.d (.one (.row 5 (encL ks)))] = ((lenB 1048576 ks.length ∧ fitL 1048576 ks) ∧ SizeOf.sizeOf ks < k) := Spec.of_pre' spToTS_inj ks
theorem spToTS_alts (k:Nat) : (spToTS k).alts = none := rfl
theorem spToTS_res (k:Nat) (ks : List T) : (spToTS k).res [.d (.one (.row 5 (encL ks)))] = [.d (.one (.row 5 (encL ks)))] := Spec.of_res spToTS_inj ks
theorem spToTS_out (k:Nat) (ks : List T) : (spToTS k).out [.d (.one (.row 5 (encL ks)))] = [.gone] := Spec.of_out spToTS_inj ks
noncomputable def spToT (k:Nat) : Spec := Spec.of (ι := T) [false] (fun i => [.d (.agg i.enc)]) (fun i => (i.fit 1048576) ∧ SizeOf.sizeOf i < k) (fun i => [.d (.agg i.enc)]) (fun _ => [.gone])
theorem spToT_inj : ∀ i j : T, (fun (i : T) => ([.d (.agg i.enc)] : List AV)) i = (fun (i : T) => ([.d (.agg i.enc)] : List AV)) j → i = j := by
  intro t t' h
  simpa [strs_eq, T.enc_eq, encL_eq, F.enc_eq, encF_eq, Tk.enc_eq, encTk_eq, Gn.enc_eq, ints_eq] using h
theorem spToT_md (k:Nat) : (spToT k).md = [false] := rfl
theorem spToT_pre (k:Nat) (t : T) : (spToT k).pre [.d (.agg t.enc)] = ((t.fit 1048576) ∧ SizeOf.sizeOf t < k) := Spec.of_pre' spToT_inj t
theorem spToT_alts (k:Nat) : (spToT k).alts = none := rfl
theorem spToT_res (k:Nat) (t : T) : (spToT k).res [.d (.agg t.enc)] = [.d (.agg t.enc)] := Spec.of_res spToT_inj t
theorem spToT_out (k:Nat) (t : T) : (spToT k).out [.d (.agg t.enc)] = [.gone] := Spec.of_out spToT_inj t
theorem toT_sound (k : Nat) (hS : Sound Go.Proofs.Tryd.prog 49 (spToTS k)) : Sound Go.Proofs.Tryd.prog 27 (spToT (k + 1)) := by
  refine sound_fam (GOK.cons (l := [(49, spToTS k)]) call_toStringS toStrS_sound (GOK.cons call_toValS hS GOK.nil)) Go.Proofs.Tryd.func27 (c := Go.Proofs.Tryd.f27.body.getD .skip) rfl (n := 22) rfl chk_toVal rs_toVal (fun _ => by simp) ?_ ?_
  · exact spToT_inj
  · rintro t ⟨h1, h4⟩
    obtain ⟨kk, n, s, ks, l⟩ := t
    simp only [T.fit, strsFit] at h1
    obtain ⟨_, _, f1, ⟨f2, f2'⟩, f3, f4⟩ := h1
    have e3 : SizeOf.sizeOf l < k := by have e : SizeOf.sizeOf (T.mk kk n s ks l) < k + 1 := h4
                                        rw [T.mk.sizeOf_spec] at e; omega
    simp only [x_toVal, T.enc, go_sem, seval, rg, spToStrS_md, spToStrS_pre, spToStrS_alts, spToStrS_res, spToStrS_out, spToTS_md, spToTS_pre, spToTS_alts, spToTS_res, spToTS_out]
    repeat' (first | with_reducible assumption | with_reducible refine And.intro ?_ ?_ | intro _)
    all_goals first | omega | assumption | skip
theorem toTS_sound (k : Nat) (hS : Sound Go.Proofs.Tryd.prog 27 (spToT k)) : Sound Go.Proofs.Tryd.prog 49 (spToTS (k + 1)) := by
  refine sound_fam (GOK.cons call_toVal hS GOK.nil) Go.Proofs.Tryd.func49 (c := Go.Proofs.Tryd.f49.body.getD .skip) rfl (n := 23) rfl chk_toValS rs_toValS (fun _ => by simp) ?_ ?_
  · exact spToTS_inj
  · intro ks h1
    obtain ⟨⟨h1, h2⟩, h3⟩ := h1
    simp only [lenB] at h1
    simp only [x_toValS, rg, go_sem, seval]
    repeat' (first | with_reducible assumption | with_reducible refine And.intro ?_ ?_ | intro _)
    all_goals first | omega | skip
    have hl : (encL ks).length = (List.replicate ks.length [C.int .i64 0, C.int .i64 0, C.str ⟨#[]⟩, C.row 1 [], C.row 5 []]).length := by simp [encL_len]
    refine pw_loop (ι := Nat) (fun i => ks.length - i) (fun i => i ≤ ks.length)
      (fun i => ⟨[(0, .q (.c (.row 5 (encL ks)))), (3, .q (.own 7)), (4, .q (.c (.int .i64 i)))], [], [(7, 5, (encL ks).take i ++ (List.replicate ks.length [C.int .i64 0, C.int .i64 0, C.str ⟨#[]⟩, C.row 1 [], C.row 5 []]).drop i)]⟩) 0 (Nat.zero_le _) (Le.refl _) ?_
    intro i hi
    rcases Nat.lt_or_ge i ks.length with hlt | hge
    · obtain ⟨s, hs, hdr, hmem⟩ := drop_at hlt
      have a1 := encL_at hs
      have a2 : ((i : Int) < (ks.length : Int)) = True := by simp; omega
      have a3 : ((encL ks).take i ++ (List.replicate ks.length [C.int .i64 0, C.int .i64 0, C.str ⟨#[]⟩, C.row 1 [], C.row 5 []]).drop i).length = ks.length := by rw [fill_len hl]; simp
      have a4 : ((encL ks).take i ++ (List.replicate ks.length [C.int .i64 0, C.int .i64 0, C.str ⟨#[]⟩, C.row 1 [], C.row 5 []]).drop i).getD i [] = [C.int .i64 0, C.int .i64 0, C.str ⟨#[]⟩, C.row 1 [], C.row 5 []] := by rw [fill_get hl (by rw [encL_len]; exact hlt), getD_rep hlt]
      have a5 : ((encL ks).take i ++ (List.replicate ks.length [C.int .i64 0, C.int .i64 0, C.str ⟨#[]⟩, C.row 1 [], C.row 5 []]).drop i).set i s.enc = (encL ks).take (i + 1) ++ (List.replicate ks.length [C.int .i64 0, C.int .i64 0, C.str ⟨#[]⟩, C.row 1 [], C.row 5 []]).drop (i + 1) := fill_set hl (by rw [encL_map]; simp [hs])
      have a6 := T.enc_len s
      have a7 := fitL_mem h2 s hmem
      have a8 := size_mem hmem
      have a9 : placeC [C.int .i64 0, C.int .i64 0, C.str ⟨#[]⟩, C.row 1 [], C.row 5 []] 0 s.enc = s.enc := placeC_whole (by rw [a6]; rfl)
      simp only [rg, a9, go_sem, seval, a1, a2, a3, a4, a5, a6, List.length_map, spToT_md, spToT_pre, spToT_alts, spToT_res, spToT_out]
      repeat' (first | with_reducible assumption | with_reducible refine And.intro ?_ ?_ | intro _)
      all_goals first | omega | skip
      exact ⟨i + 1, by omega, by omega, Le.refl _⟩
    · have a2 : ((i : Int) < (ks.length : Int)) = False := by simp; omega
      have hie : i = (encL ks).length := by rw [encL_len]; omega
      have a3 : (encL ks).take i ++ (List.replicate ks.length [C.int .i64 0, C.int .i64 0, C.str ⟨#[]⟩, C.row 1 [], C.row 5 []]).drop i = encL ks := by rw [hie]; exact fill_all hl
      simp only [go_sem, seval, a2, a3]
theorem toT_all (k : Nat) : Sound Go.Proofs.Tryd.prog 27 (spToT k) ∧ Sound Go.Proofs.Tryd.prog 49 (spToTS k) := by
  induction k with
  | zero => exact ⟨Sound.none, Sound.none⟩
  | succ k ih => exact ⟨toT_sound k ih.2, toTS_sound k ih.1⟩
noncomputable def spToV  : Spec := Spec.of (ι := T) [false] (fun i => [.d (.agg i.enc)]) (fun i => i.fit 1048576) (fun i => [.d (.agg i.enc)]) (fun _ => [.gone])
theorem spToV_inj : ∀ i j : T, (fun (i : T) => ([.d (.agg i.enc)] : List AV)) i = (fun (i : T) => ([.d (.agg i.enc)] : List AV)) j → i = j := by
  intro t t' h
  simpa [strs_eq, T.enc_eq, encL_eq, F.enc_eq, encF_eq, Tk.enc_eq, encTk_eq, Gn.enc_eq, ints_eq] using h
theorem spToV_md  : (spToV).md = [false] := rfl
theorem spToV_pre  (t : T) : (spToV).pre [.d (.agg t.enc)] = (t.fit 1048576) := Spec.of_pre' spToV_inj t
theorem spToV_alts  : (spToV).alts = none := rfl
theorem spToV_res  (t : T) : (spToV).res [.d (.agg t.enc)] = [.d (.agg t.enc)] := Spec.of_res spToV_inj t
theorem spToV_out  (t : T) : (spToV).out [.d (.agg t.enc)] = [.gone] := Spec.of_out spToV_inj t
theorem toV_sound : Sound Go.Proofs.Tryd.prog 27 spToV := Sound.all (μ := fun i => SizeOf.sizeOf i) (fun k => (toT_all k).1)
end Go.Proofs.Pw
/- Comparing trees: the functions of the laws' text. -/
set_option linter.unusedSimpArgs false
set_option maxRecDepth 20000
namespace Go.Proofs.Pw
set_option linter.unusedSectionVars false
variable [Globs]
def x_eqStringS : X := (.seq (.reg [⟨some 4, none, .mv (.k (.c (.bool false)))⟩] none [0, 1]) (.seq (.seq (.reg [⟨some 6, none, .mv (.t 0)⟩, ⟨some 7, none, .len (.t 6) false⟩, ⟨some 8, none, .mv (.t 1)⟩, ⟨some 9, none, .len (.t 8) false⟩, ⟨some 10, none, .bin false .neq (.t 7) (.t 9)⟩] none [0, 1, 10]) (.cond (.t 10) (.seq (.reg [⟨some 4, none, .mv (.k (.c (.bool false)))⟩] none [4]) .ret) .skip)) (.seq (.seq (.reg [⟨some 5, none, .mv (.k (.c (.int .i64 0)))⟩] none [0, 1, 5]) (.block 0 (.loop (.seq (.seq (.reg [⟨some 11, none, .mv (.t 5)⟩, ⟨some 12, none, .mv (.t 0)⟩, ⟨some 13, none, .len (.t 12) false⟩, ⟨some 14, none, .bin false .lss (.t 11) (.t 13)⟩] none [0, 1, 5, 14]) (.cond (.t 14) .skip (.exit 0))) (.seq (.block 1 (.seq (.reg [⟨some 17, none, .mv (.t 0)⟩, ⟨some 18, none, .mv (.t 5)⟩, ⟨some 19, none, .ia (.t 17) (.t 18) 1⟩, ⟨some 20, none, .load (.t 19) none⟩, ⟨some 21, none, .mv (.t 1)⟩, ⟨some 22, none, .mv (.t 5)⟩, ⟨some 23, none, .ia (.t 21) (.t 22) 1⟩, ⟨some 24, none, .load (.t 23) none⟩, ⟨some 25, none, .bin false .neq (.t 20) (.t 24)⟩] (some 8) [0, 1, 5, 25]) (.cond (.t 25) (.seq (.reg [⟨some 4, none, .mv (.k (.c (.bool false)))⟩] none [4]) .ret) .skip))) (.reg [⟨some 15, none, .mv (.t 5)⟩, ⟨some 16, none, .bin false .add (.t 15) (.k (.c (.int .i64 1)))⟩, ⟨some 5, none, .mv (.t 16)⟩] none [0, 1, 5])))))) (.seq (.reg [⟨some 4, none, .mv (.k (.c (.bool true)))⟩] none [4]) .ret))))
theorem chk_eqStringS : chkX Go.Proofs.Tryd.prog 26 (Go.Proofs.Tryd.f51.body.getD .skip) x_eqStringS = true := by kernel_rfl
theorem rs_eqStringS : okRs Go.Proofs.Tryd.prog Go.Proofs.Tryd.f51.results.toList [.tmp 4] = true := by kernel_rfl
theorem call_eqStringS : okCallee Go.Proofs.Tryd.prog 51 = true := by kernel_rfl
def x_eqValS : X := (.seq (.reg [⟨some 4, none, .mv (.k (.c (.bool false)))⟩] none [0, 1]) (.seq (.seq (.reg [⟨some 6, none, .mv (.t 0)⟩, ⟨some 7, none, .len (.t 6) false⟩, ⟨some 8, none, .mv (.t 1)⟩, ⟨some 9, none, .len (.t 8) false⟩, ⟨some 10, none, .bin false .neq (.t 7) (.t 9)⟩] none [0, 1, 10]) (.cond (.t 10) (.seq (.reg [⟨some 4, none, .mv (.k (.c (.bool false)))⟩] none [4]) .ret) .skip)) (.seq (.seq (.reg [⟨some 5, none, .mv (.k (.c (.int .i64 0)))⟩] none [0, 1, 5]) (.block 0 (.loop (.seq (.seq (.reg [⟨some 11, none, .mv (.t 5)⟩, ⟨some 12, none, .mv (.t 0)⟩, ⟨some 13, none, .len (.t 12) false⟩, ⟨some 14, none, .bin false .lss (.t 11) (.t 13)⟩] none [0, 1, 5, 14]) (.cond (.t 14) .skip (.exit 0))) (.seq (.block 1 (.seq (.reg [⟨some 17, none, .mv (.t 0)⟩, ⟨some 18, none, .mv (.t 5)⟩, ⟨some 19, none, .ia (.t 17) (.t 18) 5⟩, ⟨some 20, none, .load (.t 19) (some 5)⟩, ⟨some 21, none, .mv (.t 1)⟩, ⟨some 22, none, .mv (.t 5)⟩, ⟨some 23, none, .ia (.t 21) (.t 22) 5⟩, ⟨some 24, none, .load (.t 23) (some 5)⟩, ⟨some 25, none, .call 31 [(.t 20), (.t 24)]⟩, ⟨some 26, none, .not (.t 25)⟩] (some 8) [0, 1, 5, 26]) (.cond (.t 26) (.seq (.reg [⟨some 4, none, .mv (.k (.c (.bool false)))⟩] none [4]) .ret) .skip))) (.reg [⟨some 15, none, .mv (.t 5)⟩, ⟨some 16, none, .bin false .add (.t 15) (.k (.c (.int .i64 1)))⟩, ⟨some 5, none, .mv (.t 16)⟩] none [0, 1, 5])))))) (.seq (.reg [⟨some 4, none, .mv (.k (.c (.bool true)))⟩] none [4]) .ret))))
theorem chk_eqValS : chkX Go.Proofs.Tryd.prog 27 (Go.Proofs.Tryd.f52.body.getD .skip) x_eqValS = true := by kernel_rfl
theorem rs_eqValS : okRs Go.Proofs.Tryd.prog Go.Proofs.Tryd.f52.results.toList [.tmp 4] = true := by kernel_rfl
theorem call_eqValS : okCallee Go.Proofs.Tryd.prog 52 = true := by kernel_rfl
def x_eqVal : X := (.seq (.reg [⟨some 2, none, .box (.t 0) (some 5)⟩, ⟨some 3, none, .box (.t 1) (some 5)⟩, ⟨some 4, none, .mv (.k (.c (.bool false)))⟩] none [2, 3]) (.seq (.seq (.reg [⟨some 5, none, .fa (.t 2) 0⟩, ⟨some 6, none, .load (.t 5) none⟩, ⟨some 7, none, .fa (.t 3) 0⟩, ⟨some 8, none, .load (.t 7) none⟩, ⟨some 9, none, .bin false .neq (.t 6) (.t 8)⟩] none [2, 3, 9]) (.cond (.t 9) (.seq (.reg [⟨some 4, none, .mv (.k (.c (.bool false)))⟩] none [4]) .ret) .skip)) (.seq (.seq (.reg [⟨some 10, none, .fa (.t 2) 1⟩, ⟨some 11, none, .load (.t 10) none⟩, ⟨some 12, none, .fa (.t 3) 1⟩, ⟨some 13, none, .load (.t 12) none⟩, ⟨some 14, none, .bin false .neq (.t 11) (.t 13)⟩] none [2, 3, 14]) (.cond (.t 14) (.seq (.reg [⟨some 4, none, .mv (.k (.c (.bool false)))⟩] none [4]) .ret) .skip)) (.seq (.seq (.reg [⟨some 15, none, .fa (.t 2) 2⟩, ⟨some 16, none, .load (.t 15) none⟩, ⟨some 17, none, .fa (.t 3) 2⟩, ⟨some 18, none, .load (.t 17) none⟩, ⟨some 19, none, .bin false .neq (.t 16) (.t 18)⟩] none [2, 3, 19]) (.cond (.t 19) (.seq (.reg [⟨some 4, none, .mv (.k (.c (.bool false)))⟩] none [4]) .ret) .skip)) (.seq (.seq (.reg [⟨some 20, none, .fa (.t 2) 3⟩, ⟨some 21, none, .load (.t 20) none⟩, ⟨some 22, none, .fa (.t 3) 3⟩, ⟨some 23, none, .load (.t 22) none⟩, ⟨some 24, none, .call 51 [(.t 21), (.t 23)]⟩, ⟨some 25, none, .not (.t 24)⟩] none [2, 3, 25]) (.cond (.t 25) (.seq (.reg [⟨some 4, none, .mv (.k (.c (.bool false)))⟩] none [4]) .ret) .skip)) (.seq (.seq (.reg [⟨some 26, none, .fa (.t 2) 4⟩, ⟨some 27, none, .load (.t 26) none⟩, ⟨some 28, none, .fa (.t 3) 4⟩, ⟨some 29, none, .load (.t 28) none⟩, ⟨some 30, none, .call 52 [(.t 27), (.t 29)]⟩, ⟨some 31, none, .not (.t 30)⟩] none [31]) (.cond (.t 31) (.seq (.reg [⟨some 4, none, .mv (.k (.c (.bool false)))⟩] none [4]) .ret) .skip)) (.seq (.reg [⟨some 4, none, .mv (.k (.c (.bool true)))⟩] none [4]) .ret)))))))
theorem chk_eqVal : chkX Go.Proofs.Tryd.prog 32 (Go.Proofs.Tryd.f31.body.getD .skip) x_eqVal = true := by kernel_rfl
theorem rs_eqVal : okRs Go.Proofs.Tryd.prog Go.Proofs.Tryd.f31.results.toList [.tmp 4] = true := by kernel_rfl
theorem call_eqVal : okCallee Go.Proofs.Tryd.prog 31 = true := by kernel_rfl
noncomputable def spEqStrS  : Spec := Spec.of (ι := (List ByteArray) × (List ByteArray)) [false, false] (fun i => [.d (.one (.row 1 (strs i.1))), .d (.one (.row 1 (strs i.2)))]) (fun i => lenB 1048576 i.1.length ∧ lenB 1048576 i.2.length) (fun i => [.d (.one (.bool (decide (i.1 = i.2))))]) (fun _ => [.gone, .gone])
theorem spEqStrS_inj : ∀ i j : (List ByteArray) × (List ByteArray), (fun (i : (List ByteArray) × (List ByteArray)) => ([.d (.one (.row 1 (strs i.1))), .d (.one (.row 1 (strs i.2)))] : List AV)) i = (fun (i : (List ByteArray) × (List ByteArray)) => ([.d (.one (.row 1 (strs i.1))), .d (.one (.row 1 (strs i.2)))] : List AV)) j → i = j := by
  rintro ⟨a, b⟩ ⟨a', b'⟩ h
  simp only [Prod.mk.injEq]
  simpa [strs_eq, T.enc_eq, encL_eq, F.enc_eq, encF_eq, Tk.enc_eq, encTk_eq, Gn.enc_eq, ints_eq] using h
theorem spEqStrS_md  : (spEqStrS).md = [false, false] := rfl
theorem spEqStrS_pre  (a : List ByteArray) (b : List ByteArray) : (spEqStrS).pre [.d (.one (.row 1 (strs a))), .d (.one (.row 1 (strs b)))] = (lenB 1048576 a.length ∧ lenB 1048576 b.length) := Spec.of_pre' spEqStrS_inj (a, b)
theorem spEqStrS_alts  : (spEqStrS).alts = none := rfl
theorem spEqStrS_res  (a : List ByteArray) (b : List ByteArray) : (spEqStrS).res [.d (.one (.row 1 (strs a))), .d (.one (.row 1 (strs b)))] = [.d (.one (.bool (decide (a = b))))] := Spec.of_res spEqStrS_inj (a, b)
theorem spEqStrS_out  (a : List ByteArray) (b : List ByteArray) : (spEqStrS).out [.d (.one (.row 1 (strs a))), .d (.one (.row 1 (strs b)))] = [.gone, .gone] := Spec.of_out spEqStrS_inj (a, b)
theorem eqStrS_sound : Sound Go.Proofs.Tryd.prog 51 spEqStrS := by
  refine sound_fam GOK.nil Go.Proofs.Tryd.func51 (c := Go.Proofs.Tryd.f51.body.getD .skip) rfl (n := 26) rfl chk_eqStringS rs_eqStringS (fun _ => by simp) ?_ ?_
  · exact spEqStrS_inj
  · rintro ⟨a, b⟩ h1
    obtain h1 := h1
    simp only [lenB] at h1
    skip
    skip
    by_cases hl : a.length = b.length
    · have b1 : ((a.length : Int) = (b.length : Int)) = True := by simp [hl]
      simp only [x_eqStringS, rg, go_sem, seval, b1, not_true_eq_false]
      refine pw_loop (ι := Nat) (fun i => a.length - i) (fun i => i ≤ a.length ∧ a.take i = b.take i)
        (fun i => ⟨[(0, .q (.c (.row 1 (strs a)))), (1, .q (.c (.row 1 (strs b)))), (5, .q (.c (.int .i64 i)))], [], []⟩) 0 ⟨Nat.zero_le _, rfl⟩ (Le.refl _) ?_
      rintro i ⟨hi, heq⟩
      rcases Nat.lt_or_ge i a.length with hlt | hge
      · obtain ⟨s, hs, _, hmem⟩ := drop_at hlt
        obtain ⟨s', hs', _, hmem'⟩ := drop_at (l := b) (i := i) (by omega)
        have a1 := strs_at hs
        have a1' := strs_at hs'
        have a2 : ((i : Int) < (a.length : Int)) = True := by simp; omega
        have a3 : ((i : Int) < (b.length : Int)) = True := by simp; omega
        skip
        skip
        skip
        skip
        skip
        by_cases hc : s = s'
        · have c1 : (s = s') = True := by simp [hc]
          simp only [go_sem, seval, rg, a1, a1', a2, a3, c1, not_true_eq_false]
          repeat' (first | with_reducible assumption | with_reducible refine And.intro ?_ ?_ | intro _)
          all_goals first | omega | skip
          exact ⟨i + 1, ⟨by omega, take_at hs (hc ▸ hs') heq⟩, by omega, Le.refl _⟩
        · have c1 : (s = s') = False := by simp [hc]
          simp only [go_sem, seval, rg, a1, a1', a2, a3, c1, not_false_eq_true]
          repeat' (first | with_reducible assumption | with_reducible refine And.intro ?_ ?_ | intro _)
          all_goals first | omega | skip
          rename_i h; exact ne_at hs hs' hc h
      · have a2 : ((i : Int) < (a.length : Int)) = False := by simp; omega
        have hie : i = a.length := by omega
        subst hie
        simp only [go_sem, seval, a2]
        exact take_all hl heq
    · have b1 : ((a.length : Int) = (b.length : Int)) = False := by simp; omega
      simp only [x_eqStringS, rg, go_sem, seval, b1, not_false_eq_true]
      exact fun e => hl (by rw [e])
noncomputable def spEqTS (k:Nat) : Spec := Spec.of (ι := (List T) × (List T)) [false, false] (fun i => [.d (.one (.row 5 (encL i.1))), .d (.one (.row 5 (encL i.2)))]) (fun i => (lenB 1048576 i.1.length ∧ fitL 1048576 i.1 ∧ lenB 1048576 i.2.length ∧ fitL 1048576 i.2) ∧ SizeOf.sizeOf i.1 < k) (fun i => [.d (.one (.bool (decide (i.1 = i.2))))]) (fun _ => [.gone, .gone])
theorem spEqTS_inj : ∀ i j : (List T) × (List T), (fun (i : (List T) × (List T)) => ([.d (.one (.row 5 (encL i.1))), .d (.one (.row 5 (encL i.2)))] : List AV)) i = (fun (i : (List T) × (List T)) => ([.d (.one (.row 5 (encL i.1))), .d (.one (.row 5 (encL i.2)))] : List AV)) j → i = j := by
  rintro ⟨a, b⟩ ⟨a', b'⟩ h
  simp only [Prod.mk.injEq]
  simpa [strs_eq, T.enc_eq, encL_eq, F.enc_eq, encF_eq, Tk.enc_eq, encTk_eq, Gn.enc_eq, ints_eq] using h
theorem spEqTS_md (k:Nat) : (spEqTS k).md = [false, false] := rfl
theorem spEqTS_pre (k:Nat) (a : List T) (b : List T) : (spEqTS k).pre [.d (.one (.row 5 (encL a))), .d (.one (.row 5 (encL b)))] = ((lenB 1048576 a.length ∧ fitL 1048576 a ∧ lenB 1048576 b.length ∧ fitL 1048576 b) ∧ SizeOf.sizeOf a < k) := Spec.of_pre' spEqTS_inj (a, b)
theorem spEqTS_alts (k:Nat) : (spEqTS k).alts = none := rfl
theorem spEqTS_res (k:Nat) (a : List T) (b : List T) : (spEqTS k).res [.d (.one (.row 5 (encL a))), .d (.one (.row 5 (encL b)))] = [.d (.one (.bool (decide (a = b))))] := Spec.of_res spEqTS_inj (a, b)
theorem spEqTS_out (k:Nat) (a : List T) (b : List T) : (spEqTS k).out [.d (.one (.row 5 (encL a))), .d (.one (.row 5 (encL b)))] = [.gone, .gone] := Spec.of_out spEqTS_inj (a, b)
noncomputable def spEqT (k:Nat) : Spec := Spec.of (ι := T × T) [false, false] (fun i => [.d (.agg i.1.enc), .d (.agg i.2.enc)]) (fun i => (i.1.fit 1048576 ∧ i.2.fit 1048576) ∧ SizeOf.sizeOf i.1 < k) (fun i => [.d (.one (.bool (decide (i.1 = i.2))))]) (fun _ => [.gone, .gone])
theorem spEqT_inj : ∀ i j : T × T, (fun (i : T × T) => ([.d (.agg i.1.enc), .d (.agg i.2.enc)] : List AV)) i = (fun (i : T × T) => ([.d (.agg i.1.enc), .d (.agg i.2.enc)] : List AV)) j → i = j := by
  rintro ⟨a, b⟩ ⟨a', b'⟩ h
  simp only [Prod.mk.injEq]
  simpa [strs_eq, T.enc_eq, encL_eq, F.enc_eq, encF_eq, Tk.enc_eq, encTk_eq, Gn.enc_eq, ints_eq] using h
theorem spEqT_md (k:Nat) : (spEqT k).md = [false, false] := rfl
theorem spEqT_pre (k:Nat) (a : T) (b : T) : (spEqT k).pre [.d (.agg a.enc), .d (.agg b.enc)] = ((a.fit 1048576 ∧ b.fit 1048576) ∧ SizeOf.sizeOf a < k) := Spec.of_pre' spEqT_inj (a, b)
theorem spEqT_alts (k:Nat) : (spEqT k).alts = none := rfl
theorem spEqT_res (k:Nat) (a : T) (b : T) : (spEqT k).res [.d (.agg a.enc), .d (.agg b.enc)] = [.d (.one (.bool (decide (a = b))))] := Spec.of_res spEqT_inj (a, b)
theorem spEqT_out (k:Nat) (a : T) (b : T) : (spEqT k).out [.d (.agg a.enc), .d (.agg b.enc)] = [.gone, .gone] := Spec.of_out spEqT_inj (a, b)
theorem eqT_sound (k : Nat) (hS : Sound Go.Proofs.Tryd.prog 52 (spEqTS k)) : Sound Go.Proofs.Tryd.prog 31 (spEqT (k + 1)) := by
  refine sound_fam (GOK.cons (l := [(52, spEqTS k)]) call_eqStringS eqStrS_sound (GOK.cons call_eqValS hS GOK.nil)) Go.Proofs.Tryd.func31 (c := Go.Proofs.Tryd.f31.body.getD .skip) rfl (n := 32) rfl chk_eqVal rs_eqVal (fun _ => by simp) ?_ ?_
  · exact spEqT_inj
  · rintro ⟨a, b⟩ ⟨⟨h1, h2⟩, h4⟩
    obtain ⟨kk, n, s, ks, l⟩ := a
    obtain ⟨kk', n', s', ks', l'⟩ := b
    simp only [T.fit, strsFit] at h1 h2
    obtain ⟨_, _, f1, ⟨f2, f2'⟩, f3, f4⟩ := h1
    obtain ⟨_, _, g1, ⟨g2, g2'⟩, g3, g4⟩ := h2
    have e3 : SizeOf.sizeOf l < k := by have e : SizeOf.sizeOf (T.mk kk n s ks l) < k + 1 := h4
                                        rw [T.mk.sizeOf_spec] at e; omega
    simp only [x_eqVal, T.enc, go_sem, seval, rg, spEqStrS_md, spEqStrS_pre, spEqStrS_alts, spEqStrS_res, spEqStrS_out, spEqTS_md, spEqTS_pre, spEqTS_alts, spEqTS_res, spEqTS_out, T.mk.injEq]
    repeat' (first | with_reducible assumption | with_reducible refine And.intro ?_ ?_ | intro _)
    all_goals first | omega | (simp_all; done) | skip
theorem eqTS_sound (k : Nat) (hS : Sound Go.Proofs.Tryd.prog 31 (spEqT k)) : Sound Go.Proofs.Tryd.prog 52 (spEqTS (k + 1)) := by
  refine sound_fam (GOK.cons call_eqVal hS GOK.nil) Go.Proofs.Tryd.func52 (c := Go.Proofs.Tryd.f52.body.getD .skip) rfl (n := 27) rfl chk_eqValS rs_eqValS (fun _ => by simp) ?_ ?_
  · exact spEqTS_inj
  · rintro ⟨a, b⟩ h1
    obtain ⟨h1, h3⟩ := h1
    simp only at h3
    simp only [lenB] at h1
    have fa := fitL_mem h1.2.1
    have fb := fitL_mem h1.2.2.2
    by_cases hl : a.length = b.length
    · have b1 : ((a.length : Int) = (b.length : Int)) = True := by simp [hl]
      simp only [x_eqValS, rg, go_sem, seval, b1, not_true_eq_false]
      refine pw_loop (ι := Nat) (fun i => a.length - i) (fun i => i ≤ a.length ∧ a.take i = b.take i)
        (fun i => ⟨[(0, .q (.c (.row 5 (encL a)))), (1, .q (.c (.row 5 (encL b)))), (5, .q (.c (.int .i64 i)))], [], []⟩) 0 ⟨Nat.zero_le _, rfl⟩ (Le.refl _) ?_
      rintro i ⟨hi, heq⟩
      rcases Nat.lt_or_ge i a.length with hlt | hge
      · obtain ⟨s, hs, _, hmem⟩ := drop_at hlt
        obtain ⟨s', hs', _, hmem'⟩ := drop_at (l := b) (i := i) (by omega)
        have a1 := encL_at hs
        have a1' := encL_at hs'
        have a2 : ((i : Int) < (a.length : Int)) = True := by simp; omega
        have a3 : ((i : Int) < (b.length : Int)) = True := by simp; omega
        have a6 := T.enc_len s
        have a6' := T.enc_len s'
        have a7 := fa s hmem
        have a7' := fb s' hmem'
        have a8 := size_mem hmem
        by_cases hc : s = s'
        · have c1 : (s = s') = True := by simp [hc]
          simp only [go_sem, seval, rg, a1, a1', a2, a3, c1, not_true_eq_false, a6, a6', spEqT_md, spEqT_pre, spEqT_alts, spEqT_res, spEqT_out]
          repeat' (first | with_reducible assumption | with_reducible refine And.intro ?_ ?_ | intro _)
          all_goals first | omega | skip
          exact ⟨i + 1, ⟨by omega, take_at hs (hc ▸ hs') heq⟩, by omega, Le.refl _⟩
        · have c1 : (s = s') = False := by simp [hc]
          simp only [go_sem, seval, rg, a1, a1', a2, a3, c1, not_false_eq_true, a6, a6', spEqT_md, spEqT_pre, spEqT_alts, spEqT_res, spEqT_out]
          repeat' (first | with_reducible assumption | with_reducible refine And.intro ?_ ?_ | intro _)
          all_goals first | omega | skip
          rename_i h; exact ne_at hs hs' hc h
      · have a2 : ((i : Int) < (a.length : Int)) = False := by simp; omega
        have hie : i = a.length := by omega
        subst hie
        simp only [go_sem, seval, a2]
        exact take_all hl heq
    · have b1 : ((a.length : Int) = (b.length : Int)) = False := by simp; omega
      simp only [x_eqValS, rg, go_sem, seval, b1, not_false_eq_true]
      exact fun e => hl (by rw [e])
theorem eqT_all (k : Nat) : Sound Go.Proofs.Tryd.prog 31 (spEqT k) ∧ Sound Go.Proofs.Tryd.prog 52 (spEqTS k) := by
  induction k with
  | zero => exact ⟨Sound.none, Sound.none⟩
  | succ k ih => exact ⟨eqT_sound k ih.2, eqTS_sound k ih.1⟩
noncomputable def spEqV  : Spec := Spec.of (ι := T × T) [false, false] (fun i => [.d (.agg i.1.enc), .d (.agg i.2.enc)]) (fun i => i.1.fit 1048576 ∧ i.2.fit 1048576) (fun i => [.d (.one (.bool (decide (i.1 = i.2))))]) (fun _ => [.gone, .gone])
theorem spEqV_inj : ∀ i j : T × T, (fun (i : T × T) => ([.d (.agg i.1.enc), .d (.agg i.2.enc)] : List AV)) i = (fun (i : T × T) => ([.d (.agg i.1.enc), .d (.agg i.2.enc)] : List AV)) j → i = j := by
  rintro ⟨a, b⟩ ⟨a', b'⟩ h
  simp only [Prod.mk.injEq]
  simpa [strs_eq, T.enc_eq, encL_eq, F.enc_eq, encF_eq, Tk.enc_eq, encTk_eq, Gn.enc_eq, ints_eq] using h
theorem spEqV_md  : (spEqV).md = [false, false] := rfl
theorem spEqV_pre  (a : T) (b : T) : (spEqV).pre [.d (.agg a.enc), .d (.agg b.enc)] = (a.fit 1048576 ∧ b.fit 1048576) := Spec.of_pre' spEqV_inj (a, b)
theorem spEqV_alts  : (spEqV).alts = none := rfl
theorem spEqV_res  (a : T) (b : T) : (spEqV).res [.d (.agg a.enc), .d (.agg b.enc)] = [.d (.one (.bool (decide (a = b))))] := Spec.of_res spEqV_inj (a, b)
theorem spEqV_out  (a : T) (b : T) : (spEqV).out [.d (.agg a.enc), .d (.agg b.enc)] = [.gone, .gone] := Spec.of_out spEqV_inj (a, b)
theorem eqV_sound : Sound Go.Proofs.Tryd.prog 31 spEqV := Sound.all (μ := fun i => SizeOf.sizeOf i.1) (fun k => (eqT_all k).1)
end Go.Proofs.Pw
