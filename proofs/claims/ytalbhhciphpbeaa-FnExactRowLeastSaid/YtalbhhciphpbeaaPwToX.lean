/- Copies of trees that nobody else holds: the functions of the laws' text. -/
import Derived.Test.YtalbhhciphpbeaaPwPlMk
import Derived.Test.YtalbhhciphpbeaaPwD
import Derived.Test.YtalbhhciphpbeaaProg
import Derived.KernelRfl
set_option linter.unusedSimpArgs false
set_option linter.unusedVariables false
set_option linter.unusedSimpArgs false
set_option maxRecDepth 20000
namespace Go.Proofs.Pw
set_option linter.unusedSectionVars false
variable [Globs]
def x_toStringS : X := (.seq (.reg [⟨some 2, none, .mv (.k (.z 1))⟩] none [0]) (.seq (.reg [⟨some 5, none, .mv (.t 0)⟩, ⟨some 6, none, .len (.t 5) false⟩, ⟨some 7, none, .mk (.t 6) [(.str ⟨#[]⟩)] 16⟩, ⟨some 3, none, .mv (.t 7)⟩] none [0, 3]) (.seq (.seq (.reg [⟨some 4, none, .mv (.k (.c (.int .i64 0)))⟩] none [0, 3, 4]) (.block 0 (.loop (.seq (.seq (.reg [⟨some 8, none, .mv (.t 4)⟩, ⟨some 9, none, .mv (.t 0)⟩, ⟨some 10, none, .len (.t 9) false⟩, ⟨some 11, none, .bin false .lss (.t 8) (.t 10)⟩] none [0, 3, 4, 11]) (.cond (.t 11) .skip (.exit 0))) (.seq (.block 1 (.reg [⟨some 14, none, .mv (.t 3)⟩, ⟨some 15, none, .mv (.t 4)⟩, ⟨some 16, none, .mv (.t 0)⟩, ⟨some 17, none, .mv (.t 4)⟩, ⟨some 18, none, .ia (.t 16) (.t 17) 1⟩, ⟨some 19, none, .load (.t 18) none⟩, ⟨some 20, none, .ia (.t 14) (.t 15) 1⟩, ⟨none, none, .st (.t 20) (.t 19) none⟩] none [0, 3, 4])) (.reg [⟨some 12, none, .mv (.t 4)⟩, ⟨some 13, none, .bin false .add (.t 12) (.k (.c (.int .i64 1)))⟩, ⟨some 4, none, .mv (.t 13)⟩] none [0, 3, 4])))))) (.seq (.reg [⟨some 21, none, .mv (.t 3)⟩, ⟨some 2, none, .mv (.t 21)⟩] none [2]) .ret))))
theorem chk_toStringS : chkX Go.Proofs.Try.prog 22 (Go.Proofs.Try.f26.body.getD .skip) x_toStringS = true := by kernel_rfl
theorem rs_toStringS : okRs Go.Proofs.Try.prog Go.Proofs.Try.f26.results.toList [.tmp 2] = true := by kernel_rfl
theorem call_toStringS : okCallee Go.Proofs.Try.prog 26 = true := by kernel_rfl
def x_toValS : X := (.seq (.reg [⟨some 2, none, .mv (.k (.z 5))⟩] none [0]) (.seq (.reg [⟨some 5, none, .mv (.t 0)⟩, ⟨some 6, none, .len (.t 5) false⟩, ⟨some 7, none, .mk (.t 6) [(.int .i64 0), (.int .i64 0), (.str ⟨#[]⟩), (.row 1 []), (.row 5 [])] 80⟩, ⟨some 3, none, .mv (.t 7)⟩] none [0, 3]) (.seq (.seq (.reg [⟨some 4, none, .mv (.k (.c (.int .i64 0)))⟩] none [0, 3, 4]) (.block 0 (.loop (.seq (.seq (.reg [⟨some 8, none, .mv (.t 4)⟩, ⟨some 9, none, .mv (.t 0)⟩, ⟨some 10, none, .len (.t 9) false⟩, ⟨some 11, none, .bin false .lss (.t 8) (.t 10)⟩] none [0, 3, 4, 11]) (.cond (.t 11) .skip (.exit 0))) (.seq (.block 1 (.reg [⟨some 14, none, .mv (.t 3)⟩, ⟨some 15, none, .mv (.t 4)⟩, ⟨some 16, none, .mv (.t 0)⟩, ⟨some 17, none, .mv (.t 4)⟩, ⟨some 18, none, .ia (.t 16) (.t 17) 5⟩, ⟨some 19, none, .load (.t 18) (some 5)⟩, ⟨some 20, none, .call 9 [(.t 19)]⟩, ⟨some 21, none, .ia (.t 14) (.t 15) 5⟩, ⟨none, none, .stx (.t 21) (.t 20) (some 5)⟩] none [0, 3, 4])) (.reg [⟨some 12, none, .mv (.t 4)⟩, ⟨some 13, none, .bin false .add (.t 12) (.k (.c (.int .i64 1)))⟩, ⟨some 4, none, .mv (.t 13)⟩] none [0, 3, 4])))))) (.seq (.reg [⟨some 22, none, .mv (.t 3)⟩, ⟨some 2, none, .mv (.t 22)⟩] none [2]) .ret))))
theorem chk_toValS : chkX Go.Proofs.Try.prog 23 (Go.Proofs.Try.f27.body.getD .skip) x_toValS = true := by kernel_rfl
theorem rs_toValS : okRs Go.Proofs.Try.prog Go.Proofs.Try.f27.results.toList [.tmp 2] = true := by kernel_rfl
theorem call_toValS : okCallee Go.Proofs.Try.prog 27 = true := by kernel_rfl
def x_toVal : X := (.seq (.reg [⟨some 1, none, .box (.t 0) (some 5)⟩, ⟨some 2, none, .alloc [(.c (.int .i64 0)), (.c (.int .i64 0)), (.c (.str ⟨#[]⟩)), (.z 1), (.z 5)]⟩] none [1, 2]) (.seq (.reg [⟨some 3, none, .alloc [(.c (.int .i64 0)), (.c (.int .i64 0)), (.c (.str ⟨#[]⟩)), (.z 1), (.z 5)]⟩] none [1, 2, 3]) (.seq (.reg [⟨some 4, none, .fa (.t 1) 0⟩, ⟨some 5, none, .load (.t 4) none⟩, ⟨some 6, none, .fa (.t 3) 0⟩, ⟨none, none, .st (.t 6) (.t 5) none⟩] none [1, 2, 3]) (.seq (.reg [⟨some 7, none, .fa (.t 1) 1⟩, ⟨some 8, none, .load (.t 7) none⟩, ⟨some 9, none, .fa (.t 3) 1⟩, ⟨none, none, .st (.t 9) (.t 8) none⟩] none [1, 2, 3]) (.seq (.reg [⟨some 10, none, .fa (.t 1) 2⟩, ⟨some 11, none, .load (.t 10) none⟩, ⟨some 12, none, .fa (.t 3) 2⟩, ⟨none, none, .st (.t 12) (.t 11) none⟩] none [1, 2, 3]) (.seq (.reg [⟨some 13, none, .fa (.t 1) 3⟩, ⟨some 14, none, .load (.t 13) none⟩, ⟨some 15, none, .call 26 [(.t 14)]⟩, ⟨some 16, none, .fa (.t 3) 3⟩, ⟨none, none, .st (.t 16) (.t 15) none⟩] none [1, 2, 3]) (.seq (.reg [⟨some 17, none, .fa (.t 1) 4⟩, ⟨some 18, none, .load (.t 17) none⟩, ⟨some 19, none, .call 27 [(.t 18)]⟩, ⟨some 20, none, .fa (.t 3) 4⟩, ⟨none, none, .st (.t 20) (.t 19) none⟩] none [2, 3]) (.seq (.reg [⟨some 21, none, .load (.t 3) (some 5)⟩, ⟨none, none, .st (.t 2) (.t 21) (some 5)⟩] none [2]) .ret))))))))
theorem chk_toVal : chkX Go.Proofs.Try.prog 22 (Go.Proofs.Try.f9.body.getD .skip) x_toVal = true := by kernel_rfl
theorem rs_toVal : okRs Go.Proofs.Try.prog Go.Proofs.Try.f9.results.toList [.cell 2 (some 5)] = true := by kernel_rfl
theorem call_toVal : okCallee Go.Proofs.Try.prog 9 = true := by kernel_rfl
noncomputable def spToStrO  : Spec := Spec.of (ι := (List ByteArray)) [false] (fun i => [.d (.one (.row 1 (strs i)))]) (fun i => lenB 1048576 i.length) (fun i => [.own 1 (strs i)]) (fun _ => [.gone])
theorem spToStrO_inj : ∀ i j : (List ByteArray), (fun (i : (List ByteArray)) => ([.d (.one (.row 1 (strs i)))] : List AV)) i = (fun (i : (List ByteArray)) => ([.d (.one (.row 1 (strs i)))] : List AV)) j → i = j := by
  intro ks ks' h
  simpa [strs_eq, T.enc_eq, encL_eq, F.enc_eq, encF_eq, Tk.enc_eq, encTk_eq, Gn.enc_eq, ints_eq] using h
theorem spToStrO_md  : (spToStrO).md = [false] := rfl
theorem spToStrO_pre  (ks : List ByteArray) : (spToStrO).pre [.d (.one (.row 1 (strs ks)))] = (lenB 1048576 ks.length) := Spec.of_pre' spToStrO_inj ks
theorem spToStrO_alts  : (spToStrO).alts = none := rfl
theorem spToStrO_res  (ks : List ByteArray) : (spToStrO).res [.d (.one (.row 1 (strs ks)))] = [.own 1 (strs ks)] := Spec.of_res spToStrO_inj ks
theorem spToStrO_out  (ks : List ByteArray) : (spToStrO).out [.d (.one (.row 1 (strs ks)))] = [.gone] := Spec.of_out spToStrO_inj ks
theorem toStrO_sound : Sound Go.Proofs.Try.prog 26 spToStrO := by
  refine sound_fam GOK.nil Go.Proofs.Try.func26 (c := Go.Proofs.Try.f26.body.getD .skip) rfl (n := 22) rfl chk_toStringS rs_toStringS (fun _ => by simp) ?_ ?_
  · exact spToStrO_inj
  · intro ks h1
    simp only [lenB] at h1
    simp only [x_toStringS, rg, go_sem, seval]
    repeat' (first | with_reducible assumption | with_reducible refine And.intro ?_ ?_ | intro _)
    all_goals first | omega | skip
    have hl : (strs ks).length = (List.replicate ks.length [C.str ⟨#[]⟩]).length := by simp [strs_len]
    refine pw_loop (ι := Nat) (fun i => ks.length - i) (fun i => i ≤ ks.length)
      (fun i => ⟨[(0, .q (.c (.row 1 (strs ks)))), (3, .q (.own 7)), (4, .q (.c (.int .i64 i)))], [], [(7, 1, (strs ks).take i ++ (List.replicate ks.length [C.str ⟨#[]⟩]).drop i)]⟩) 0 (Nat.zero_le _) (Le.refl _) ?_
    intro i hi
    rcases Nat.lt_or_ge i ks.length with hlt | hge
    · obtain ⟨s, hs, hdr, hmem⟩ := drop_at hlt
      have a1 := strs_at hs
      have a2 : ((i : Int) < (ks.length : Int)) = True := by simp; omega
      have a3 : ((strs ks).take i ++ (List.replicate ks.length [C.str ⟨#[]⟩]).drop i).length = ks.length := by rw [fill_len hl]; simp
      have a4 : ((strs ks).take i ++ (List.replicate ks.length [C.str ⟨#[]⟩]).drop i).getD i [] = [C.str ⟨#[]⟩] := by rw [fill_get hl (by rw [strs_len]; exact hlt), getD_rep hlt]
      have a5 : ((strs ks).take i ++ (List.replicate ks.length [C.str ⟨#[]⟩]).drop i).set i [C.str s] = (strs ks).take (i + 1) ++ (List.replicate ks.length [C.str ⟨#[]⟩]).drop (i + 1) := fill_set hl (by simp [strs, hs])
      simp only [go_sem, seval, rg, a1, a2, a3, a4, a5]
      repeat' (first | with_reducible assumption | with_reducible refine And.intro ?_ ?_ | intro _)
      all_goals first | omega | skip
      exact ⟨i + 1, by omega, by omega, Le.refl _⟩
    · have a2 : ((i : Int) < (ks.length : Int)) = False := by simp; omega
      have hie : i = (strs ks).length := by rw [strs_len]; omega
      have a3 : (strs ks).take i ++ (List.replicate ks.length [C.str ⟨#[]⟩]).drop i = strs ks := by rw [hie]; exact fill_all hl
      simp only [go_sem, seval, a2, a3]
noncomputable def spToXS (k:Nat) : Spec := Spec.of (ι := (List T)) [false] (fun i => [.d (.one (.row 5 (encL i)))]) (fun i => (lenB 1048576 i.length ∧ fitL 1048576 i) ∧ SizeOf.sizeOf i < k) (fun i => [.own 5 (encLX i)]) (fun _ => [.gone])
theorem spToXS_inj : ∀ i j : (List T), (fun (i : (List T)) => ([.d (.one (.row 5 (encL i)))] : List AV)) i = (fun (i : (List T)) => ([.d (.one (.row 5 (encL i)))] : List AV)) j → i = j := by
  intro ks ks' h
  simpa [strs_eq, T.enc_eq, encL_eq, F.enc_eq, encF_eq, Tk.enc_eq, encTk_eq, Gn.enc_eq, ints_eq] using h
theorem spToXS_md (k:Nat) : (spToXS k).md = [false] := rfl
theorem spToXS_pre (k:Nat) (ks : List T) : (spToXS k).pre [.d (.one (.row 5 (encL ks)))] = ((lenB 1048576 ks.length ∧ fitL 1048576 ks) ∧ SizeOf.sizeOf ks < k) := Spec.of_pre' spToXS_inj ks
theorem spToXS_alts (k:Nat) : (spToXS k).alts = none := rfl
theorem spToXS_res (k:Nat) (ks : List T) : (spToXS k).res [.d (.one (.row 5 (encL ks)))] = [.own 5 (encLX ks)] := Spec.of_res spToXS_inj ks
theorem spToXS_out (k:Nat) (ks : List T) : (spToXS k).out [.d (.one (.row 5 (encL ks)))] = [.gone] := Spec.of_out spToXS_inj ks
noncomputable def spToX (k:Nat) : Spec := Spec.of (ι := T) [false] (fun i => [.d (.agg i.enc)]) (fun i => (i.fit 1048576) ∧ SizeOf.sizeOf i < k) (fun i => [.ag (agX i)]) (fun _ => [.gone])
theorem spToX_inj : ∀ i j : T, (fun (i : T) => ([.d (.agg i.enc)] : List AV)) i = (fun (i : T) => ([.d (.agg i.enc)] : List AV)) j → i = j := by
  intro t t' h
  simpa [strs_eq, T.enc_eq, encL_eq, F.enc_eq, encF_eq, Tk.enc_eq, encTk_eq, Gn.enc_eq, ints_eq] using h
theorem spToX_md (k:Nat) : (spToX k).md = [false] := rfl
theorem spToX_pre (k:Nat) (t : T) : (spToX k).pre [.d (.agg t.enc)] = ((t.fit 1048576) ∧ SizeOf.sizeOf t < k) := Spec.of_pre' spToX_inj t
theorem spToX_alts (k:Nat) : (spToX k).alts = none := rfl
theorem spToX_res (k:Nat) (t : T) : (spToX k).res [.d (.agg t.enc)] = [.ag (agX t)] := Spec.of_res spToX_inj t
theorem spToX_out (k:Nat) (t : T) : (spToX k).out [.d (.agg t.enc)] = [.gone] := Spec.of_out spToX_inj t
theorem toX_sound (k : Nat) (hS : Sound Go.Proofs.Try.prog 27 (spToXS k)) : Sound Go.Proofs.Try.prog 9 (spToX (k + 1)) := by
  refine sound_fam (GOK.cons (l := [(27, spToXS k)]) call_toStringS toStrO_sound (GOK.cons call_toValS hS GOK.nil)) Go.Proofs.Try.func9 (c := Go.Proofs.Try.f9.body.getD .skip) rfl (n := 22) rfl chk_toVal rs_toVal (fun _ => by simp) ?_ ?_
  · exact spToX_inj
  · rintro t ⟨h1, h4⟩
    obtain ⟨kk, n, s, ks, l⟩ := t
    simp only [T.fit, strsFit] at h1
    obtain ⟨_, _, f1, ⟨f2, f2'⟩, f3, f4⟩ := h1
    have e3 : SizeOf.sizeOf l < k := by have e : SizeOf.sizeOf (T.mk kk n s ks l) < k + 1 := h4
                                        rw [T.mk.sizeOf_spec] at e; omega
    simp only [x_toVal, T.enc, agX, go_sem, seval, Prod.fst, rg, spToStrO_md, spToStrO_pre, spToStrO_alts, spToStrO_res, spToStrO_out, spToXS_md, spToXS_pre, spToXS_alts, spToXS_res, spToXS_out, Bool.false_or, Bool.or_true, Bool.not_true, Bool.false_eq_true]
    repeat' (first | with_reducible assumption | with_reducible refine And.intro ?_ ?_ | intro _)
    all_goals first | omega | assumption | skip
theorem toXS_sound (k : Nat) (hS : Sound Go.Proofs.Try.prog 9 (spToX k)) : Sound Go.Proofs.Try.prog 27 (spToXS (k + 1)) := by
  refine sound_fam (GOK.cons call_toVal hS GOK.nil) Go.Proofs.Try.func27 (c := Go.Proofs.Try.f27.body.getD .skip) rfl (n := 23) rfl chk_toValS rs_toValS (fun _ => by simp) ?_ ?_
  · exact spToXS_inj
  · intro ks h1
    obtain ⟨⟨h1, h2⟩, h3⟩ := h1
    simp only [lenB] at h1
    simp only [x_toValS, rg, go_sem, seval]
    repeat' (first | with_reducible assumption | with_reducible refine And.intro ?_ ?_ | intro _)
    all_goals first | omega | skip
    have hl : (encLX ks).length = (List.replicate ks.length [C.int .i64 0, C.int .i64 0, C.str ⟨#[]⟩, C.row 1 [], C.row 5 []]).length := by simp [encLX_len]
    refine pw_loop (ι := Nat) (fun i => ks.length - i) (fun i => i ≤ ks.length)
      (fun i => ⟨[(0, .q (.c (.row 5 (encL ks)))), (3, .q (.own 7)), (4, .q (.c (.int .i64 i)))], [], [(7, 5, (encLX ks).take i ++ (List.replicate ks.length [C.int .i64 0, C.int .i64 0, C.str ⟨#[]⟩, C.row 1 [], C.row 5 []]).drop i)]⟩) 0 (Nat.zero_le _) (Le.refl _) ?_
    intro i hi
    rcases Nat.lt_or_ge i ks.length with hlt | hge
    · obtain ⟨s, hs, hdr, hmem⟩ := drop_at hlt
      have a1 := encL_at hs
      have a2 : ((i : Int) < (ks.length : Int)) = True := by simp; omega
      have a3 : ((encLX ks).take i ++ (List.replicate ks.length [C.int .i64 0, C.int .i64 0, C.str ⟨#[]⟩, C.row 1 [], C.row 5 []]).drop i).length = ks.length := by rw [fill_len hl]; simp
      have a4 : ((encLX ks).take i ++ (List.replicate ks.length [C.int .i64 0, C.int .i64 0, C.str ⟨#[]⟩, C.row 1 [], C.row 5 []]).drop i).getD i [] = [C.int .i64 0, C.int .i64 0, C.str ⟨#[]⟩, C.row 1 [], C.row 5 []] := by rw [fill_get hl (by rw [encLX_len]; exact hlt), getD_rep hlt]
      have a5 : ((encLX ks).take i ++ (List.replicate ks.length [C.int .i64 0, C.int .i64 0, C.str ⟨#[]⟩, C.row 1 [], C.row 5 []]).drop i).set i s.encX = (encLX ks).take (i + 1) ++ (List.replicate ks.length [C.int .i64 0, C.int .i64 0, C.str ⟨#[]⟩, C.row 1 [], C.row 5 []]).drop (i + 1) := fill_set hl (by rw [encLX_map]; simp [hs])
      have a6 := T.enc_len s
      have a7 := fitL_mem h2 s hmem
      have a8 := size_mem hmem
      have a9 : placeC [C.int .i64 0, C.int .i64 0, C.str ⟨#[]⟩, C.row 1 [], C.row 5 []] 0 s.encX = s.encX := placeC_whole (by rw [T.encX_len]; rfl)
      obtain ⟨kk, n, s, ks', l⟩ := s
      have p1 := spToX_pre k (T.mk kk n s ks' l)
      have p2 := spToX_res k (T.mk kk n s ks' l)
      have p3 := spToX_out k (T.mk kk n s ks' l)
      simp only [T.encX, T.enc, agX] at a1 a5 a6 a9 p1 p2 p3
      simp only [rg, a9, go_sem, seval, Prod.fst, a1, a2, a3, a4, a5, a6, p1, p2, p3, spToX_md, spToX_alts]
      repeat' (first | with_reducible assumption | with_reducible refine And.intro ?_ ?_ | intro _)
      all_goals first | omega | assumption | skip
      exact ⟨i + 1, by omega, by omega, Le.refl _⟩
    · have a2 : ((i : Int) < (ks.length : Int)) = False := by simp; omega
      have hie : i = (encLX ks).length := by rw [encLX_len]; omega
      have a3 : (encLX ks).take i ++ (List.replicate ks.length [C.int .i64 0, C.int .i64 0, C.str ⟨#[]⟩, C.row 1 [], C.row 5 []]).drop i = encLX ks := by rw [hie]; exact fill_all hl
      simp only [go_sem, seval, a2, a3]
theorem toX_all (k : Nat) : Sound Go.Proofs.Try.prog 9 (spToX k) ∧ Sound Go.Proofs.Try.prog 27 (spToXS k) := by
  induction k with
  | zero => exact ⟨Sound.none, Sound.none⟩
  | succ k ih => exact ⟨toX_sound k ih.2, toXS_sound k ih.1⟩
noncomputable def spToXV  : Spec := Spec.of (ι := T) [false] (fun i => [.d (.agg i.enc)]) (fun i => i.fit 1048576) (fun i => [.ag (agX i)]) (fun _ => [.gone])
theorem spToXV_inj : ∀ i j : T, (fun (i : T) => ([.d (.agg i.enc)] : List AV)) i = (fun (i : T) => ([.d (.agg i.enc)] : List AV)) j → i = j := by
  intro t t' h
  simpa [strs_eq, T.enc_eq, encL_eq, F.enc_eq, encF_eq, Tk.enc_eq, encTk_eq, Gn.enc_eq, ints_eq] using h
theorem spToXV_md  : (spToXV).md = [false] := rfl
theorem spToXV_pre  (t : T) : (spToXV).pre [.d (.agg t.enc)] = (t.fit 1048576) := Spec.of_pre' spToXV_inj t
theorem spToXV_alts  : (spToXV).alts = none := rfl
theorem spToXV_res  (t : T) : (spToXV).res [.d (.agg t.enc)] = [.ag (agX t)] := Spec.of_res spToXV_inj t
theorem spToXV_out  (t : T) : (spToXV).out [.d (.agg t.enc)] = [.gone] := Spec.of_out spToXV_inj t
theorem toXV_sound : Sound Go.Proofs.Try.prog 9 spToXV := Sound.all (μ := fun i => SizeOf.sizeOf i) (fun k => (toX_all k).1)
end Go.Proofs.Pw
