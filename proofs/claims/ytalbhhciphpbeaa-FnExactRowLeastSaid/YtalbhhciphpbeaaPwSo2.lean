/- Rows in order: the stable sort of short rows; the specification's. -/
import Derived.Test.YtalbhhciphpbeaaPwSo
set_option linter.unusedSimpArgs false
set_option linter.unusedVariables false
set_option linter.unusedSimpArgs false
set_option maxRecDepth 20000
namespace Go.Proofs.Pw
set_option linter.unusedSectionVars false
variable [Globs]
def x_l4Put : X := (.gh (.seq (.reg [⟨some 3, none, .box (.t 1) (some 5)⟩, ⟨some 4, none, .mv (.k (.z 5))⟩] none [0, 3]) (.seq (.reg [⟨some 5, none, .mv (.k (.c (.int .i64 0)))⟩] none [0, 3, 5]) (.seq (.block 0 (.loop (.seq (.seq (.reg [⟨some 7, none, .mv (.t 5)⟩, ⟨some 8, none, .mv (.t 0)⟩, ⟨some 9, none, .len (.t 8) false⟩, ⟨some 10, none, .bin false .lss (.t 7) (.t 9)⟩, ⟨some 11, none, .mv (.t 10)⟩, ⟨some 12, some (11, true), .mv (.t 0)⟩, ⟨some 13, some (11, true), .mv (.t 5)⟩, ⟨some 14, some (11, true), .ia (.t 12) (.t 13) 5⟩, ⟨some 15, some (11, true), .load (.t 14) (some 5)⟩, ⟨some 16, some (11, true), .load (.t 3) (some 5)⟩, ⟨some 17, some (11, true), .call 61 [(.t 15), (.t 16)]⟩, ⟨some 18, some (11, true), .bin false .leq (.t 17) (.k (.c (.int .i64 0)))⟩, ⟨some 19, none, .pick (.t 11) (.t 18) (.k (.c (.bool false)))⟩] (some 10) [0, 3, 5, 19]) (.cond (.t 19) .skip (.exit 0))) (.block 1 (.reg [⟨some 20, none, .mv (.t 5)⟩, ⟨some 21, none, .bin false .add (.t 20) (.k (.c (.int .i64 1)))⟩, ⟨some 5, none, .mv (.t 21)⟩] none [0, 3, 5]))))) (.seq (.reg [⟨some 22, none, .bsl 5 []⟩, ⟨some 23, none, .mv (.t 0)⟩, ⟨some 24, none, .mv (.t 5)⟩, ⟨some 25, none, .sub (.t 23) (some (.t 24)) none 5⟩, ⟨some 26, none, .app (.t 22) (.t 25) 5 80 []⟩, ⟨some 6, none, .mv (.t 26)⟩] none [0, 3, 5, 6]) (.seq (.mix [⟨some 27, none, .mv (.t 0)⟩, ⟨some 28, none, .mv (.t 5)⟩, ⟨some 29, none, .sub (.t 27) none (some (.t 28)) 5⟩, ⟨some 30, none, .load (.t 3) (some 5)⟩, ⟨some 31, none, .bsl 5 [((.t 30), (some 5))]⟩, ⟨some 32, none, .app (.t 29) (.t 31) 5 80 [29, 27, 0]⟩, ⟨some 33, none, .mv (.t 6)⟩] [⟨some 34, none, .app (.t 32) (.t 33) 5 80 []⟩, ⟨some 4, none, .mv (.t 34)⟩] [[], [], [], [], [], [], [5]] [4]) (.gh .ret)))))))
theorem chk_l4Put : chkX Go.Proofs.Try.prog 35 (Go.Proofs.Try.f48.body.getD .skip) x_l4Put = true := by kernel_rfl
theorem rs_l4Put : okRs Go.Proofs.Try.prog Go.Proofs.Try.f48.results.toList [.tmp 4] = true := by kernel_rfl
theorem call_l4Put : okCallee Go.Proofs.Try.prog 48 = true := by kernel_rfl
def x_l4Sort : X := (.seq (.reg [⟨some 2, none, .mv (.k (.z 5))⟩] none [0]) (.seq (.reg [⟨some 5, none, .bsl 5 []⟩, ⟨some 3, none, .mv (.t 5)⟩] none [0, 3]) (.seq (.seq (.reg [⟨some 4, none, .mv (.k (.c (.int .i64 0)))⟩] none [0, 3, 4]) (.block 0 (.loop (.seq (.seq (.reg [⟨some 6, none, .mv (.t 4)⟩, ⟨some 7, none, .mv (.t 0)⟩, ⟨some 8, none, .len (.t 7) false⟩, ⟨some 9, none, .bin false .lss (.t 6) (.t 8)⟩] none [0, 3, 4, 9]) (.cond (.t 9) .skip (.exit 0))) (.seq (.block 1 (.reg [⟨some 12, none, .mv (.t 3)⟩, ⟨some 13, none, .mv (.t 0)⟩, ⟨some 14, none, .mv (.t 4)⟩, ⟨some 15, none, .ia (.t 13) (.t 14) 5⟩, ⟨some 16, none, .load (.t 15) (some 5)⟩, ⟨some 17, none, .call 48 [(.t 12), (.t 16)]⟩, ⟨some 3, none, .mv (.t 17)⟩] none [0, 3, 4])) (.reg [⟨some 10, none, .mv (.t 4)⟩, ⟨some 11, none, .bin false .add (.t 10) (.k (.c (.int .i64 1)))⟩, ⟨some 4, none, .mv (.t 11)⟩] none [0, 3, 4])))))) (.seq (.reg [⟨some 18, none, .mv (.t 3)⟩, ⟨some 2, none, .mv (.t 18)⟩] none [2]) .ret))))
theorem chk_l4Sort : chkX Go.Proofs.Try.prog 19 (Go.Proofs.Try.f25.body.getD .skip) x_l4Sort = true := by kernel_rfl
theorem rs_l4Sort : okRs Go.Proofs.Try.prog Go.Proofs.Try.f25.results.toList [.tmp 2] = true := by kernel_rfl
theorem call_l4Sort : okCallee Go.Proofs.Try.prog 25 = true := by kernel_rfl
noncomputable def spOrdD : Spec := Spec.of (ι := Option T × T) [false, false] (fun i => match i.1 with | some a => [.d (.agg a.enc), .d (.agg i.2.enc)] | none => [.d (.agg []), .d (.agg i.2.enc)]) (fun i => match i.1 with | some a => a.fit 140737488355328 ∧ i.2.fit 140737488355328 | none => False) (fun i => match i.1 with | some a => [.d (.one (.int .i64 (cmpT a i.2)))] | none => [.d (.one (.int .i64 0))]) (fun _ => [.gone, .gone])
theorem spOrdD_inj : ∀ i j : Option T × T, (fun i : Option T × T => (match i.1 with | some a => [.d (.agg a.enc), .d (.agg i.2.enc)] | none => [.d (.agg []), .d (.agg i.2.enc)] : List AV)) i = (fun i : Option T × T => (match i.1 with | some a => [.d (.agg a.enc), .d (.agg i.2.enc)] | none => [.d (.agg []), .d (.agg i.2.enc)] : List AV)) j → i = j := by
  rintro ⟨a, b⟩ ⟨a', b'⟩ h
  cases a <;> cases a' <;> simp [T.enc_eq] at h ⊢
  · exact h
  · rename_i t; have := T.enc_len t; rw [h.1] at this; simp at this
  · rename_i t; have := T.enc_len t; rw [h.1] at this; simp at this
  · exact h
theorem spOrdD_md : spOrdD.md = [false, false] := rfl
theorem spOrdD_alts : spOrdD.alts = none := rfl
theorem spOrdD_pre (a b : T) : spOrdD.pre [.d (.agg a.enc), .d (.agg b.enc)] = (a.fit 140737488355328 ∧ b.fit 140737488355328) := Spec.of_pre' spOrdD_inj (some a, b)
theorem spOrdD_res (a b : T) : spOrdD.res [.d (.agg a.enc), .d (.agg b.enc)] = [.d (.one (.int .i64 (cmpT a b)))] := Spec.of_res spOrdD_inj (some a, b)
theorem spOrdD_out (a b : T) : spOrdD.out [.d (.agg a.enc), .d (.agg b.enc)] = [.gone, .gone] := Spec.of_out spOrdD_inj (some a, b)
theorem spOrdD_pre0 (b : T) : spOrdD.pre [.d (.agg []), .d (.agg b.enc)] = False := Spec.of_pre' spOrdD_inj (none, b)
theorem spOrdD_res0 (b : T) : spOrdD.res [.d (.agg []), .d (.agg b.enc)] = [.d (.one (.int .i64 0))] := Spec.of_res spOrdD_inj (none, b)
theorem spOrdD_out0 (b : T) : spOrdD.out [.d (.agg []), .d (.agg b.enc)] = [.gone, .gone] := Spec.of_out spOrdD_inj (none, b)
theorem ordD_sound : Sound Go.Proofs.Try.prog 61 spOrdD := by
  rintro _ ⟨⟨a, b⟩, rfl, hi⟩
  cases a with
  | none => exact hi.elim
  | some a =>
    intro w S vs fps h1 h2 h3 h4 h5
    have := ordV_sound [.d (.agg a.enc), .d (.agg b.enc)] (by rw [spOrdV_pre]; exact hi) w S vs fps h1 h2 h3 h4 h5
    refine this.mono ?_
    rintro e w' ⟨r, o, hro, h⟩
    refine ⟨r, o, ?_, h⟩
    rw [Spec.may_none rfl] at hro ⊢
    rw [spOrdV_res, spOrdV_out] at hro
    show r = spOrdD.res [.d (.agg a.enc), .d (.agg b.enc)] ∧ o = spOrdD.out [.d (.agg a.enc), .d (.agg b.enc)]
    rw [spOrdD_res, spOrdD_out]
    exact hro
theorem encL_dropL (l : List T) (k : Nat) : (encL l).drop k = encL (l.drop k) := by rw [encL_map, encL_map, List.map_drop]
theorem encL_takeL (l : List T) (k : Nat) : (encL l).take k = encL (l.take k) := by rw [encL_map, encL_map, List.map_take]
theorem encL_appL (a b : List T) : encL a ++ encL b = encL (a ++ b) := (encL_app a b).symm
theorem encL_one (t : T) : [t.enc] = encL [t] := by simp [encL]
theorem insC_drop {v : T} {l : List T} {k : Nat} {x : T} (h : l[k]? = some x) (hle : cmpT x v ≤ 0) : l.take k ++ insC cmpT v (l.drop k) = l.take (k + 1) ++ insC cmpT v (l.drop (k + 1)) := by
  have hlt := (List.getElem?_eq_some_iff.1 h).1
  have e : l.drop k = x :: l.drop (k + 1) := by
    rw [List.drop_eq_getElem_cons hlt]; congr 1; exact (List.getElem?_eq_some_iff.1 h).2
  rw [e]
  simp only [insC]
  rw [if_pos hle, List.take_add_one, h]; simp
theorem insC_stop {v : T} {l : List T} {k : Nat} {x : T} (h : l[k]? = some x) (hle : ¬ cmpT x v ≤ 0) : insC cmpT v (l.drop k) = v :: l.drop k := by
  have hlt := (List.getElem?_eq_some_iff.1 h).1
  have e : l.drop k = x :: l.drop (k + 1) := by
    rw [List.drop_eq_getElem_cons hlt]; congr 1; exact (List.getElem?_eq_some_iff.1 h).2
  rw [e]
  simp only [insC]
  rw [if_neg hle]
noncomputable def spL4Put  : Spec := Spec.of (ι := (List T) × T) [true, false] (fun i => [.own 5 (encL i.1), .d (.agg i.2.enc)]) (fun i => lenB 1000000 i.1.length ∧ fitL 140737488355328 i.1 ∧ i.2.fit 140737488355328) (fun i => [.own 5 (encL (insC cmpT i.2 i.1))]) (fun _ => [.gone, .gone])
theorem spL4Put_inj : ∀ i j : (List T) × T, (fun (i : (List T) × T) => ([.own 5 (encL i.1), .d (.agg i.2.enc)] : List AV)) i = (fun (i : (List T) × T) => ([.own 5 (encL i.1), .d (.agg i.2.enc)] : List AV)) j → i = j := by
  rintro ⟨l, v⟩ ⟨l', v'⟩ h
  simp only [Prod.mk.injEq]
  simpa [strs_eq, T.enc_eq, encL_eq, F.enc_eq, encF_eq, Tk.enc_eq, encTk_eq, Gn.enc_eq, ints_eq] using h
theorem spL4Put_md  : (spL4Put).md = [true, false] := rfl
theorem spL4Put_pre  (l : List T) (v : T) : (spL4Put).pre [.own 5 (encL l), .d (.agg v.enc)] = (lenB 1000000 l.length ∧ fitL 140737488355328 l ∧ v.fit 140737488355328) := Spec.of_pre' spL4Put_inj (l, v)
theorem spL4Put_alts  : (spL4Put).alts = none := rfl
theorem spL4Put_res  (l : List T) (v : T) : (spL4Put).res [.own 5 (encL l), .d (.agg v.enc)] = [.own 5 (encL (insC cmpT v l))] := Spec.of_res spL4Put_inj (l, v)
theorem spL4Put_out  (l : List T) (v : T) : (spL4Put).out [.own 5 (encL l), .d (.agg v.enc)] = [.gone, .gone] := Spec.of_out spL4Put_inj (l, v)
set_option maxHeartbeats 2000000 in
theorem l4Put_sound : Sound Go.Proofs.Try.prog 48 spL4Put := by
  refine sound_fam (GOK.cons call_ValOrder ordD_sound GOK.nil) Go.Proofs.Try.func48 (c := Go.Proofs.Try.f48.body.getD .skip) rfl (n := 35) rfl chk_l4Put rs_l4Put (fun _ => by simp) ?_ ?_
  · exact spL4Put_inj
  · rintro ⟨l, v⟩ ⟨h1, h2, h3⟩
    simp only [lenB] at h1 h2 h3
    have f1 := T.enc_len v
    simp only [x_l4Put]
    refine gh_le (Le.move (t := 0) (r := 1000000035) (d := 77) (sz := 5) (es := encL l) rfl rfl (by decide)) ?_
    simp only [rg, go_sem, seval, Prod.fst, f1]
    refine pw_loop (ι := Nat) (fun k => l.length - k) (fun k => k ≤ l.length ∧ insC cmpT v l = l.take k ++ insC cmpT v (l.drop k))
      (fun k => ⟨[(0, .q (.own 77)), (3, .q (.box 3 0)), (5, .q (.c (.int .i64 k)))], [(3, v.enc.map .c)], [(77, 5, encL l)]⟩) 0 ⟨Nat.zero_le _, rfl⟩ ?_ ?_
    · exact Le.refl _
    · rintro k ⟨g1, g2⟩
      rcases Nat.lt_or_ge k l.length with hlt | hge
      · obtain ⟨x, hx, hd, hmem⟩ := drop_at hlt
        have b1 : ((k : Int) < (l.length : Int)) = True := eq_true (by omega)
        have a1 := encL_at hx
        have f2 := T.enc_len x
        have f3 := fitL_mem h2 x hmem
        have e1 : k + (l.length - k) = l.length := by omega
        have e2 : (k + 1 ≤ l.length) = True := eq_true (by omega)
        have e3 : l.take l.length = l := List.take_length
        have e4 : (k + 1 + (l.length - k) ≤ min k l.length + 1 + (l.length - (k + 1))) = False := eq_false (by omega)
        have e5 : (k + 1 ≤ min k l.length + 1 + (l.length - (k + 1))) = True := eq_true (by omega)
        simp only [rg, go_sem, seval, Prod.fst, b1, e1, e2, e3, e4, e5, a1, f1, f2, encL_len, encL_dropL, encL_takeL, encL_appL, encL_one, Int.toNat_zero, Nat.sub_zero, Nat.zero_add, List.isEmpty_cons, Bool.false_eq_true, List.mem_cons, List.not_mem_nil, List.length_drop, List.length_append, List.length_take, spOrdD_md, spOrdD_alts, spOrdD_pre, spOrdD_res, spOrdD_out]
        repeat' (first | with_reducible assumption | with_reducible refine And.intro ?_ ?_ | intro _)
        all_goals first | omega | skip
        · exact ⟨k + 1, ⟨by omega, by rw [g2, insC_drop hx (by assumption)]⟩, by omega, Le.refl _⟩
        · have e6 : (l.take k ++ [v] ++ l.drop (k + 1)).take (k + 1) = l.take k ++ [v] := List.take_left' (by simp; omega)
          have e7 : insC cmpT v l = l.take k ++ [v] ++ l.drop k := by rw [g2, insC_stop hx (by assumption)]; simp
          refine gh_skip ?_
          simp only [rg, go_sem, seval, e6, e7, encL_appL]
      · obtain rfl : k = l.length := by omega
        have b1 : ((l.length : Int) < (l.length : Int)) = False := eq_false (by omega)
        have a1 : (encL l).getD l.length [] = [] := by simp [List.getD, List.getElem?_eq_none (show (encL l).length ≤ l.length by rw [encL_len]; exact hge)]
        have e1 : l.length + (l.length - l.length) = l.length := by omega
        have e2 : (l.length + 1 ≤ l.length) = False := eq_false (by omega)
        have e3 : l.take l.length = l := List.take_length
        have e4 : l.drop l.length = [] := List.drop_length
        simp only [rg, go_sem, seval, Prod.fst, b1, a1, e1, e2, e3, e4, f1, encL_len, encL_dropL, encL_takeL, encL_appL, encL_one, Int.toNat_zero, Nat.sub_zero, Nat.zero_add, List.isEmpty_cons, Bool.false_eq_true, List.mem_cons, List.not_mem_nil, List.length_drop, List.length_append, List.length_take, spOrdD_md, spOrdD_alts, spOrdD_pre0, spOrdD_res0, spOrdD_out0]
        repeat' (first | with_reducible assumption | with_reducible refine And.intro ?_ ?_ | intro _)
        all_goals first | omega | skip
        have e7 : insC cmpT v l = l ++ [v] := by rw [g2, e3, e4]; rfl
        refine gh_skip ?_
        simp only [rg, go_sem, seval, e7]
theorem sortC_snoc {α : Type} (f : α → α → Int) (l : List α) (x : α) : sortC f (l ++ [x]) = insC f x (sortC f l) := by simp [sortC]
theorem fitL_of {B : Int} : ∀ {l : List T}, (∀ t ∈ l, t.fit B) → fitL B l
  | [], _ => trivial
  | t :: l, h => ⟨h t (by simp), fitL_of (fun t ht => h t (by simp [ht]))⟩
theorem fitL_perm {B : Int} {a b : List T} (h : fitL B a) (hp : b.Perm a) : fitL B b := fitL_of fun t ht => fitL_mem h t (hp.mem_iff.1 ht)
noncomputable def spL4Sort  : Spec := Spec.of (ι := (List T)) [false] (fun i => [.d (.one (.row 5 (encL i)))]) (fun i => lenB 1000000 i.length ∧ fitL 140737488355328 i) (fun i => [.own 5 (encL (sortC cmpT i))]) (fun _ => [.gone])
theorem spL4Sort_inj : ∀ i j : (List T), (fun (i : (List T)) => ([.d (.one (.row 5 (encL i)))] : List AV)) i = (fun (i : (List T)) => ([.d (.one (.row 5 (encL i)))] : List AV)) j → i = j := by
  intro l l' h
  simpa [strs_eq, T.enc_eq, encL_eq, F.enc_eq, encF_eq, Tk.enc_eq, encTk_eq, Gn.enc_eq, ints_eq] using h
theorem spL4Sort_md  : (spL4Sort).md = [false] := rfl
theorem spL4Sort_pre  (l : List T) : (spL4Sort).pre [.d (.one (.row 5 (encL l)))] = (lenB 1000000 l.length ∧ fitL 140737488355328 l) := Spec.of_pre' spL4Sort_inj l
theorem spL4Sort_alts  : (spL4Sort).alts = none := rfl
theorem spL4Sort_res  (l : List T) : (spL4Sort).res [.d (.one (.row 5 (encL l)))] = [.own 5 (encL (sortC cmpT l))] := Spec.of_res spL4Sort_inj l
theorem spL4Sort_out  (l : List T) : (spL4Sort).out [.d (.one (.row 5 (encL l)))] = [.gone] := Spec.of_out spL4Sort_inj l
theorem l4Sort_sound : Sound Go.Proofs.Try.prog 25 spL4Sort := by
  refine sound_fam (GOK.cons call_l4Put l4Put_sound GOK.nil) Go.Proofs.Try.func25 (c := Go.Proofs.Try.f25.body.getD .skip) rfl (n := 19) rfl chk_l4Sort rs_l4Sort (fun _ => by simp) ?_ ?_
  · exact spL4Sort_inj
  · rintro l ⟨h1, h2⟩
    simp only [lenB] at h1
    simp only [x_l4Sort, rg, go_sem, seval]
    refine pw_loop (ι := Nat) (fun i => l.length - i) (fun i => i ≤ l.length)
      (fun i => ⟨[(0, .q (.c (.row 5 (encL l)))), (3, .q (.own 17)), (4, .q (.c (.int .i64 i)))], [], [(17, 5, encL (sortC cmpT (l.take i)))]⟩) 0 (Nat.zero_le _) ?_ ?_
    · refine Le.own (t := 3) (d := 17) (sz := 5) (by decide) (by simp) (by simp [Q.killO]) ?_
      simp [PV.map, Q.killO]
    · intro i hi
      rcases Nat.lt_or_ge i l.length with hlt | hge
      · obtain ⟨x, hx, _, hmem⟩ := drop_at hlt
        have b1 : ((i : Int) < (l.length : Int)) = True := eq_true (by omega)
        have a1 := encL_at hx
        have f1 := T.enc_len x
        have f2 := fitL_mem h2 x hmem
        have f3 : fitL 140737488355328 (sortC cmpT (l.take i)) := fitL_of fun t ht => fitL_mem h2 t (List.mem_of_mem_take ((sortC_perm cmpT_is _).mem_iff.1 ht))
        have f4 : (sortC cmpT (l.take i)).length = i := by rw [(sortC_perm cmpT_is _).length_eq]; simp; omega
        simp only [rg, go_sem, seval, b1, a1, f1, encL_len, spL4Put_md, spL4Put_pre, spL4Put_alts, spL4Put_res, spL4Put_out]
        repeat' (first | with_reducible assumption | with_reducible refine And.intro ?_ ?_ | intro _)
        all_goals first | omega | skip
        · unfold lenB; omega
        · refine ⟨i + 1, by omega, by omega, ?_⟩
          have e : l.take (i + 1) = l.take i ++ [x] := by rw [List.take_add_one, hx]; rfl
          rw [e, sortC_snoc]
          exact Le.refl _
      · have b1 : ((i : Int) < (l.length : Int)) = False := eq_false (by omega)
        have e1 : l.take i = l := List.take_of_length_le hge
        simp only [rg, go_sem, seval, b1, e1, encL_len]
end Go.Proofs.Pw
