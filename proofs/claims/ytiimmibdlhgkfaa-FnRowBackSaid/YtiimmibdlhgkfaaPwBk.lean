/- Rows turned round. -/
import Derived.Test.YtiimmibdlhgkfaaPwOn
set_option linter.unusedSimpArgs false
set_option linter.unusedVariables false
set_option linter.unusedSimpArgs false
set_option maxRecDepth 20000
namespace Go.Proofs.Pw
set_option linter.unusedSectionVars false
variable [Globs]
def x_Rev : X := (.seq (.reg [⟨some 4, none, .mv (.t 0)⟩, ⟨some 5, none, .len (.t 4) false⟩, ⟨some 6, none, .bin false .sub (.t 5) (.k (.c (.int .i64 1)))⟩, ⟨some 2, none, .mv (.k (.c (.int .i64 0)))⟩, ⟨some 3, none, .mv (.t 6)⟩] none [0, 2, 3]) (.block 0 (.loop (.seq (.seq (.reg [⟨some 7, none, .mv (.t 2)⟩, ⟨some 8, none, .mv (.t 3)⟩, ⟨some 9, none, .bin false .lss (.t 7) (.t 8)⟩] none [0, 2, 3, 9]) (.cond (.t 9) .skip (.exit 0))) (.seq (.block 1 (.mix [⟨some 14, none, .mv (.t 0)⟩, ⟨some 15, none, .mv (.t 2)⟩, ⟨some 16, none, .mv (.t 0)⟩, ⟨some 17, none, .mv (.t 3)⟩, ⟨some 18, none, .mv (.t 0)⟩, ⟨some 19, none, .mv (.t 3)⟩, ⟨some 20, none, .ia (.t 18) (.t 19) 5⟩, ⟨some 21, none, .load (.t 20) (some 5)⟩, ⟨some 22, none, .mv (.t 0)⟩, ⟨some 23, none, .mv (.t 2)⟩, ⟨some 24, none, .ia (.t 22) (.t 23) 5⟩, ⟨some 25, none, .load (.t 24) (some 5)⟩, ⟨some 26, none, .ia (.t 14) (.t 15) 5⟩, ⟨none, none, .st (.t 26) (.t 21) (some 5)⟩] [⟨some 27, none, .ia (.t 16) (.t 17) 5⟩, ⟨none, none, .st (.t 27) (.t 25) (some 5)⟩] [[], [], [], [], [], [], [], [], [], [], [], [], [], []] [0, 2, 3])) (.reg [⟨some 10, none, .mv (.t 2)⟩, ⟨some 11, none, .bin false .add (.t 10) (.k (.c (.int .i64 1)))⟩, ⟨some 12, none, .mv (.t 3)⟩, ⟨some 13, none, .bin false .sub (.t 12) (.k (.c (.int .i64 1)))⟩, ⟨some 2, none, .mv (.t 11)⟩, ⟨some 3, none, .mv (.t 13)⟩] none [0, 2, 3]))))))
theorem chk_Rev : chkX Go.Proofs.Try.prog 28 (Go.Proofs.Try.f80.body.getD .skip) x_Rev = true := by kernel_rfl
theorem rs_Rev : okRs Go.Proofs.Try.prog Go.Proofs.Try.f80.results.toList [] = true := by kernel_rfl
theorem call_Rev : okCallee Go.Proofs.Try.prog 80 = true := by kernel_rfl
def x_RowBackI : X := (.seq (.reg [⟨some 1, none, .box (.t 0) (some 5)⟩, ⟨some 2, none, .alloc [(.c (.int .i64 0)), (.c (.int .i64 0)), (.c (.str ⟨#[]⟩)), (.z 1), (.z 5)]⟩, ⟨some 3, none, .mv (.k (.c (.bool false)))⟩] none [1, 2]) (.seq (.seq (.reg [⟨some 5, none, .load (.t 1) (some 5)⟩, ⟨some 6, none, .call 53 [(.t 5)]⟩, ⟨some 7, none, .not (.t 6)⟩] none [1, 2, 7]) (.cond (.t 7) (.seq (.reg [⟨some 8, none, .build [(.c (.int .i64 0)), (.c (.int .i64 0)), (.c (.str ⟨#[]⟩)), (.z 1), (.z 5)] []⟩, ⟨none, none, .st (.t 2) (.t 8) (some 5)⟩, ⟨some 3, none, .mv (.k (.c (.bool false)))⟩] none [2, 3]) .ret) .skip)) (.seq (.reg [⟨some 9, none, .fa (.t 1) 4⟩, ⟨some 10, none, .load (.t 9) none⟩, ⟨some 11, none, .call 79 [(.t 10)]⟩, ⟨some 4, none, .mv (.t 11)⟩] none [2, 4]) (.seq (.reg [⟨some 12, none, .mv (.t 4)⟩, ⟨some 13, none, .call 80 [(.t 12)]⟩] none [2, 4]) (.seq (.reg [⟨some 14, none, .mv (.t 4)⟩, ⟨some 15, none, .call 68 [(.t 14)]⟩, ⟨some 16, none, .call 54 [(.t 15), (.k (.c (.bool true)))]⟩, ⟨some 17, none, .ext (.t 16) 0⟩, ⟨some 18, none, .ext (.t 16) 1⟩, ⟨none, none, .st (.t 2) (.t 17) (some 5)⟩, ⟨some 3, none, .mv (.t 18)⟩] none [2, 3]) .ret)))))
theorem chk_RowBackI : chkX Go.Proofs.Try.prog 19 (Go.Proofs.Try.f30.body.getD .skip) x_RowBackI = true := by kernel_rfl
theorem rs_RowBackI : okRs Go.Proofs.Try.prog Go.Proofs.Try.f30.results.toList [.cell 2 (some 5), .tmp 3] = true := by kernel_rfl
theorem call_RowBackI : okCallee Go.Proofs.Try.prog 30 = true := by kernel_rfl
def x_RowBack : X := (.seq (.reg [⟨some 1, none, .box (.t 0) (some 5)⟩, ⟨some 2, none, .alloc [(.c (.int .i64 0)), (.c (.int .i64 0)), (.c (.str ⟨#[]⟩)), (.z 1), (.z 5)]⟩, ⟨some 3, none, .mv (.k (.c (.bool false)))⟩] none [1, 2]) (.seq (.seq (.reg [⟨some 6, none, .load (.t 1) (some 5)⟩, ⟨some 7, none, .call 56 [(.t 6)]⟩, ⟨some 8, none, .not (.t 7)⟩] none [1, 2, 8]) (.cond (.t 8) (.seq (.reg [⟨some 9, none, .build [(.c (.int .i64 0)), (.c (.int .i64 0)), (.c (.str ⟨#[]⟩)), (.z 1), (.z 5)] []⟩, ⟨none, none, .st (.t 2) (.t 9) (some 5)⟩, ⟨some 3, none, .mv (.k (.c (.bool false)))⟩] none [2, 3]) .ret) .skip)) (.seq (.reg [⟨some 10, none, .bsl 5 []⟩, ⟨some 4, none, .mv (.t 10)⟩] none [1, 2, 4]) (.seq (.seq (.reg [⟨some 11, none, .fa (.t 1) 4⟩, ⟨some 12, none, .load (.t 11) none⟩, ⟨some 13, none, .len (.t 12) false⟩, ⟨some 14, none, .bin false .sub (.t 13) (.k (.c (.int .i64 1)))⟩, ⟨some 5, none, .mv (.t 14)⟩] none [1, 2, 4, 5]) (.block 0 (.loop (.seq (.seq (.reg [⟨some 15, none, .mv (.t 5)⟩, ⟨some 16, none, .bin false .geq (.t 15) (.k (.c (.int .i64 0)))⟩] none [1, 2, 4, 5, 16]) (.cond (.t 16) .skip (.exit 0))) (.seq (.block 1 (.reg [⟨some 19, none, .mv (.t 4)⟩, ⟨some 20, none, .fa (.t 1) 4⟩, ⟨some 21, none, .load (.t 20) none⟩, ⟨some 22, none, .mv (.t 5)⟩, ⟨some 23, none, .ia (.t 21) (.t 22) 5⟩, ⟨some 24, none, .load (.t 23) (some 5)⟩, ⟨some 25, none, .bsl 5 [((.t 24), (some 5))]⟩, ⟨some 26, none, .app (.t 19) (.t 25) 5 80 []⟩, ⟨some 4, none, .mv (.t 26)⟩] none [1, 2, 4, 5])) (.reg [⟨some 17, none, .mv (.t 5)⟩, ⟨some 18, none, .bin false .sub (.t 17) (.k (.c (.int .i64 1)))⟩, ⟨some 5, none, .mv (.t 18)⟩] none [1, 2, 4, 5])))))) (.seq (.reg [⟨some 27, none, .mv (.t 4)⟩, ⟨some 28, none, .call 70 [(.t 27)]⟩, ⟨some 29, none, .call 57 [(.t 28)]⟩, ⟨some 30, none, .ext (.t 29) 0⟩, ⟨some 31, none, .ext (.t 29) 1⟩, ⟨none, none, .st (.t 2) (.t 30) (some 5)⟩, ⟨some 3, none, .mv (.t 31)⟩] none [2, 3]) .ret)))))
theorem chk_RowBack : chkX Go.Proofs.Try.prog 32 (Go.Proofs.Try.f31.body.getD .skip) x_RowBack = true := by kernel_rfl
theorem rs_RowBack : okRs Go.Proofs.Try.prog Go.Proofs.Try.f31.results.toList [.cell 2 (some 5), .tmp 3] = true := by kernel_rfl
theorem call_RowBack : okCallee Go.Proofs.Try.prog 31 = true := by kernel_rfl
/-- The outer i on both sides changed over. -/
def swp (l : List T) (i : Nat) : List T := (List.range l.length).map fun k => if k < i ∨ l.length - 1 - i < k then l.getD (l.length - 1 - k) T.zero else l.getD k T.zero
theorem swp_len (l : List T) (i : Nat) : (swp l i).length = l.length := by simp [swp]
theorem swp_at {l : List T} {i k : Nat} (hk : k < l.length) : (swp l i)[k]? = some (if k < i ∨ l.length - 1 - i < k then l.getD (l.length - 1 - k) T.zero else l.getD k T.zero) := by
  simp [swp, hk]
theorem getD_some {l : List T} {k : Nat} (hk : k < l.length) : l[k]? = some (l.getD k T.zero) := by simp [List.getD_eq_getElem?_getD, hk]
theorem swp_zero (l : List T) : swp l 0 = l := by
  refine List.ext_getElem? fun k => ?_
  rcases Nat.lt_or_ge k l.length with hk | hk
  · rw [swp_at hk, if_neg (by omega), getD_some hk]
  · rw [List.getElem?_eq_none (by rw [swp_len]; exact hk), List.getElem?_eq_none hk]
theorem swp_step {l : List T} {i : Nat} (h : i < l.length - 1 - i) : ((swp l i).set i (l.getD (l.length - 1 - i) T.zero)).set (l.length - 1 - i) (l.getD i T.zero) = swp l (i + 1) := by
  refine List.ext_getElem? fun k => ?_
  rcases Nat.lt_or_ge k l.length with hk | hk
  · rw [swp_at hk]
    by_cases h1 : k = l.length - 1 - i
    · rw [if_pos (by omega), h1, List.getElem?_set_self (by rw [List.length_set, swp_len]; omega), show l.length - 1 - (l.length - 1 - i) = i by omega]
    · rw [List.getElem?_set_ne (by omega)]
      by_cases h2 : k = i
      · rw [if_pos (by omega), h2, List.getElem?_set_self (by rw [swp_len]; omega)]
      · rw [List.getElem?_set_ne (by omega), swp_at hk]
        by_cases h3 : k < i ∨ l.length - 1 - i < k
        · rw [if_pos h3, if_pos (by omega)]
        · rw [if_neg h3, if_neg (by omega)]
  · rw [List.getElem?_eq_none (by rw [List.length_set, List.length_set, swp_len]; exact hk), List.getElem?_eq_none (by rw [swp_len]; exact hk)]
theorem swp_end {l : List T} {i : Nat} (h : ¬ (i : Int) < (l.length : Int) - 1 - i) : swp l i = l.reverse := by
  refine List.ext_getElem? fun k => ?_
  rcases Nat.lt_or_ge k l.length with hk | hk
  · rw [swp_at hk, List.getElem?_reverse hk, getD_some (by omega)]
    by_cases h3 : k < i ∨ l.length - 1 - i < k
    · rw [if_pos h3]
    · rw [if_neg h3, show l.length - 1 - k = k by omega]
  · rw [List.getElem?_eq_none (by rw [swp_len]; exact hk), List.getElem?_eq_none (by rw [List.length_reverse]; exact hk)]
noncomputable def spRev  : Spec := Spec.of (ι := (List T)) [true] (fun i => [.own 5 (encL i)]) (fun i => lenB 1000000 i.length) (fun _ => []) (fun i => [.own 5 (encL i.reverse)])
theorem spRev_inj : ∀ i j : (List T), (fun (i : (List T)) => ([.own 5 (encL i)] : List AV)) i = (fun (i : (List T)) => ([.own 5 (encL i)] : List AV)) j → i = j := by
  intro l l' h
  simpa [strs_eq, T.enc_eq, encL_eq, F.enc_eq, encF_eq, Tk.enc_eq, encTk_eq, Gn.enc_eq, ints_eq] using h
theorem spRev_md  : (spRev).md = [true] := rfl
theorem spRev_pre  (l : List T) : (spRev).pre [.own 5 (encL l)] = (lenB 1000000 l.length) := Spec.of_pre' spRev_inj l
theorem spRev_alts  : (spRev).alts = none := rfl
theorem spRev_res  (l : List T) : (spRev).res [.own 5 (encL l)] = [] := Spec.of_res spRev_inj l
theorem spRev_out  (l : List T) : (spRev).out [.own 5 (encL l)] = [.own 5 (encL l.reverse)] := Spec.of_out spRev_inj l
theorem Rev_sound : Sound Go.Proofs.Try.prog 80 spRev := by
  refine sound_fam GOK.nil Go.Proofs.Try.func80 (c := Go.Proofs.Try.f80.body.getD .skip) rfl (n := 28) rfl chk_Rev rs_Rev (fun _ => by simp) ?_ ?_
  · exact spRev_inj
  · rintro l h1
    simp only [lenB] at h1
    simp only [x_Rev, rg, seval, argsB, PV.toDB, Q.toCB, allCB, callB, flatP, flatC, flatS, List.all_nil, List.all_cons, svL, svP, addR, agQ, agR, pid, nodupN, List.contains_nil, List.contains_cons, finG, gIds, idsR, oneI, agI, gOk, oneOk, ptOk, notIn, List.filter_nil, List.filter_cons, pw_mix, ↓runH, ↓one, ↓effC, effR, Updr.app, putO, updL, St.kil, kilQ, kilP, kilL, invC, opKil, excOf, invT, invB, plT, plA, rcOf, wrU, kilI, memK, PV.ids, disj, pairOk, okPast, setP, invU, outB, PV.pl, Q.pl, plL, plL_map, List.all_nil, List.all_cons, List.getD_cons_zero, Prod.fst, List.nil_append, id_eq, List.map_id, Nat.reduceMul, allCB_map, PV.rowB, BASE, ltB, List.isEmpty_nil, delL, St.delO, or_true, List.mem_singleton, encL_len]
    repeat' (first | with_reducible assumption | with_reducible refine And.intro ?_ ?_ | intro _)
    all_goals first | (show _ ≤ (_ : Int); omega) | skip
    refine pw_loop (ι := Nat) (fun i => l.length - i) (fun i => i = 0 ∨ 2 * i ≤ l.length)
      (fun i => ⟨[(0, .q (.own 1000000028)), (2, .q (.c (.int .i64 i))), (3, .q (.c (.int .i64 ((l.length : Int) - 1 - i))))], [], [(1000000028, 5, encL (swp l i))]⟩) 0 (.inl rfl) ?_ ?_
    · refine Le.of_eq ?_
      simp [swp_zero]
    · intro i hi
      by_cases c : (i : Int) < (l.length : Int) - 1 - i
      · have b1 : ((i : Int) < (l.length : Int) - 1 - i) = True := eq_true c
        have b2 : ((l.length : Int) - 1 - i).toNat = l.length - 1 - i := by omega
        have a1 := encL_at ((swp_at (l := l) (i := i) (k := i) (by omega)).trans (by rw [if_neg (by omega)]))
        have a2 := encL_at ((swp_at (l := l) (i := i) (k := l.length - 1 - i) (by omega)).trans (by rw [if_neg (by omega)]))
        have f1 := T.enc_len (l.getD i T.zero)
        have f2 := T.enc_len (l.getD (l.length - 1 - i) T.zero)
        have sl := swp_len l i
        have b3 := swp_step (l := l) (i := i) (by omega)
        have a3 : ((swp l i).set i (l.getD (l.length - 1 - i) T.zero))[l.length - 1 - i]? = some (l.getD (l.length - 1 - i) T.zero) := by
          rw [List.getElem?_set_ne (by omega), swp_at (by omega), if_neg (by omega)]
        have a4 := encL_at a3
        have sl2 : ((swp l i).set i (l.getD (l.length - 1 - i) T.zero)).length = l.length := by rw [List.length_set, sl]
        simp only [rg, seval, argsB, PV.toDB, Q.toCB, allCB, callB, flatP, flatC, flatS, List.all_nil, List.all_cons, svL, svP, addR, agQ, agR, pid, nodupN, List.contains_nil, List.contains_cons, finG, gIds, idsR, oneI, agI, gOk, oneOk, ptOk, notIn, List.filter_nil, List.filter_cons, pw_mix, ↓runH, ↓one, ↓effC, effR, Updr.app, putO, updL, St.kil, kilQ, kilP, kilL, invC, opKil, excOf, invT, invB, plT, plA, rcOf, wrU, kilI, memK, PV.ids, disj, pairOk, okPast, setP, invU, outB, PV.pl, Q.pl, plL, plL_map, List.all_nil, List.all_cons, List.getD_cons_zero, Prod.fst, List.nil_append, id_eq, List.map_id, Nat.reduceMul, allCB_map, PV.rowB, BASE, ltB, List.isEmpty_nil, delL, St.delO, or_true, List.mem_singleton, b1, b2, a1, a2, a4, f1, f2, sl, sl2, T.enc_drop5, encL_set, List.append_nil, encL_len]
        repeat' (first | with_reducible assumption | with_reducible refine And.intro ?_ ?_ | intro _)
        all_goals first | (show _ ≤ (_ : Int); omega) | (show _ < (_ : Int); omega) | (show _ < (_ : Nat); omega) | skip
        refine ⟨i + 1, .inr (by omega), by omega, ?_⟩
        rw [b3, show (l.length : Int) - 1 - i - 1 = (l.length : Int) - 1 - ((i + 1 : Nat) : Int) by omega]
        exact Le.refl _
      · have b1 : ((i : Int) < (l.length : Int) - 1 - i) = False := eq_false c
        have e := swp_end c
        simp only [rg, seval, argsB, PV.toDB, Q.toCB, allCB, callB, flatP, flatC, flatS, List.all_nil, List.all_cons, svL, svP, addR, agQ, agR, pid, nodupN, List.contains_nil, List.contains_cons, finG, gIds, idsR, oneI, agI, gOk, oneOk, ptOk, notIn, List.filter_nil, List.filter_cons, pw_mix, ↓runH, ↓one, ↓effC, effR, Updr.app, putO, updL, St.kil, kilQ, kilP, kilL, invC, opKil, excOf, invT, invB, plT, plA, rcOf, wrU, kilI, memK, PV.ids, disj, pairOk, okPast, setP, invU, outB, PV.pl, Q.pl, plL, plL_map, List.all_nil, List.all_cons, List.getD_cons_zero, Prod.fst, List.nil_append, id_eq, List.map_id, Nat.reduceMul, allCB_map, PV.rowB, BASE, ltB, List.isEmpty_nil, delL, St.delO, or_true, List.mem_singleton, b1, e]
        repeat' (first | with_reducible assumption | with_reducible refine And.intro ?_ ?_ | intro _)
        all_goals first | (show _ ≤ (_ : Int); omega) | rfl | skip
open Classical in
noncomputable def backT (v : T) : T := if rowT v then .mk 5 0 ⟨#[]⟩ [] v.list.reverse else T.zero
theorem backT_row {l : List T} (h : okT (.mk 5 0 ⟨#[]⟩ [] l)) : backT (.mk 5 0 ⟨#[]⟩ [] l) = .mk 5 0 ⟨#[]⟩ [] l.reverse := if_pos (rowT_row.2 h)
theorem backT_not {v : T} (h : ¬ rowT v) : backT v = T.zero := if_neg h
theorem back_ok {l : List T} (h : okT (.mk 5 0 ⟨#[]⟩ [] l)) : okT (.mk 5 0 ⟨#[]⟩ [] l.reverse) := okT_row_perm h (List.reverse_perm l)
theorem rev_fit {B : Int} {l : List T} (h : fitL B l) : fitL B l.reverse := fitL_of fun t ht => fitL_mem h t (by simpa using ht)
noncomputable def spBackI  : Spec := Spec.of (ι := T) [false] (fun i => [.d (.agg i.enc)]) (fun i => i.fit 1000000) (fun i => [.d (.agg (backT i).enc), .d (.one (.bool (decide (rowT i))))]) (fun _ => [.gone])
theorem spBackI_inj : ∀ i j : T, (fun (i : T) => ([.d (.agg i.enc)] : List AV)) i = (fun (i : T) => ([.d (.agg i.enc)] : List AV)) j → i = j := by
  intro v v' h
  simpa [strs_eq, T.enc_eq, encL_eq, F.enc_eq, encF_eq, Tk.enc_eq, encTk_eq, Gn.enc_eq, ints_eq] using h
theorem spBackI_md  : (spBackI).md = [false] := rfl
theorem spBackI_pre  (v : T) : (spBackI).pre [.d (.agg v.enc)] = (v.fit 1000000) := Spec.of_pre' spBackI_inj v
theorem spBackI_alts  : (spBackI).alts = none := rfl
theorem spBackI_res  (v : T) : (spBackI).res [.d (.agg v.enc)] = [.d (.agg (backT v).enc), .d (.one (.bool (decide (rowT v))))] := Spec.of_res spBackI_inj v
theorem spBackI_out  (v : T) : (spBackI).out [.d (.agg v.enc)] = [.gone] := Spec.of_out spBackI_inj v
theorem RowBackI_sound : Sound Go.Proofs.Try.prog 30 spBackI := by
  refine sound_fam (GOK.cons (l := [(79, spCloneV), (80, spRev), (68, spRow), (54, spTold)]) call_isRow isRow_sound (GOK.cons call_CloneV CloneV_sound (GOK.cons call_Rev Rev_sound (GOK.cons call_row row_sound (GOK.cons call_told told_sound GOK.nil))))) Go.Proofs.Try.func30 (c := Go.Proofs.Try.f30.body.getD .skip) rfl (n := 19) rfl chk_RowBackI rs_RowBackI (fun _ => by simp) ?_ ?_
  · exact spBackI_inj
  · rintro v h1
    change v.fit 1000000 at h1
    have f3 := T.enc_len v
    have v2 : v.fit 140737488355328 := T.fit_mono (by decide) h1
    by_cases c : rowT v
    · obtain ⟨l, rfl⟩ : ∃ l, v = .mk 5 0 ⟨#[]⟩ [] l := ⟨_, rowT_is c⟩
      have o1 := c.1
      have e1 := backT_row o1
      have o2 := back_ok o1
      have e2 := toldT_ok o2
      have l1 : (l.length : Int) ≤ 1000000 := (T.fit_list h1).1
      have l2 : (l.reverse.length : Int) ≤ 1000000 := by simpa using l1
      have g4 : (T.mk 5 0 ⟨#[]⟩ [] l.reverse).fit 2000000 := rowT_fit (by omega) (by unfold lenB; omega) (rev_fit (fitL_of fun t ht => T.fit_mono (by decide) (fitL_mem (T.fit_list h1).2 t ht)))
      have f4 := T.enc_len (.mk 5 0 ⟨#[]⟩ [] l.reverse)
      simp only [x_RowBackI, rg, seval, T.enc, foldT, foldT0, e1, e2, c, o2, f4, encL_len, spIsRow_md, spIsRow_pre, spIsRow_alts, spIsRow_res, spIsRow_out, spCloneV_md, spCloneV_pre, spCloneV_alts, spCloneV_res, spCloneV_out, spRev_md, spRev_pre, spRev_alts, spRev_res, spRev_out, spRow_md, spRow_pre, spRow_alts, spRow_res, spRow_out, spTold_md, spTold_pre, spTold_alts, spTold_res, spTold_out]
      repeat' (first | with_reducible assumption | with_reducible refine And.intro ?_ ?_ | intro _)
      all_goals first | (show _ ≤ (_ : Int); omega) | assumption | (unfold lenB; omega) | skip
    · have e1 := backT_not c
      simp only [x_RowBackI, rg, seval, f3, e1, c, spIsRow_md, spIsRow_pre, spIsRow_alts, spIsRow_res, spIsRow_out]
      repeat' (first | with_reducible assumption | with_reducible refine And.intro ?_ ?_ | intro _)
      all_goals first | omega | assumption | exact T.zero_enc | skip
theorem rev_take {l : List T} {m : Nat} {x : T} (hm : m < l.length) (hx : l[l.length - 1 - m]? = some x) : l.reverse.take (m + 1) = l.reverse.take m ++ [x] := take_snoc (by rw [List.getElem?_reverse hm]; exact hx)
noncomputable def spBack  : Spec := Spec.of (ι := T) [false] (fun i => [.d (.agg i.enc)]) (fun i => i.fit 1000000 ∧ sizeT i ≤ 1000000) (fun i => [.d (.agg (backT i).enc), .d (.one (.bool (decide (rowT i))))]) (fun _ => [.gone])
theorem spBack_inj : ∀ i j : T, (fun (i : T) => ([.d (.agg i.enc)] : List AV)) i = (fun (i : T) => ([.d (.agg i.enc)] : List AV)) j → i = j := by
  intro v v' h
  simpa [strs_eq, T.enc_eq, encL_eq, F.enc_eq, encF_eq, Tk.enc_eq, encTk_eq, Gn.enc_eq, ints_eq] using h
theorem spBack_md  : (spBack).md = [false] := rfl
theorem spBack_pre  (v : T) : (spBack).pre [.d (.agg v.enc)] = (v.fit 1000000 ∧ sizeT v ≤ 1000000) := Spec.of_pre' spBack_inj v
theorem spBack_alts  : (spBack).alts = none := rfl
theorem spBack_res  (v : T) : (spBack).res [.d (.agg v.enc)] = [.d (.agg (backT v).enc), .d (.one (.bool (decide (rowT v))))] := Spec.of_res spBack_inj v
theorem spBack_out  (v : T) : (spBack).out [.d (.agg v.enc)] = [.gone] := Spec.of_out spBack_inj v
theorem RowBack_sound : Sound Go.Proofs.Try.prog 31 spBack := by
  refine sound_fam (GOK.cons (l := [(70, spL4Of), (57, spL2Told)]) call_l4Row l4Row_sound (GOK.cons call_l4Of l4Of_sound (GOK.cons call_l2Told l2Told_sound GOK.nil))) Go.Proofs.Try.func31 (c := Go.Proofs.Try.f31.body.getD .skip) rfl (n := 32) rfl chk_RowBack rs_RowBack (fun _ => by simp) ?_ ?_
  · exact spBack_inj
  · rintro v ⟨h1, h2⟩
    have h2' : sizeT v ≤ 1000000 := h2
    have f3 := T.enc_len v
    have v2 : v.fit 140737488355328 := T.fit_mono (by decide) h1
    by_cases c : rowT v
    · obtain ⟨l, rfl⟩ : ∃ l, v = .mk 5 0 ⟨#[]⟩ [] l := ⟨_, rowT_is c⟩
      have o1 := c.1
      have c' : rowT (T.mk 5 0 ⟨#[]⟩ [] l) = True := eq_true c
      have e1 := backT_row o1
      have o2 := back_ok o1
      have e2 := toldT_ok o2
      have l1 : (l.length : Int) ≤ 1000000 := (T.fit_list h1).1
      have l2 : (l.reverse.length : Int) ≤ 1000000 := by simpa using l1
      have g4 : (T.mk 5 0 ⟨#[]⟩ [] l.reverse).fit 2000000 := rowT_fit (by omega) (by unfold lenB; omega) (rev_fit (fitL_of fun t ht => T.fit_mono (by decide) (fitL_mem (T.fit_list h1).2 t ht)))
      have sz : sizeL l.reverse = sizeL l := sizeL_perm (List.reverse_perm l)
      simp only [sizeT] at h2
      have f4 := T.enc_len (.mk 5 0 ⟨#[]⟩ [] l.reverse)
      simp only [x_RowBack, rg, seval, T.enc, foldT, foldT0, e1, c', encL_len, spL4Row_md, spL4Row_pre, spL4Row_alts, spL4Row_res, spL4Row_out]
      repeat' (first | with_reducible assumption | with_reducible refine And.intro ?_ ?_ | intro _)
      all_goals first | (show _ ≤ (_ : Int); omega) | assumption | (unfold lenB; omega) | (show sizeT (T.mk _ _ _ _ _) ≤ _; simp only [sizeT]; omega) | skip
      refine pw_loop (ι := Nat) (fun m => l.length - m) (fun m => m ≤ l.length)
        (fun m => ⟨[(1, .q (.box 1 0)), (2, .q (.box 2 0)), (4, .q (.own 201)), (5, .q (.c (.int .i64 ((l.length : Int) - 1 - m))))], [(1, [.c (.int .i64 5), .c (.int .i64 0), .c (.str ⟨#[]⟩), .c (.row 1 (strs [])), .c (.row 5 (encL l))]), (2, [.c (.int .i64 0), .c (.int .i64 0), .c (.str ⟨#[]⟩), .z 1, .z 5])], [(201, 5, encL (l.reverse.take m))]⟩) 0 (Nat.zero_le _) ?_ ?_
      · refine Le.own (t := 4) (d := 201) (sz := 5) (by decide) (by simp) (by simp [Q.killO]) ?_
        simp [PV.map, Q.killO]
      · intro m hm
        have ml : (l.reverse.take m).length = m := by rw [List.length_take, List.length_reverse]; omega
        rcases Nat.lt_or_ge m l.length with hlt | hge
        · obtain ⟨x, hx, _, hmem⟩ := drop_at (l := l) (i := l.length - 1 - m) (by omega)
          have b1 : ((l.length : Int) - 1 - m ≥ 0) = True := eq_true (by omega)
          have b2 : ((l.length : Int) - 1 - m).toNat = l.length - 1 - m := by omega
          have a1 := encL_at hx
          have f1 := T.enc_len x
          have e := rev_take hlt hx
          simp only [rg, seval, argsB, PV.toDB, Q.toCB, allCB, callB, flatP, flatC, flatS, List.all_nil, List.all_cons, svL, svP, addR, agQ, agR, pid, nodupN, List.contains_nil, List.contains_cons, finG, gIds, idsR, oneI, agI, gOk, oneOk, ptOk, notIn, List.filter_nil, List.filter_cons, pw_mix, ↓runH, ↓one, ↓effC, effR, Updr.app, putO, updL, St.kil, kilQ, kilP, kilL, invC, opKil, excOf, invT, invB, plT, plA, rcOf, wrU, kilI, memK, PV.ids, disj, pairOk, okPast, setP, invU, outB, PV.pl, Q.pl, plL, plL_map, List.all_nil, List.all_cons, List.getD_cons_zero, Prod.fst, List.nil_append, id_eq, List.map_id, Nat.reduceMul, allCB_map, PV.rowB, BASE, ltB, List.isEmpty_nil, delL, St.delO, or_true, List.mem_singleton, b1, b2, a1, f1, ml, encL_len, encL_appL, encL_one]
          repeat' (first | with_reducible assumption | with_reducible refine And.intro ?_ ?_ | intro _)
          all_goals first | (show _ ≤ (_ : Int); omega) | (show _ < (_ : Int); omega) | (show _ < (_ : Nat); omega) | (show _ ≤ (_ : Nat); omega) | skip
          refine ⟨m + 1, by omega, by omega, ?_⟩
          rw [e, show (l.length : Int) - 1 - m - 1 = (l.length : Int) - 1 - ((m + 1 : Nat) : Int) by omega]
          exact Le.refl _
        · obtain rfl : m = l.length := by omega
          have b1 : ((l.length : Int) - 1 - l.length ≥ 0) = False := eq_false (by omega)
          have e : l.reverse.take l.length = l.reverse := List.take_of_length_le (by simp)
          have o2' : okT (T.mk 5 0 ⟨#[]⟩ [] l.reverse) = True := eq_true o2
          simp only [rg, seval, argsB, PV.toDB, Q.toCB, allCB, callB, flatP, flatC, flatS, List.all_nil, List.all_cons, svL, svP, addR, agQ, agR, pid, nodupN, List.contains_nil, List.contains_cons, finG, gIds, idsR, oneI, agI, gOk, oneOk, ptOk, notIn, List.filter_nil, List.filter_cons, pw_mix, ↓runH, ↓one, ↓effC, effR, Updr.app, putO, updL, St.kil, kilQ, kilP, kilL, invC, opKil, excOf, invT, invB, plT, plA, rcOf, wrU, kilI, memK, PV.ids, disj, pairOk, okPast, setP, invU, outB, PV.pl, Q.pl, plL, plL_map, List.all_nil, List.all_cons, List.getD_cons_zero, Prod.fst, List.nil_append, id_eq, List.map_id, Nat.reduceMul, allCB_map, PV.rowB, BASE, ltB, List.isEmpty_nil, delL, St.delO, or_true, List.mem_singleton, b1, e, e2, f4, o2', encL_len, spL4Of_md, spL4Of_pre, spL4Of_alts, spL4Of_res, spL4Of_out, spL2Told_md, spL2Told_pre, spL2Told_alts, spL2Told_res, spL2Told_out]
          repeat' (first | with_reducible assumption | with_reducible refine And.intro ?_ ?_ | intro _)
          all_goals first | (show _ ≤ (_ : Int); omega) | assumption | (simp only [sizeT]; omega) | skip
    · have e1 := backT_not c
      simp only [x_RowBack, rg, seval, f3, e1, c, spL4Row_md, spL4Row_pre, spL4Row_alts, spL4Row_res, spL4Row_out]
      repeat' (first | with_reducible assumption | with_reducible refine And.intro ?_ ?_ | intro _)
      all_goals first | omega | assumption | exact T.zero_enc | skip
end Go.Proofs.Pw
