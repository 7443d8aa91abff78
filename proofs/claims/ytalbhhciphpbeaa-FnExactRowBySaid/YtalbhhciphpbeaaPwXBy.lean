/- Printed by mkx.py: rows grouped, of any length; answers that nobody else holds. -/
import Derived.Test.YtalbhhciphpbeaaPwXRow2
import Derived.Test.YtalbhhciphpbeaaPwBy2
set_option linter.unusedSimpArgs false
set_option linter.unusedVariables false
set_option linter.unusedSimpArgs false
set_option maxRecDepth 20000
namespace Go.Proofs.Pw
set_option linter.unusedSectionVars false
variable [Globs]
theorem list_mk (k n : Int) (s : ByteArray) (ks : List ByteArray) (l : List T) : (T.mk k n s ks l).list = l := rfl
theorem byT_ok (v : T) (key : ByteArray) : okT (byT v key) := by
  unfold byT
  split
  · exact toldT_okT _ _
  · exact okT_zero
noncomputable def spByIX  : Spec := Spec.of (ι := T × ByteArray) [false, false] (fun i => [.d (.agg i.1.enc), .d (.one (.str i.2))]) (fun i => i.1.fit 140737488355328 ∧ lenB 140737488355328 i.2.size) (fun i => [.ag (agX (byT i.1 i.2)), .d (.one (.bool (decide (byOk i.1 i.2 ∧ okT (.mk 5 0 ⟨#[]⟩ [] (byL i.2 i.1.list))))))]) (fun _ => [.gone, .gone])
theorem spByIX_inj : ∀ i j : T × ByteArray, (fun (i : T × ByteArray) => ([.d (.agg i.1.enc), .d (.one (.str i.2))] : List AV)) i = (fun (i : T × ByteArray) => ([.d (.agg i.1.enc), .d (.one (.str i.2))] : List AV)) j → i = j := by
  rintro ⟨v, key⟩ ⟨v', key'⟩ h
  simp only [Prod.mk.injEq]
  simpa [strs_eq, T.enc_eq, encL_eq, F.enc_eq, encF_eq, Tk.enc_eq, encTk_eq, Gn.enc_eq, ints_eq] using h
theorem spByIX_md  : (spByIX).md = [false, false] := rfl
theorem spByIX_pre  (v : T) (key : ByteArray) : (spByIX).pre [.d (.agg v.enc), .d (.one (.str key))] = (v.fit 140737488355328 ∧ lenB 140737488355328 key.size) := Spec.of_pre' spByIX_inj (v, key)
theorem spByIX_alts  : (spByIX).alts = none := rfl
theorem spByIX_res  (v : T) (key : ByteArray) : (spByIX).res [.d (.agg v.enc), .d (.one (.str key))] = [.ag (agX (byT v key)), .d (.one (.bool (decide (byOk v key ∧ okT (.mk 5 0 ⟨#[]⟩ [] (byL key v.list))))))] := Spec.of_res spByIX_inj (v, key)
theorem spByIX_out  (v : T) (key : ByteArray) : (spByIX).out [.d (.agg v.enc), .d (.one (.str key))] = [.gone, .gone] := Spec.of_out spByIX_inj (v, key)
set_option maxHeartbeats 4000000 in
theorem RowByIX_sound : Sound Go.Proofs.Try.prog 19 spByIX := by
  refine sound_fam (GOK.cons (l := [(44, spTextOk), (45, spGet), (31, spOrderedG), (39, spComp), (40, spSameIV), (30, spRow), (29, spToldX)]) call_isRow isRow_sound (GOK.cons call_textOk textOk_sound (GOK.cons call_get get_sound (GOK.cons call_ordered orderedG_sound (GOK.cons call_Comp Comp_sound (GOK.cons call_ValSameI sameIV_sound (GOK.cons call_row row_sound (GOK.cons call_told toldX_sound GOK.nil)))))))) Go.Proofs.Try.func19 (c := Go.Proofs.Try.f19.body.getD .skip) rfl (n := 88) rfl chk_RowByI rs_RowByI (fun _ => by simp) ?_ ?_
  · exact spByIX_inj
  · rintro ⟨v, key⟩ ⟨h1', h3⟩
    simp only [lenB] at h1' h3
    have f3 := T.enc_len v
    have v2 : v.fit 140737488355328 := h1'
    by_cases c : rowT v ∧ okS key
    · have h1 : v.fit 1000000 := T.fit_mono (by decide) (okT_fit c.1.1)
      have h2 : v.list.length < 100 := row_len c.1
      obtain ⟨c, ck⟩ := c
      obtain ⟨l, rfl⟩ : ∃ l, v = .mk 5 0 ⟨#[]⟩ [] l := ⟨_, rowT_is c⟩
      have o1 := c.1
      have l1 : l.length < 100 := h2
      have c' : rowT (T.mk 5 0 ⟨#[]⟩ [] l) = True := eq_true c
      have ck' : okS key = True := eq_true ck
      have gl := fun x hx => fitL_in (T.fit_list v2).2 x hx
      have ol := fun x hx => okT_elem (t := x) o1 hx
      simp only [x_RowByI, agX_out, zk, zn, zs, zks, zl, strs_e, encLX_e, Bool.false_or, Bool.or_true, Bool.not_true, Bool.false_eq_true, Prod.fst, rg, go_sem, seval, Prod.fst, T.enc, foldT, foldT0, list_mk, c', ck', encL_len, spIsRow_md, spIsRow_pre, spIsRow_alts, spIsRow_res, spIsRow_out, spTextOk_md, spTextOk_pre, spTextOk_alts, spTextOk_res, spTextOk_out]
      repeat' (first | with_reducible assumption | with_reducible refine And.intro ?_ ?_ | intro _)
      all_goals first | omega | assumption | (unfold lenB; omega) | skip
      refine pw_loop (ι := Nat) (fun i => l.length - i) (fun i => i ≤ l.length ∧ ∀ x ∈ l.take i, getOk x)
        (fun i => ⟨[(1, .q (.c (.str key))), (2, .q (.box 2 0)), (4, .q (.box 4 0)), (6, .q (.own 201)), (28, .q (.c (.row 5 (encL l)))), (29, .q (.c (.int .i64 l.length))), (30, .q (.c (.int .i64 i)))], [(2, [.c (.int .i64 5), .c (.int .i64 0), .c (.str ⟨#[]⟩), .c (.row 1 (strs [])), .c (.row 5 (encL l))]), (4, [.c (.int .i64 0), .c (.int .i64 0), .c (.str ⟨#[]⟩), .z 1, .z 5])], [(201, 5, encL (marks key (l.take i)))]⟩) 0 ⟨Nat.zero_le _, by simp⟩ ?_ ?_
      · refine Le.own (t := 6) (d := 201) (sz := 5) (by decide) (by simp) (by simp [Q.killO]) ?_
        simp [PV.map, Q.killO]
      · rintro i ⟨hi, hg⟩
        have ml : (marks key (l.take i)).length = i := by rw [marks_len, List.length_take]; omega
        rcases Nat.lt_or_ge i l.length with hlt | hge
        · obtain ⟨x, hx, _, hmem⟩ := drop_at hlt
          have b1 : ((i : Int) < (l.length : Int)) = True := eq_true (by omega)
          have a1 := encL_at hx
          have f1 := T.enc_len x
          have f2 := T.enc_len (getT key x)
          have g1 := gl x hmem
          have g2 := ol x hmem
          have e := marks_take (key := key) hx
          by_cases d : getOk x
          · have d' : getOk x = True := eq_true d
            simp only [rg, go_sem, seval, Prod.fst, agX_out, zk, zn, zs, zks, zl, strs_e, encLX_e, Bool.false_or, Bool.or_true, Bool.not_true, Bool.false_eq_true, Prod.fst, b1, a1, f1, f2, d', ml, encL_len, encL_appL, encL_one, spGet_md, spGet_pre, spGet_alts, spGet_res, spGet_out]
            repeat' (first | with_reducible assumption | with_reducible refine And.intro ?_ ?_ | intro _)
            all_goals first | omega | assumption | skip
            refine ⟨i + 1, ⟨by omega, fun z hz => ?_⟩, by omega, ?_⟩
            · rw [take_snoc hx] at hz
              rcases List.mem_append.1 hz with hz | hz
              · exact hg z hz
              · simp only [List.mem_singleton] at hz; rw [hz]; exact d
            · rw [e]
              refine Le.sub ?_ ?_ ?_ <;> simp
          · have d' : getOk x = False := eq_false d
            have e1 : byOk (T.mk 5 0 ⟨#[]⟩ [] l) key = False := eq_false (fun h => d (h.2.2 x hmem))
            have e2 : byT (T.mk 5 0 ⟨#[]⟩ [] l) key = T.zero := if_neg (fun h => d (h.2.2 x hmem))
            simp only [rg, go_sem, seval, Prod.fst, agX_out, zk, zn, zs, zks, zl, strs_e, encLX_e, Bool.false_or, Bool.or_true, Bool.not_true, Bool.false_eq_true, Prod.fst, b1, a1, f1, f2, d', e1, e2, ml, encL_len, encL_appL, encL_one, spGet_md, spGet_pre, spGet_alts, spGet_res, spGet_out]
            repeat' (first | with_reducible assumption | with_reducible refine And.intro ?_ ?_ | intro _)
            all_goals first | omega | assumption | exact T.zero_enc | (rename_i h; exact h.1.elim) | (simp; done) | skip
        · obtain rfl : i = l.length := by omega
          have b1 : ((l.length : Int) < (l.length : Int)) = False := eq_false (by omega)
          rw [List.take_length] at hg ml
          have m1 := marks_fit (key := key) (by omega) ol (T.fit_list v2).2
          have m2 : fitL 140737488355328 (sortC cmpT (marks key l)) := fitL_perm m1 (sortC_perm cmpT_is _)
          have m3 : (sortC cmpT (marks key l)).length = l.length := by rw [(sortC_perm cmpT_is _).length_eq, ml]
          have m4 : onc (sortC cmpT (marks key l)) = onceL (marks key l) := rfl
          have m5 := onceL_len (marks key l)
          simp only [rg, go_sem, seval, Prod.fst, agX_out, zk, zn, zs, zks, zl, strs_e, encLX_e, Bool.false_or, Bool.or_true, Bool.not_true, Bool.false_eq_true, Prod.fst, b1, List.take_length, ml, m4, encL_len, spOrderedG_md, spOrderedG_pre, spOrderedG_alts, spOrderedG_res, spOrderedG_out, spComp_md, spComp_pre, spComp_alts, spComp_res, spComp_out]
          repeat' (first | with_reducible assumption | with_reducible refine And.intro ?_ ?_ | intro _)
          all_goals first | omega | assumption | (unfold lenB; omega) | skip
          have e3 : byOk (T.mk 5 0 ⟨#[]⟩ [] l) key = True := eq_true ⟨c, ck, hg⟩
          have e4 : byT (T.mk 5 0 ⟨#[]⟩ [] l) key = toldT true (.mk 5 0 ⟨#[]⟩ [] (byL key l)) := byT_row ⟨c, ck, hg⟩
          have e5 : byL key l = grpsL key l (onceL (marks key l)) := rfl
          have m6 : fitL 140737488355328 (onceL (marks key l)) := onceL_fit m1
          have m7 : (T.mk 5 0 ⟨#[]⟩ [] (byL key l)).fit 2000000 := by
            have := byL_len key l
            refine rowT_fit (by omega) (by unfold lenB; omega) (byL_fit (by omega) (by unfold lenB; omega) (fitL_of fun t ht => T.fit_mono (by decide) (fitL_in (T.fit_list h1).2 t ht)))
          rw [e5] at m7
          simp only [e3, e4, e5]
          generalize onceL (marks key l) = ys at *
          refine pw_loop (ι := Nat) (fun j => ys.length - j) (fun j => j ≤ ys.length)
            (fun j => ⟨[(2, .q (.box 2 0)), (4, .q (.box 4 0)), (6, .q (.c (.row 5 (encL (marks key l))))), (11, .q (.own 202)), (51, .q (.own 51)), (52, .q (.c (.int .i64 ys.length))), (53, .q (.c (.int .i64 j)))], [(2, [.c (.int .i64 5), .c (.int .i64 0), .c (.str ⟨#[]⟩), .c (.row 1 (strs [])), .c (.row 5 (encL l))]), (4, [.c (.int .i64 0), .c (.int .i64 0), .c (.str ⟨#[]⟩), .z 1, .z 5])], [(51, 5, encL ys), (202, 5, encL (grpsL key l (ys.take j)))]⟩) 0 (Nat.zero_le _) ?_ ?_
          · refine Le.own (t := 11) (d := 202) (sz := 5) (by decide) (by simp) (by simp [Q.killO]) ?_
            simp [PV.map, Q.killO]
          · intro j hj
            have nl : (grpsL key l (ys.take j)).length = j := by rw [grps_len, List.length_take]; omega
            rcases Nat.lt_or_ge j ys.length with hjl | hjg
            · obtain ⟨y, hy, _, hym⟩ := drop_at hjl
              have b2 : ((j : Int) < (ys.length : Int)) = True := eq_true (by omega)
              have a2 := encL_at hy
              have f2 := T.enc_len y
              have g2 := fitL_in m6 y hym
              have e6 := grps_take (key := key) (l := l) hy
              simp only [rg, go_sem, seval, Prod.fst, agX_out, zk, zn, zs, zks, zl, strs_e, encLX_e, Bool.false_or, Bool.or_true, Bool.not_true, Bool.false_eq_true, Prod.fst, b2, a2, f2, encL_len]
              repeat' (first | with_reducible assumption | with_reducible refine And.intro ?_ ?_ | intro _)
              all_goals first | omega | assumption | skip
              refine pw_loop (ι := Nat) (fun m => l.length - m) (fun m => m ≤ l.length)
                (fun m => ⟨[(2, .q (.box 2 0)), (4, .q (.box 4 0)), (6, .q (.c (.row 5 (encL (marks key l))))), (11, .q (.own 202)), (13, .q (.box 13 0)), (14, .q (.own 203)), (51, .q (.own 51)), (52, .q (.c (.int .i64 ys.length))), (53, .q (.c (.int .i64 j))), (59, .q (.c (.row 5 (encL l)))), (60, .q (.c (.int .i64 l.length))), (61, .q (.c (.int .i64 m)))], [(2, [.c (.int .i64 5), .c (.int .i64 0), .c (.str ⟨#[]⟩), .c (.row 1 (strs [])), .c (.row 5 (encL l))]), (4, [.c (.int .i64 0), .c (.int .i64 0), .c (.str ⟨#[]⟩), .z 1, .z 5]), (13, y.enc.map .c)], [(51, 5, encL ys), (202, 5, encL (grpsL key l (ys.take j))), (203, 5, encL (pickL key (l.take m) y))]⟩) 0 (Nat.zero_le _) ?_ ?_
              · refine Le.own (t := 14) (d := 203) (sz := 5) (by decide) (by simp) (by simp [Q.killO]) ?_
                simp [PV.map, Q.killO]
              · intro m hm
                have pl := pickL_len key (l.take m) y
                rw [List.length_take] at pl
                rcases Nat.lt_or_ge m l.length with hml | hmg
                · obtain ⟨x, hx, _, hmem⟩ := drop_at hml
                  have b1 : ((m : Int) < (l.length : Int)) = True := eq_true (by omega)
                  have a1 := encL_at hx
                  have a3 := encL_at (marks_at (key := key) hx)
                  have f1 := T.enc_len x
                  have f4 := T.enc_len (getT key x)
                  have g3 := fitL_in m1 (getT key x) (List.mem_map.2 ⟨x, hmem, rfl⟩)
                  have e7 := pickL_take (key := key) (y := y) hx
                  have g1 := gl x hmem
                  simp only [rg, go_sem, seval, Prod.fst, agX_out, zk, zn, zs, zks, zl, strs_e, encLX_e, Bool.false_or, Bool.or_true, Bool.not_true, Bool.false_eq_true, Prod.fst, b1, a1, a3, f1, f2, f4, ml, encL_len, encL_appL, encL_one, spSameIV_md, spSameIV_pre, spSameIV_alts, spSameIV_res, spSameIV_out, spSameIV_md, spSameIV_pre, spSameIV_ne, ↓spSameIV_all, spSameIV_all]
                  repeat' (first | with_reducible assumption | with_reducible refine And.intro ?_ ?_ | intro _)
                  all_goals first | omega | assumption | skip
                  · have h : getT key x = y := by assumption
                    rw [if_pos h] at e7
                    refine ⟨m + 1, by omega, by omega, ?_⟩
                    rw [e7]
                    refine Le.sub ?_ ?_ ?_ <;> simp
                  · have h : ¬ getT key x = y := by assumption
                    rw [if_neg h, List.append_nil] at e7
                    refine ⟨m + 1, by omega, by omega, ?_⟩
                    rw [e7]
                    refine Le.sub ?_ ?_ ?_ <;> simp
                · obtain rfl : m = l.length := by omega
                  have b1 : ((l.length : Int) < (l.length : Int)) = False := eq_false (by omega)
                  have f1 := T.enc_len (.mk 5 0 ⟨#[]⟩ [] (pickL key l y))
                  simp only [rg, go_sem, seval, Prod.fst, agX_out, zk, zn, zs, zks, zl, strs_e, encLX_e, Bool.false_or, Bool.or_true, Bool.not_true, Bool.false_eq_true, Prod.fst, b1, List.take_length, f1, nl, encL_len, encL_appL, encL_one, spRow_md, spRow_pre, spRow_alts, spRow_res, spRow_out]
                  repeat' (first | with_reducible assumption | with_reducible refine And.intro ?_ ?_ | intro _)
                  all_goals first | omega | assumption | skip
                  refine ⟨j + 1, by omega, by omega, ?_⟩
                  rw [e6]
                  refine Le.sub ?_ ?_ ?_ <;> simp
            · obtain rfl : j = ys.length := by omega
              have b1 : ((ys.length : Int) < (ys.length : Int)) = False := eq_false (by omega)
              have f4 := T.enc_len (toldT true (.mk 5 0 ⟨#[]⟩ [] (grpsL key l ys)))
              have f5 := T.enc_len (.mk 5 0 ⟨#[]⟩ [] (grpsL key l ys))
              simp only [rg, go_sem, seval, Prod.fst, agX_out, zk, zn, zs, zks, zl, strs_e, encLX_e, Bool.false_or, Bool.or_true, Bool.not_true, Bool.false_eq_true, Prod.fst, b1, List.take_length, f4, f5, encL_len, spRow_md, spRow_pre, spRow_alts, spRow_res, spRow_out, spToldX_md, spToldX_pre, spToldX_alts, spToldX_res, spToldX_out]
              repeat' (first | with_reducible assumption | with_reducible refine And.intro ?_ ?_ | intro _)
              all_goals first | omega | assumption | skip
    · have e1 : byOk v key = False := eq_false (fun h => c ⟨h.1, h.2.1⟩)
      have e2 : byT v key = T.zero := if_neg (fun h => c ⟨h.1, h.2.1⟩)
      by_cases c1 : rowT v
      · have ck : okS key = False := eq_false (fun h => c ⟨c1, h⟩)
        simp only [x_RowByI, agX_out, zk, zn, zs, zks, zl, strs_e, encLX_e, Bool.false_or, Bool.or_true, Bool.not_true, Bool.false_eq_true, Prod.fst, rg, go_sem, seval, Prod.fst, f3, e1, e2, c1, ck, spIsRow_md, spIsRow_pre, spIsRow_alts, spIsRow_res, spIsRow_out, spTextOk_md, spTextOk_pre, spTextOk_alts, spTextOk_res, spTextOk_out]
        repeat' (first | with_reducible assumption | with_reducible refine And.intro ?_ ?_ | intro _)
        all_goals first | omega | assumption | exact T.zero_enc | (rename_i h; exact h.1.elim) | (simp; done) | (unfold lenB; omega) | skip
      · simp only [x_RowByI, agX_out, zk, zn, zs, zks, zl, strs_e, encLX_e, Bool.false_or, Bool.or_true, Bool.not_true, Bool.false_eq_true, Prod.fst, rg, go_sem, seval, Prod.fst, f3, e1, e2, c1, spIsRow_md, spIsRow_pre, spIsRow_alts, spIsRow_res, spIsRow_out, spTextOk_md, spTextOk_pre, spTextOk_alts, spTextOk_res, spTextOk_out]
        repeat' (first | with_reducible assumption | with_reducible refine And.intro ?_ ?_ | intro _)
        all_goals first | omega | assumption | exact T.zero_enc | (rename_i h; exact h.1.elim) | (simp; done) | (unfold lenB; omega) | skip
noncomputable def spByG  : Spec := Spec.of (ι := T × ByteArray) [false, false] (fun i => [.d (.agg i.1.enc), .d (.one (.str i.2))]) (fun i => i.1.fit 140737488355328 ∧ sizeT i.1 ≤ 1048577 ∧ lenB 140737488355328 i.2.size) (fun i => [.d (.agg (byT i.1 i.2).enc), .d (.one (.bool (decide (byOk i.1 i.2 ∧ okT (.mk 5 0 ⟨#[]⟩ [] (byL i.2 i.1.list))))))]) (fun _ => [.gone, .gone])
theorem spByG_inj : ∀ i j : T × ByteArray, (fun (i : T × ByteArray) => ([.d (.agg i.1.enc), .d (.one (.str i.2))] : List AV)) i = (fun (i : T × ByteArray) => ([.d (.agg i.1.enc), .d (.one (.str i.2))] : List AV)) j → i = j := by
  rintro ⟨v, key⟩ ⟨v', key'⟩ h
  simp only [Prod.mk.injEq]
  simpa [strs_eq, T.enc_eq, encL_eq, F.enc_eq, encF_eq, Tk.enc_eq, encTk_eq, Gn.enc_eq, ints_eq] using h
theorem spByG_md  : (spByG).md = [false, false] := rfl
theorem spByG_pre  (v : T) (key : ByteArray) : (spByG).pre [.d (.agg v.enc), .d (.one (.str key))] = (v.fit 140737488355328 ∧ sizeT v ≤ 1048577 ∧ lenB 140737488355328 key.size) := Spec.of_pre' spByG_inj (v, key)
theorem spByG_alts  : (spByG).alts = none := rfl
theorem spByG_res  (v : T) (key : ByteArray) : (spByG).res [.d (.agg v.enc), .d (.one (.str key))] = [.d (.agg (byT v key).enc), .d (.one (.bool (decide (byOk v key ∧ okT (.mk 5 0 ⟨#[]⟩ [] (byL key v.list))))))] := Spec.of_res spByG_inj (v, key)
theorem spByG_out  (v : T) (key : ByteArray) : (spByG).out [.d (.agg v.enc), .d (.one (.str key))] = [.gone, .gone] := Spec.of_out spByG_inj (v, key)
set_option maxHeartbeats 4000000 in
theorem RowByG_sound : Sound Go.Proofs.Try.prog 18 spByG := by
  refine sound_fam (GOK.cons (l := [(41, spOkS), (42, spL2Get), (38, spL4Once), (43, spSameV), (24, spL4Of), (23, spL2Told)]) call_l4Row l4Row_sound (GOK.cons call_l1Str l1Str_sound (GOK.cons call_l2Get l2Get_sound (GOK.cons call_l4Once l4Once_sound (GOK.cons call_ValSame sameV_sound (GOK.cons call_l4Of l4Of_sound (GOK.cons call_l2Told l2Told_sound GOK.nil))))))) Go.Proofs.Try.func18 (c := Go.Proofs.Try.f18.body.getD .skip) rfl (n := 92) rfl chk_RowBy rs_RowBy (fun _ => by simp) ?_ ?_
  · exact spByG_inj
  · rintro ⟨v, key⟩ ⟨h1', hz, h3⟩
    simp only [lenB] at h1' hz h3
    have f3 := T.enc_len v
    have v2 : v.fit 140737488355328 := h1'
    have hz' : sizeT v ≤ 1048577 := hz
    by_cases c : rowT v ∧ okS key
    · have h1 : v.fit 1000000 := T.fit_mono (by decide) (okT_fit c.1.1)
      have h4 : v.list.length < 100 := row_len c.1
      have h2 : sizeT v ≤ 1000000 := by have := okT_size c.1.1; omega
      have h2' : sizeT v ≤ 1000000 := h2
      obtain ⟨c, ck⟩ := c
      obtain ⟨l, rfl⟩ : ∃ l, v = .mk 5 0 ⟨#[]⟩ [] l := ⟨_, rowT_is c⟩
      have o1 := c.1
      have l1 : (l.length : Int) ≤ 1000000 := (T.fit_list h1).1
      have l2 : l.length < 100 := h4
      have sl := byL_size key l
      simp only [sizeT] at h2
      have c' : rowT (T.mk 5 0 ⟨#[]⟩ [] l) = True := eq_true c
      have ck' : okS key = True := eq_true ck
      have gl := fun x hx => fitL_in (T.fit_list v2).2 x hx
      have ol := fun x hx => okT_elem (t := x) o1 hx
      simp only [x_RowBy, rg, go_sem, seval, Prod.fst, T.enc, foldT, foldT0, T.list, c', ck', encL_len, spL4Row_md, spL4Row_pre, spL4Row_alts, spL4Row_res, spL4Row_out, spOkS_md, spOkS_pre, spOkS_alts, spOkS_res, spOkS_out]
      repeat' (first | with_reducible assumption | with_reducible refine And.intro ?_ ?_ | intro _)
      all_goals first | omega | assumption | (unfold lenB; omega) | (simp only [sizeT]; omega) | skip
      refine pw_loop (ι := Nat) (fun i => l.length - i) (fun i => i ≤ l.length ∧ ∀ x ∈ l.take i, getOk x)
        (fun i => ⟨[(1, .q (.c (.str key))), (2, .q (.box 2 0)), (4, .q (.box 4 0)), (6, .q (.own 201)), (7, .q (.c (.int .i64 i)))], [(2, [.c (.int .i64 5), .c (.int .i64 0), .c (.str ⟨#[]⟩), .c (.row 1 (strs [])), .c (.row 5 (encL l))]), (4, [.c (.int .i64 0), .c (.int .i64 0), .c (.str ⟨#[]⟩), .z 1, .z 5])], [(201, 5, encL (marks key (l.take i)))]⟩) 0 ⟨Nat.zero_le _, by simp⟩ ?_ ?_
      · refine Le.own (t := 6) (d := 201) (sz := 5) (by decide) (by simp) (by simp [Q.killO]) ?_
        simp [PV.map, Q.killO]
      · rintro i ⟨hi, hg⟩
        have ml : (marks key (l.take i)).length = i := by rw [marks_len, List.length_take]; omega
        rcases Nat.lt_or_ge i l.length with hlt | hge
        · obtain ⟨x, hx, _, hmem⟩ := drop_at hlt
          have b1 : ((i : Int) < (l.length : Int)) = True := eq_true (by omega)
          have a1 := encL_at hx
          have f1 := T.enc_len x
          have f2 := T.enc_len (getT key x)
          have g1 := gl x hmem
          have g2 := ol x hmem
          have e := marks_take (key := key) hx
          by_cases d : getOk x
          · have d' : getOk x = True := eq_true d
            simp only [rg, go_sem, seval, Prod.fst, b1, a1, f1, f2, d', ml, encL_len, encL_appL, encL_one, spL2Get_md, spL2Get_pre, spL2Get_alts, spL2Get_res, spL2Get_out]
            repeat' (first | with_reducible assumption | with_reducible refine And.intro ?_ ?_ | intro _)
            all_goals first | omega | assumption | skip
            refine ⟨i + 1, ⟨by omega, fun z hz => ?_⟩, by omega, ?_⟩
            · rw [take_snoc hx] at hz
              rcases List.mem_append.1 hz with hz | hz
              · exact hg z hz
              · simp only [List.mem_singleton] at hz; rw [hz]; exact d
            · rw [e]
              refine Le.sub ?_ ?_ ?_ <;> simp
          · have d' : getOk x = False := eq_false d
            have e1 : byOk (T.mk 5 0 ⟨#[]⟩ [] l) key = False := eq_false (fun h => d (h.2.2 x hmem))
            have e2 : byT (T.mk 5 0 ⟨#[]⟩ [] l) key = T.zero := if_neg (fun h => d (h.2.2 x hmem))
            simp only [rg, go_sem, seval, Prod.fst, b1, a1, f1, f2, d', e1, e2, ml, encL_len, encL_appL, encL_one, spL2Get_md, spL2Get_pre, spL2Get_alts, spL2Get_res, spL2Get_out]
            repeat' (first | with_reducible assumption | with_reducible refine And.intro ?_ ?_ | intro _)
            all_goals first | omega | assumption | exact T.zero_enc | (rename_i h; exact h.1.elim) | skip
        · obtain rfl : i = l.length := by omega
          have b1 : ((l.length : Int) < (l.length : Int)) = False := eq_false (by omega)
          rw [List.take_length] at hg ml
          have m1 := marks_fit (key := key) (by omega) ol (T.fit_list v2).2
          have m2 : fitL 140737488355328 (sortC cmpT (marks key l)) := fitL_perm m1 (sortC_perm cmpT_is _)
          have m3 : (sortC cmpT (marks key l)).length = l.length := by rw [(sortC_perm cmpT_is _).length_eq, ml]
          have m4 : onc (sortC cmpT (marks key l)) = onceL (marks key l) := rfl
          have m5 := onceL_len (marks key l)
          simp only [rg, go_sem, seval, Prod.fst, b1, List.take_length, ml, m4, encL_len, spL4Once_md, spL4Once_pre, spL4Once_alts, spL4Once_res, spL4Once_out]
          repeat' (first | with_reducible assumption | with_reducible refine And.intro ?_ ?_ | intro _)
          all_goals first | omega | assumption | (unfold lenB; omega) | (simp only [sizeT]; omega) | skip
          have e3 : byOk (T.mk 5 0 ⟨#[]⟩ [] l) key = True := eq_true ⟨c, ck, hg⟩
          have e4 : byT (T.mk 5 0 ⟨#[]⟩ [] l) key = toldT true (.mk 5 0 ⟨#[]⟩ [] (byL key l)) := byT_row ⟨c, ck, hg⟩
          have e5 : byL key l = grpsL key l (onceL (marks key l)) := rfl
          have m6 : fitL 140737488355328 (onceL (marks key l)) := onceL_fit m1
          have m7 : (T.mk 5 0 ⟨#[]⟩ [] (byL key l)).fit 2000000 := by
            have := byL_len key l
            refine rowT_fit (by omega) (by unfold lenB; omega) (byL_fit (by omega) (by unfold lenB; omega) (fitL_of fun t ht => T.fit_mono (by decide) (fitL_in (T.fit_list h1).2 t ht)))
          rw [e5] at m7 sl
          simp only [e3, e4, e5]
          generalize onceL (marks key l) = ys at *
          refine pw_loop (ι := Nat) (fun j => ys.length - j) (fun j => j ≤ ys.length)
            (fun j => ⟨[(2, .q (.box 2 0)), (4, .q (.box 4 0)), (6, .q (.c (.row 5 (encL (marks key l))))), (10, .q (.own 50)), (11, .q (.own 202)), (12, .q (.c (.int .i64 j)))], [(2, [.c (.int .i64 5), .c (.int .i64 0), .c (.str ⟨#[]⟩), .c (.row 1 (strs [])), .c (.row 5 (encL l))]), (4, [.c (.int .i64 0), .c (.int .i64 0), .c (.str ⟨#[]⟩), .z 1, .z 5])], [(50, 5, encL ys), (202, 5, encL (grpsL key l (ys.take j)))]⟩) 0 (Nat.zero_le _) ?_ ?_
          · refine Le.own (t := 11) (d := 202) (sz := 5) (by decide) (by simp) (by simp [Q.killO]) ?_
            simp [PV.map, Q.killO]
          · intro j hj
            have nl : (grpsL key l (ys.take j)).length = j := by rw [grps_len, List.length_take]; omega
            rcases Nat.lt_or_ge j ys.length with hjl | hjg
            · obtain ⟨y, hy, _, hym⟩ := drop_at hjl
              have b2 : ((j : Int) < (ys.length : Int)) = True := eq_true (by omega)
              have a2 := encL_at hy
              have f2 := T.enc_len y
              have g2 := fitL_in m6 y hym
              have e6 := grps_take (key := key) (l := l) hy
              simp only [rg, go_sem, seval, Prod.fst, b2, a2, f2, encL_len]
              repeat' (first | with_reducible assumption | with_reducible refine And.intro ?_ ?_ | intro _)
              all_goals first | omega | assumption | skip
              refine pw_loop (ι := Nat) (fun m => l.length - m) (fun m => m ≤ l.length)
                (fun m => ⟨[(2, .q (.box 2 0)), (4, .q (.box 4 0)), (6, .q (.c (.row 5 (encL (marks key l))))), (10, .q (.own 50)), (11, .q (.own 202)), (12, .q (.c (.int .i64 j))), (13, .q (.own 203)), (14, .q (.c (.int .i64 m)))], [(2, [.c (.int .i64 5), .c (.int .i64 0), .c (.str ⟨#[]⟩), .c (.row 1 (strs [])), .c (.row 5 (encL l))]), (4, [.c (.int .i64 0), .c (.int .i64 0), .c (.str ⟨#[]⟩), .z 1, .z 5])], [(50, 5, encL ys), (202, 5, encL (grpsL key l (ys.take j))), (203, 5, encL (pickL key (l.take m) y))]⟩) 0 (Nat.zero_le _) ?_ ?_
              · refine Le.own (t := 13) (d := 203) (sz := 5) (by decide) (by simp) (by simp [Q.killO]) ?_
                simp [PV.map, Q.killO]
              · intro m hm
                have pl := pickL_len key (l.take m) y
                rw [List.length_take] at pl
                rcases Nat.lt_or_ge m l.length with hml | hmg
                · obtain ⟨x, hx, _, hmem⟩ := drop_at hml
                  have b1 : ((m : Int) < (l.length : Int)) = True := eq_true (by omega)
                  have a1 := encL_at hx
                  have a3 := encL_at (marks_at (key := key) hx)
                  have f1 := T.enc_len x
                  have f4 := T.enc_len (getT key x)
                  have g3 := fitL_in m1 (getT key x) (List.mem_map.2 ⟨x, hmem, rfl⟩)
                  have e7 := pickL_take (key := key) (y := y) hx
                  have g1 := gl x hmem
                  simp only [rg, go_sem, seval, Prod.fst, b1, a1, a2, a3, f1, f2, f4, ml, encL_len, encL_appL, encL_one, spSameV_md, spSameV_pre, spSameV_alts, spSameV_res, spSameV_out, spSameV_md, spSameV_pre, spSameV_ne, ↓spSameV_all, spSameV_all]
                  repeat' (first | with_reducible assumption | with_reducible refine And.intro ?_ ?_ | intro _)
                  all_goals first | omega | assumption | skip
                  · have h : getT key x = y := by assumption
                    rw [if_pos h] at e7
                    refine ⟨m + 1, by omega, by omega, ?_⟩
                    rw [e7]
                    refine Le.sub ?_ ?_ ?_ <;> simp
                  · have h : ¬ getT key x = y := by assumption
                    rw [if_neg h, List.append_nil] at e7
                    refine ⟨m + 1, by omega, by omega, ?_⟩
                    rw [e7]
                    refine Le.sub ?_ ?_ ?_ <;> simp
                · obtain rfl : m = l.length := by omega
                  have b1 : ((l.length : Int) < (l.length : Int)) = False := eq_false (by omega)
                  have f1 := T.enc_len (.mk 5 0 ⟨#[]⟩ [] (pickL key l y))
                  simp only [rg, go_sem, seval, Prod.fst, b1, List.take_length, f1, nl, encL_len, encL_appL, encL_one, spL4Of_md, spL4Of_pre, spL4Of_alts, spL4Of_res, spL4Of_out]
                  repeat' (first | with_reducible assumption | with_reducible refine And.intro ?_ ?_ | intro _)
                  all_goals first | omega | assumption | skip
                  refine ⟨j + 1, by omega, by omega, ?_⟩
                  rw [e6]
                  refine Le.sub ?_ ?_ ?_ <;> simp
            · obtain rfl : j = ys.length := by omega
              have b1 : ((ys.length : Int) < (ys.length : Int)) = False := eq_false (by omega)
              have f4 := T.enc_len (toldT true (.mk 5 0 ⟨#[]⟩ [] (grpsL key l ys)))
              have f5 := T.enc_len (.mk 5 0 ⟨#[]⟩ [] (grpsL key l ys))
              simp only [rg, go_sem, seval, Prod.fst, b1, List.take_length, f4, f5, encL_len, spL4Of_md, spL4Of_pre, spL4Of_alts, spL4Of_res, spL4Of_out, spL2Told_md, spL2Told_pre, spL2Told_alts, spL2Told_res, spL2Told_out]
              repeat' (first | with_reducible assumption | with_reducible refine And.intro ?_ ?_ | intro _)
              all_goals first | omega | assumption | (simp only [sizeT]; omega) | skip
    · have e1 : byOk v key = False := eq_false (fun h => c ⟨h.1, h.2.1⟩)
      have e2 : byT v key = T.zero := if_neg (fun h => c ⟨h.1, h.2.1⟩)
      by_cases c1 : rowT v
      · have ck : okS key = False := eq_false (fun h => c ⟨c1, h⟩)
        simp only [x_RowBy, rg, go_sem, seval, Prod.fst, f3, e1, e2, c1, ck, spL4Row_md, spL4Row_pre, spL4Row_alts, spL4Row_res, spL4Row_out, spOkS_md, spOkS_pre, spOkS_alts, spOkS_res, spOkS_out]
        repeat' (first | with_reducible assumption | with_reducible refine And.intro ?_ ?_ | intro _)
        all_goals first | omega | assumption | exact T.zero_enc | (rename_i h; exact h.1.elim) | (unfold lenB; omega) | (show sizeT v ≤ 1048577; omega) | skip
      · simp only [x_RowBy, rg, go_sem, seval, Prod.fst, f3, e1, e2, c1, spL4Row_md, spL4Row_pre, spL4Row_alts, spL4Row_res, spL4Row_out, spOkS_md, spOkS_pre, spOkS_alts, spOkS_res, spOkS_out]
        repeat' (first | with_reducible assumption | with_reducible refine And.intro ?_ ?_ | intro _)
        all_goals first | omega | assumption | exact T.zero_enc | (rename_i h; exact h.1.elim) | (unfold lenB; omega) | (show sizeT v ≤ 1048577; omega) | skip
end Go.Proofs.Pw
