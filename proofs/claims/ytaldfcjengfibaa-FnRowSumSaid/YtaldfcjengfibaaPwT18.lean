/- Rows put together; rows grouped by what stands under a key. -/
import Derived.Test.YtaldfcjengfibaaPwT17
import Derived.Test.YtaldfcjengfibaaPwT14
import Derived.Test.YtaldfcjengfibaaPwT16
import Derived.Test.YtaldfcjengfibaaPwT9
set_option linter.unusedSimpArgs false
set_option linter.unusedVariables false
set_option linter.unusedSimpArgs false
set_option maxRecDepth 20000
namespace Go.Proofs.Pw
set_option linter.unusedSectionVars false
variable [Globs]
def x_RowFlat : X := (.seq (.reg [⟨some 1, none, .box (.t 0) (some 5)⟩, ⟨some 2, none, .alloc [(.c (.int .i64 0)), (.c (.int .i64 0)), (.c (.str ⟨#[]⟩)), (.z 1), (.z 5)]⟩, ⟨some 3, none, .mv (.k (.c (.bool false)))⟩] none [1, 2]) (.seq (.seq (.reg [⟨some 7, none, .load (.t 1) (some 5)⟩, ⟨some 8, none, .call 27 [(.t 7)]⟩, ⟨some 9, none, .not (.t 8)⟩] none [1, 2, 9]) (.cond (.t 9) (.seq (.reg [⟨some 10, none, .build [(.c (.int .i64 0)), (.c (.int .i64 0)), (.c (.str ⟨#[]⟩)), (.z 1), (.z 5)] []⟩, ⟨none, none, .st (.t 2) (.t 10) (some 5)⟩, ⟨some 3, none, .mv (.k (.c (.bool false)))⟩] none [2, 3]) .ret) .skip)) (.seq (.reg [⟨some 11, none, .bsl 5 []⟩, ⟨some 4, none, .mv (.t 11)⟩] none [1, 2, 4]) (.seq (.seq (.reg [⟨some 12, none, .fa (.t 1) 4⟩, ⟨some 13, none, .load (.t 12) none⟩, ⟨some 14, none, .len (.t 13) false⟩, ⟨some 15, none, .mv (.k (.c (.int .i64 0)))⟩] none [2, 4, 13, 14, 15]) (.block 0 (.loop (.seq (.reg [⟨some 16, none, .bin false .lss (.t 15) (.t 14)⟩] none [2, 4, 13, 14, 15, 16]) (.seq (.cond (.t 16) .skip (.exit 0)) (.seq (.block 1 (.seq (.reg [⟨some 17, none, .ia (.t 13) (.t 15) 5⟩, ⟨some 18, none, .load (.t 17) (some 5)⟩, ⟨some 6, none, .alloc [(.c (.int .i64 0)), (.c (.int .i64 0)), (.c (.str ⟨#[]⟩)), (.z 1), (.z 5)]⟩, ⟨none, none, .st (.t 6) (.t 18) (some 5)⟩] none [2, 4, 6, 13, 14, 15]) (.seq (.reg [⟨some 19, none, .fa (.t 6) 0⟩, ⟨some 20, none, .load (.t 19) none⟩, ⟨some 21, none, .bin false .eql (.t 20) (.k (.c (.int .i64 5)))⟩] none [2, 4, 6, 13, 14, 15, 21]) (.cond (.t 21) (.reg [⟨some 22, none, .mv (.t 4)⟩, ⟨some 23, none, .fa (.t 6) 4⟩, ⟨some 24, none, .load (.t 23) none⟩, ⟨some 25, none, .app (.t 22) (.t 24) 5 80 []⟩, ⟨some 4, none, .mv (.t 25)⟩] none [2, 4, 13, 14, 15]) (.reg [⟨some 26, none, .mv (.t 4)⟩, ⟨some 27, none, .load (.t 6) (some 5)⟩, ⟨some 28, none, .bsl 5 [((.t 27), (some 5))]⟩, ⟨some 29, none, .app (.t 26) (.t 28) 5 80 []⟩, ⟨some 4, none, .mv (.t 29)⟩] none [2, 4, 13, 14, 15]))))) (.reg [⟨some 30, none, .bin false .add (.t 15) (.k (.c (.int .i64 1)))⟩, ⟨some 15, none, .mv (.t 30)⟩] none [2, 4, 13, 14, 15]))))))) (.seq (.reg [⟨some 31, none, .mv (.t 4)⟩, ⟨some 32, none, .call 32 [(.t 31)]⟩, ⟨some 33, none, .call 28 [(.t 32), (.k (.c (.bool true)))]⟩, ⟨some 34, none, .ext (.t 33) 0⟩, ⟨some 35, none, .ext (.t 33) 1⟩, ⟨none, none, .st (.t 2) (.t 34) (some 5)⟩, ⟨some 3, none, .mv (.t 35)⟩] none [2, 3]) .ret)))))
theorem chk_RowFlat : chkX Go.Proofs.Try.prog 36 (Go.Proofs.Try.f9.body.getD .skip) x_RowFlat = true := by kernel_rfl
theorem rs_RowFlat : okRs Go.Proofs.Try.prog Go.Proofs.Try.f9.results.toList [.cell 2 (some 5), .tmp 3] = true := by kernel_rfl
theorem call_RowFlat : okCallee Go.Proofs.Try.prog 9 = true := by kernel_rfl
theorem flatT_row {l : List T} (h : okT (.mk 5 0 ⟨#[]⟩ [] l)) : flatT (.mk 5 0 ⟨#[]⟩ [] l) = toldT true (.mk 5 0 ⟨#[]⟩ [] (flatL l)) := if_pos (rowT_row.2 h)
noncomputable def spFlat  : Spec := Spec.of (ι := T) [false] (fun i => [.d (.agg i.enc)]) (fun i => i.fit 1000000 ∧ lenB 1000000 (flatL i.list).length) (fun i => [.d (.agg (flatT i).enc), .d (.one (.bool (decide (rowT i ∧ okT (.mk 5 0 ⟨#[]⟩ [] (flatL i.list))))))]) (fun _ => [.gone])
theorem spFlat_inj : ∀ i j : T, (fun (i : T) => ([.d (.agg i.enc)] : List AV)) i = (fun (i : T) => ([.d (.agg i.enc)] : List AV)) j → i = j := by
  intro v v' h
  simpa [strs_eq, T.enc_eq, encL_eq, F.enc_eq, encF_eq, Tk.enc_eq, encTk_eq, Gn.enc_eq, ints_eq] using h
theorem spFlat_md  : (spFlat).md = [false] := rfl
theorem spFlat_pre  (v : T) : (spFlat).pre [.d (.agg v.enc)] = (v.fit 1000000 ∧ lenB 1000000 (flatL v.list).length) := Spec.of_pre' spFlat_inj v
theorem spFlat_alts  : (spFlat).alts = none := rfl
theorem spFlat_res  (v : T) : (spFlat).res [.d (.agg v.enc)] = [.d (.agg (flatT v).enc), .d (.one (.bool (decide (rowT v ∧ okT (.mk 5 0 ⟨#[]⟩ [] (flatL v.list))))))] := Spec.of_res spFlat_inj v
theorem spFlat_out  (v : T) : (spFlat).out [.d (.agg v.enc)] = [.gone] := Spec.of_out spFlat_inj v
theorem RowFlat_sound : Sound Go.Proofs.Try.prog 9 spFlat := by
  refine sound_fam (GOK.cons (l := [(32, spRow), (28, spTold)]) call_isRow isRow_sound (GOK.cons call_row row_sound (GOK.cons call_told told_sound GOK.nil))) Go.Proofs.Try.func9 (c := Go.Proofs.Try.f9.body.getD .skip) rfl (n := 36) rfl chk_RowFlat rs_RowFlat (fun _ => by simp) ?_ ?_
  · exact spFlat_inj
  · rintro v ⟨h1, h2⟩
    have f3 := T.enc_len v
    have v2 : v.fit 140737488355328 := T.fit_mono (by decide) h1
    by_cases c : rowT v
    · obtain ⟨l, rfl⟩ : ∃ l, v = .mk 5 0 ⟨#[]⟩ [] l := ⟨_, rowT_is c⟩
      have o1 := c.1
      have e1 := flatT_row o1
      have l1 : (l.length : Int) ≤ 1000000 := (T.fit_list h1).1
      have l2 : ((flatL l).length : Int) ≤ 1000000 := h2
      have c' : rowT (T.mk 5 0 ⟨#[]⟩ [] l) = True := eq_true c
      simp only [x_RowFlat, rg, go_sem, seval, Prod.fst, T.enc, foldT, foldT0, T.list, c', e1, encL_len, spIsRow_md, spIsRow_pre, spIsRow_alts, spIsRow_res, spIsRow_out]
      repeat' (first | with_reducible assumption | with_reducible refine And.intro ?_ ?_ | intro _)
      all_goals first | omega | assumption | skip
      refine pw_loop (ι := Nat) (fun i => l.length - i) (fun i => i ≤ l.length)
        (fun i => ⟨[(2, .q (.box 2 0)), (4, .q (.own 201)), (13, .q (.c (.row 5 (encL l)))), (14, .q (.c (.int .i64 l.length))), (15, .q (.c (.int .i64 i)))], [(1, [.c (.int .i64 5), .c (.int .i64 0), .c (.str ⟨#[]⟩), .c (.row 1 (strs [])), .c (.row 5 (encL l))]), (2, [.c (.int .i64 0), .c (.int .i64 0), .c (.str ⟨#[]⟩), .z 1, .z 5])], [(201, 5, encL (flatL (l.take i)))]⟩) 0 (Nat.zero_le _) ?_ ?_
      · refine Le.own (t := 4) (d := 201) (sz := 5) (by decide) (by simp) (by simp [Q.killO]) ?_
        simp [PV.map, Q.killO]
      · intro i hi
        have l3 := flatL_le (l := l) i
        rcases Nat.lt_or_ge i l.length with hlt | hge
        · obtain ⟨x, hx, _, hmem⟩ := drop_at hlt
          have b1 : ((i : Int) < (l.length : Int)) = True := eq_true (by omega)
          have a1 := encL_at hx
          have f1 := T.enc_len x
          have e := flatL_take hx
          have l4 := flatL_le (l := l) (i + 1)
          rw [e, List.length_append] at l4
          have g1 := fitL_in (T.fit_list h1).2 x hmem
          obtain ⟨k, n, s, ks, li⟩ := x
          by_cases d : k = 5
          · have b2 : (k = 5) = True := eq_true d
            simp only [T.kind, T.list, b2, if_true] at l4 e
            simp only [rg, go_sem, seval, Prod.fst, b1, b2, a1, f1, encL_len, encL_appL]
            simp only [rg, go_sem, seval, Prod.fst, T.enc, b1, b2, encL_len, encL_appL]
            repeat' (first | with_reducible assumption | with_reducible refine And.intro ?_ ?_ | intro _)
            all_goals first | omega | assumption | skip
            refine ⟨i + 1, by omega, by omega, ?_⟩
            rw [e]
            refine Le.sub ?_ ?_ ?_ <;> simp [encL_app, encL, T.enc]
          · have b2 : (k = 5) = False := eq_false d
            simp only [T.kind, T.list, b2, if_false] at l4 e
            simp only [rg, go_sem, seval, Prod.fst, b1, b2, a1, f1, encL_len, encL_appL]
            simp only [rg, go_sem, seval, Prod.fst, T.enc, b1, b2, encL_len, encL_appL]
            repeat' (first | with_reducible assumption | with_reducible refine And.intro ?_ ?_ | intro _)
            all_goals first | omega | assumption | skip
            refine ⟨i + 1, by omega, by omega, ?_⟩
            rw [e]
            refine Le.sub ?_ ?_ ?_ <;> simp [encL_app, encL, T.enc]
        · obtain rfl : i = l.length := by omega
          have b1 : ((l.length : Int) < (l.length : Int)) = False := eq_false (by omega)
          have e : flatL (l.take l.length) = flatL l := by rw [List.take_length]
          have f4 := T.enc_len (toldT true (.mk 5 0 ⟨#[]⟩ [] (flatL l)))
          have f5 := T.enc_len (.mk 5 0 ⟨#[]⟩ [] (flatL l))
          have g1 : (T.mk 5 0 ⟨#[]⟩ [] (flatL l)).fit 2000000 := rowT_fit (by omega) (by unfold lenB; omega) (flatL_fit (fitL_of fun t ht => T.fit_mono (by decide) (fitL_in (T.fit_list h1).2 t ht)))
          simp only [rg, go_sem, seval, Prod.fst, b1, e, f4, f5, encL_len, spRow_md, spRow_pre, spRow_alts, spRow_res, spRow_out, spTold_md, spTold_pre, spTold_alts, spTold_res, spTold_out]
          repeat' (first | with_reducible assumption | with_reducible refine And.intro ?_ ?_ | intro _)
          all_goals first | omega | assumption | skip
    · have e1 : flatT v = T.zero := if_neg c
      simp only [x_RowFlat, rg, go_sem, seval, Prod.fst, f3, e1, c, spIsRow_md, spIsRow_pre, spIsRow_alts, spIsRow_res, spIsRow_out]
      repeat' (first | with_reducible assumption | with_reducible refine And.intro ?_ ?_ | intro _)
      all_goals first | omega | assumption | exact T.zero_enc | (rename_i h; exact h.1.elim) | skip
end Go.Proofs.Pw
/- All of a row added. -/
namespace Go.Proofs.Pw
set_option linter.unusedSectionVars false
variable [Globs]
noncomputable def sumO : List T → T → Option T
  | [], s => some s
  | x :: l, s => if addOk s x then sumO l (addT s x) else none
open Classical in
noncomputable def sumT (v : T) : T := if rowT v then (sumO v.list T.zero).getD T.zero else T.zero
def sumOk (v : T) : Prop := rowT v ∧ (sumO v.list T.zero).isSome = true
noncomputable instance (v : T) : Decidable (sumOk v) := Classical.propDecidable _
theorem sumT_row {l : List T} (h : okT (.mk 5 0 ⟨#[]⟩ [] l)) : sumT (.mk 5 0 ⟨#[]⟩ [] l) = (sumO l T.zero).getD T.zero := if_pos (rowT_row.2 h)
theorem sumOk_row {l : List T} (h : okT (.mk 5 0 ⟨#[]⟩ [] l)) : sumOk (.mk 5 0 ⟨#[]⟩ [] l) ↔ (sumO l T.zero).isSome = true := ⟨fun h => h.2, fun k => ⟨rowT_row.2 h, k⟩⟩
theorem sumO_ok : ∀ {l : List T} {s t : T}, okT s → sumO l s = some t → okT t
  | [], s, t, hs, h => by simp only [sumO, Option.some.injEq] at h; subst h; exact hs
  | x :: l, s, t, _, h => by
    simp only [sumO] at h
    split at h
    · exact sumO_ok (addT_ok s x) h
    · cases h
theorem sumO_snoc : ∀ {l : List T} {s x : T}, sumO (l ++ [x]) s = (sumO l s).bind fun t => if addOk t x then some (addT t x) else none
  | [], s, x => by simp [sumO]
  | y :: l, s, x => by
    simp only [List.cons_append, sumO]
    split
    · exact sumO_snoc
    · rfl
/-- Of a row of rows it is what that row is flat. -/
theorem addT_rows {a b : List T} (h : addOk (.mk 5 0 ⟨#[]⟩ [] a) (.mk 5 0 ⟨#[]⟩ [] b)) : addT (.mk 5 0 ⟨#[]⟩ [] a) (.mk 5 0 ⟨#[]⟩ [] b) = .mk 5 0 ⟨#[]⟩ [] (a ++ b) := by
  obtain ⟨h1, h2, t, h3, h4⟩ := h
  have e : addRaw (.mk 5 0 ⟨#[]⟩ [] a) (.mk 5 0 ⟨#[]⟩ [] b) = some (.mk 5 0 ⟨#[]⟩ [] (a ++ b)) := by simp [addRaw]
  rw [e] at h3
  cases h3
  rw [(addT_some h1 h2 e).1, toldT_ok h4]
theorem addT_zero {x : T} (h : addOk T.zero x) : addT T.zero x = x := by
  obtain ⟨h1, h2, _⟩ := h
  have e : addRaw T.zero x = some x := by obtain ⟨k, n, s, ks, l⟩ := x; simp [T.zero, addRaw]
  rw [(addT_some h1 h2 e).1, toldT_ok h2]
theorem sumO_rows : ∀ {l : List T} {a : List T} {t : T}, (∀ x ∈ l, ∃ y, x = .mk 5 0 ⟨#[]⟩ [] y) → sumO l (.mk 5 0 ⟨#[]⟩ [] a) = some t → t = .mk 5 0 ⟨#[]⟩ [] (a ++ flatL l)
  | [], a, t, _, h => by simp only [sumO, Option.some.injEq] at h; subst h; simp [flatL]
  | x :: l, a, t, hl, h => by
    obtain ⟨y, rfl⟩ := hl x (by simp)
    simp only [sumO] at h
    split at h
    · rename_i hk
      rw [addT_rows hk] at h
      have := sumO_rows (fun x hx => hl x (by simp [hx])) h
      rw [this]
      simp [flatL, T.kind, T.list]
    · cases h
theorem sumO_rows0 {l : List T} {t : T} (hne : l ≠ []) (hl : ∀ x ∈ l, ∃ y, x = .mk 5 0 ⟨#[]⟩ [] y) (h : sumO l T.zero = some t) : t = .mk 5 0 ⟨#[]⟩ [] (flatL l) := by
  cases l with
  | nil => exact absurd rfl hne
  | cons x l =>
    obtain ⟨y, rfl⟩ := hl x (by simp)
    simp only [sumO] at h
    split at h
    · rename_i hk
      rw [addT_zero hk] at h
      have := sumO_rows (fun x hx => hl x (by simp [hx])) h
      rw [this]
      simp [flatL, T.kind, T.list]
    · cases h
end Go.Proofs.Pw
/- All of a row added: both programs; a row flat, the reference's; the draw. -/
set_option linter.unusedSimpArgs false
set_option maxRecDepth 20000
namespace Go.Proofs.Pw
set_option linter.unusedSectionVars false
variable [Globs]
def x_RowSumI : X := (.seq (.reg [⟨some 1, none, .box (.t 0) (some 5)⟩, ⟨some 2, none, .alloc [(.c (.int .i64 0)), (.c (.int .i64 0)), (.c (.str ⟨#[]⟩)), (.z 1), (.z 5)]⟩, ⟨some 3, none, .mv (.k (.c (.bool false)))⟩] none [1, 2]) (.seq (.seq (.reg [⟨some 8, none, .load (.t 1) (some 5)⟩, ⟨some 9, none, .call 27 [(.t 8)]⟩, ⟨some 10, none, .not (.t 9)⟩] none [1, 2, 10]) (.cond (.t 10) (.seq (.reg [⟨some 11, none, .build [(.c (.int .i64 0)), (.c (.int .i64 0)), (.c (.str ⟨#[]⟩)), (.z 1), (.z 5)] []⟩, ⟨none, none, .st (.t 2) (.t 11) (some 5)⟩, ⟨some 3, none, .mv (.k (.c (.bool false)))⟩] none [2, 3]) .ret) .skip)) (.seq (.reg [⟨some 12, none, .build [(.c (.int .i64 0)), (.c (.int .i64 0)), (.c (.str ⟨#[]⟩)), (.z 1), (.z 5)] []⟩, ⟨some 4, none, .alloc [(.c (.int .i64 0)), (.c (.int .i64 0)), (.c (.str ⟨#[]⟩)), (.z 1), (.z 5)]⟩, ⟨none, none, .st (.t 4) (.t 12) (some 5)⟩, ⟨some 5, none, .mv (.k (.c (.bool true)))⟩] none [1, 2, 4]) (.seq (.seq (.reg [⟨some 13, none, .fa (.t 1) 4⟩, ⟨some 14, none, .load (.t 13) none⟩, ⟨some 15, none, .len (.t 14) false⟩, ⟨some 16, none, .mv (.k (.c (.int .i64 0)))⟩] none [2, 4, 14, 15, 16]) (.block 0 (.loop (.seq (.reg [⟨some 17, none, .bin false .lss (.t 16) (.t 15)⟩] none [2, 4, 14, 15, 16, 17]) (.seq (.cond (.t 17) .skip (.exit 0)) (.seq (.block 1 (.seq (.reg [⟨some 18, none, .ia (.t 14) (.t 16) 5⟩, ⟨some 19, none, .load (.t 18) (some 5)⟩, ⟨some 7, none, .alloc [(.c (.int .i64 0)), (.c (.int .i64 0)), (.c (.str ⟨#[]⟩)), (.z 1), (.z 5)]⟩, ⟨none, none, .st (.t 7) (.t 19) (some 5)⟩] none [2, 4, 7, 14, 15, 16]) (.seq (.reg [⟨some 21, none, .load (.t 4) (some 5)⟩, ⟨some 22, none, .load (.t 7) (some 5)⟩, ⟨some 23, none, .call 13 [(.t 21), (.t 22)]⟩, ⟨some 20, none, .mv (.t 23)⟩, ⟨some 24, none, .ext (.t 20) 0⟩, ⟨some 25, none, .ext (.t 20) 1⟩, ⟨none, none, .st (.t 4) (.t 24) (some 5)⟩, ⟨some 5, none, .mv (.t 25)⟩] none [2, 4, 5, 14, 15, 16]) (.seq (.reg [⟨some 26, none, .mv (.t 5)⟩, ⟨some 27, none, .not (.t 26)⟩] none [2, 4, 14, 15, 16, 27]) (.cond (.t 27) (.seq (.reg [⟨some 28, none, .build [(.c (.int .i64 0)), (.c (.int .i64 0)), (.c (.str ⟨#[]⟩)), (.z 1), (.z 5)] []⟩, ⟨none, none, .st (.t 2) (.t 28) (some 5)⟩, ⟨some 3, none, .mv (.k (.c (.bool false)))⟩] none [2, 3]) .ret) .skip))))) (.reg [⟨some 29, none, .bin false .add (.t 16) (.k (.c (.int .i64 1)))⟩, ⟨some 16, none, .mv (.t 29)⟩] none [2, 4, 14, 15, 16]))))))) (.seq (.reg [⟨some 30, none, .load (.t 4) (some 5)⟩, ⟨some 31, none, .call 28 [(.t 30), (.k (.c (.bool true)))]⟩, ⟨some 32, none, .ext (.t 31) 0⟩, ⟨some 33, none, .ext (.t 31) 1⟩, ⟨none, none, .st (.t 2) (.t 32) (some 5)⟩, ⟨some 3, none, .mv (.t 33)⟩] none [2, 3]) .ret)))))
theorem chk_RowSumI : chkX Go.Proofs.Try.prog 34 (Go.Proofs.Try.f7.body.getD .skip) x_RowSumI = true := by kernel_rfl
theorem rs_RowSumI : okRs Go.Proofs.Try.prog Go.Proofs.Try.f7.results.toList [.cell 2 (some 5), .tmp 3] = true := by kernel_rfl
theorem call_RowSumI : okCallee Go.Proofs.Try.prog 7 = true := by kernel_rfl
def x_RowSum : X := (.seq (.reg [⟨some 1, none, .box (.t 0) (some 5)⟩, ⟨some 2, none, .alloc [(.c (.int .i64 0)), (.c (.int .i64 0)), (.c (.str ⟨#[]⟩)), (.z 1), (.z 5)]⟩, ⟨some 3, none, .mv (.k (.c (.bool false)))⟩] none [1, 2]) (.seq (.seq (.reg [⟨some 8, none, .load (.t 1) (some 5)⟩, ⟨some 9, none, .call 29 [(.t 8)]⟩, ⟨some 10, none, .not (.t 9)⟩] none [1, 2, 10]) (.cond (.t 10) (.seq (.reg [⟨some 11, none, .build [(.c (.int .i64 0)), (.c (.int .i64 0)), (.c (.str ⟨#[]⟩)), (.z 1), (.z 5)] []⟩, ⟨none, none, .st (.t 2) (.t 11) (some 5)⟩, ⟨some 3, none, .mv (.k (.c (.bool false)))⟩] none [2, 3]) .ret) .skip)) (.seq (.reg [⟨some 12, none, .build [(.c (.int .i64 0)), (.c (.int .i64 0)), (.c (.str ⟨#[]⟩)), (.z 1), (.z 5)] []⟩, ⟨some 4, none, .alloc [(.c (.int .i64 0)), (.c (.int .i64 0)), (.c (.str ⟨#[]⟩)), (.z 1), (.z 5)]⟩, ⟨none, none, .st (.t 4) (.t 12) (some 5)⟩] none [1, 2, 4]) (.seq (.seq (.reg [⟨some 5, none, .mv (.k (.c (.int .i64 0)))⟩] none [1, 2, 4, 5]) (.block 0 (.loop (.seq (.seq (.reg [⟨some 13, none, .mv (.t 5)⟩, ⟨some 14, none, .fa (.t 1) 4⟩, ⟨some 15, none, .load (.t 14) none⟩, ⟨some 16, none, .len (.t 15) false⟩, ⟨some 17, none, .bin false .lss (.t 13) (.t 16)⟩] none [1, 2, 4, 5, 17]) (.cond (.t 17) .skip (.exit 0))) (.seq (.block 1 (.seq (.mix [⟨some 21, none, .load (.t 4) (some 5)⟩, ⟨some 22, none, .fa (.t 1) 4⟩, ⟨some 23, none, .load (.t 22) none⟩, ⟨some 24, none, .mv (.t 5)⟩, ⟨some 25, none, .ia (.t 23) (.t 24) 5⟩, ⟨some 26, none, .load (.t 25) (some 5)⟩, ⟨some 27, none, .call 30 [(.t 21), (.t 26)]⟩, ⟨some 20, none, .mv (.t 27)⟩, ⟨some 28, none, .ext (.t 20) 0⟩, ⟨some 29, none, .ext (.t 20) 1⟩, ⟨some 6, none, .alloc [(.c (.int .i64 0)), (.c (.int .i64 0)), (.c (.str ⟨#[]⟩)), (.z 1), (.z 5)]⟩, ⟨none, none, .st (.t 6) (.t 28) (some 5)⟩] [⟨some 7, none, .mv (.t 29)⟩] [[], [], [], [], [], [], [], [], [], [], [0, 1, 2, 3, 4, 5, 7, 8, 9], []] [1, 2, 4, 5, 6, 7]) (.seq (.seq (.reg [⟨some 30, none, .mv (.t 7)⟩, ⟨some 31, none, .not (.t 30)⟩] none [1, 2, 4, 5, 6, 31]) (.cond (.t 31) (.seq (.reg [⟨some 32, none, .build [(.c (.int .i64 0)), (.c (.int .i64 0)), (.c (.str ⟨#[]⟩)), (.z 1), (.z 5)] []⟩, ⟨none, none, .st (.t 2) (.t 32) (some 5)⟩, ⟨some 3, none, .mv (.k (.c (.bool false)))⟩] none [2, 3]) .ret) .skip)) (.reg [⟨some 33, none, .load (.t 6) (some 5)⟩, ⟨none, none, .st (.t 4) (.t 33) (some 5)⟩] none [1, 2, 4, 5])))) (.reg [⟨some 18, none, .mv (.t 5)⟩, ⟨some 19, none, .bin false .add (.t 18) (.k (.c (.int .i64 1)))⟩, ⟨some 5, none, .mv (.t 19)⟩] none [1, 2, 4, 5])))))) (.seq (.reg [⟨some 34, none, .load (.t 4) (some 5)⟩, ⟨some 35, none, .call 31 [(.t 34)]⟩, ⟨some 36, none, .ext (.t 35) 0⟩, ⟨some 37, none, .ext (.t 35) 1⟩, ⟨none, none, .st (.t 2) (.t 36) (some 5)⟩, ⟨some 3, none, .mv (.t 37)⟩] none [2, 3]) .ret)))))
theorem chk_RowSum : chkX Go.Proofs.Try.prog 38 (Go.Proofs.Try.f8.body.getD .skip) x_RowSum = true := by kernel_rfl
theorem rs_RowSum : okRs Go.Proofs.Try.prog Go.Proofs.Try.f8.results.toList [.cell 2 (some 5), .tmp 3] = true := by kernel_rfl
theorem call_RowSum : okCallee Go.Proofs.Try.prog 8 = true := by kernel_rfl
def x_RowFlatS : X := (.seq (.reg [⟨some 1, none, .box (.t 0) (some 5)⟩, ⟨some 2, none, .alloc [(.c (.int .i64 0)), (.c (.int .i64 0)), (.c (.str ⟨#[]⟩)), (.z 1), (.z 5)]⟩, ⟨some 3, none, .mv (.k (.c (.bool false)))⟩] none [1, 2]) (.seq (.seq (.reg [⟨some 6, none, .load (.t 1) (some 5)⟩, ⟨some 7, none, .call 29 [(.t 6)]⟩, ⟨some 8, none, .not (.t 7)⟩] none [1, 2, 8]) (.cond (.t 8) (.seq (.reg [⟨some 9, none, .build [(.c (.int .i64 0)), (.c (.int .i64 0)), (.c (.str ⟨#[]⟩)), (.z 1), (.z 5)] []⟩, ⟨none, none, .st (.t 2) (.t 9) (some 5)⟩, ⟨some 3, none, .mv (.k (.c (.bool false)))⟩] none [2, 3]) .ret) .skip)) (.seq (.reg [⟨some 10, none, .bsl 5 []⟩, ⟨some 4, none, .mv (.t 10)⟩] none [1, 2, 4]) (.seq (.seq (.reg [⟨some 5, none, .mv (.k (.c (.int .i64 0)))⟩] none [1, 2, 4, 5]) (.block 0 (.loop (.seq (.seq (.reg [⟨some 11, none, .mv (.t 5)⟩, ⟨some 12, none, .fa (.t 1) 4⟩, ⟨some 13, none, .load (.t 12) none⟩, ⟨some 14, none, .len (.t 13) false⟩, ⟨some 15, none, .bin false .lss (.t 11) (.t 14)⟩] none [1, 2, 4, 5, 15]) (.cond (.t 15) .skip (.exit 0))) (.seq (.block 1 (.seq (.reg [⟨some 18, none, .fa (.t 1) 4⟩, ⟨some 19, none, .load (.t 18) none⟩, ⟨some 20, none, .mv (.t 5)⟩, ⟨some 21, none, .ia (.t 19) (.t 20) 5⟩, ⟨some 22, none, .fa (.t 21) 0⟩, ⟨some 23, none, .load (.t 22) none⟩, ⟨some 24, none, .bin false .eql (.t 23) (.k (.c (.int .i64 5)))⟩] none [1, 2, 4, 5, 24]) (.cond (.t 24) (.reg [⟨some 25, none, .mv (.t 4)⟩, ⟨some 26, none, .fa (.t 1) 4⟩, ⟨some 27, none, .load (.t 26) none⟩, ⟨some 28, none, .mv (.t 5)⟩, ⟨some 29, none, .ia (.t 27) (.t 28) 5⟩, ⟨some 30, none, .fa (.t 29) 4⟩, ⟨some 31, none, .load (.t 30) none⟩, ⟨some 32, none, .app (.t 25) (.t 31) 5 80 []⟩, ⟨some 4, none, .mv (.t 32)⟩] none [1, 2, 4, 5]) (.reg [⟨some 33, none, .mv (.t 4)⟩, ⟨some 34, none, .fa (.t 1) 4⟩, ⟨some 35, none, .load (.t 34) none⟩, ⟨some 36, none, .mv (.t 5)⟩, ⟨some 37, none, .ia (.t 35) (.t 36) 5⟩, ⟨some 38, none, .load (.t 37) (some 5)⟩, ⟨some 39, none, .bsl 5 [((.t 38), (some 5))]⟩, ⟨some 40, none, .app (.t 33) (.t 39) 5 80 []⟩, ⟨some 4, none, .mv (.t 40)⟩] none [1, 2, 4, 5])))) (.reg [⟨some 16, none, .mv (.t 5)⟩, ⟨some 17, none, .bin false .add (.t 16) (.k (.c (.int .i64 1)))⟩, ⟨some 5, none, .mv (.t 17)⟩] none [1, 2, 4, 5])))))) (.seq (.reg [⟨some 41, none, .mv (.t 4)⟩, ⟨some 42, none, .call 26 [(.t 41)]⟩, ⟨some 43, none, .call 31 [(.t 42)]⟩, ⟨some 44, none, .ext (.t 43) 0⟩, ⟨some 45, none, .ext (.t 43) 1⟩, ⟨none, none, .st (.t 2) (.t 44) (some 5)⟩, ⟨some 3, none, .mv (.t 45)⟩] none [2, 3]) .ret)))))
theorem chk_RowFlatS : chkX Go.Proofs.Try.prog 46 (Go.Proofs.Try.f10.body.getD .skip) x_RowFlatS = true := by kernel_rfl
theorem rs_RowFlatS : okRs Go.Proofs.Try.prog Go.Proofs.Try.f10.results.toList [.cell 2 (some 5), .tmp 3] = true := by kernel_rfl
theorem call_RowFlatS : okCallee Go.Proofs.Try.prog 10 = true := by kernel_rfl
def x_DrawRowSum : X := (.seq (.reg [⟨some 2, none, .alloc [(.c (.int .i64 0)), (.c (.int .i64 0)), (.c (.str ⟨#[]⟩)), (.z 1), (.z 5)]⟩] none [0, 2]) (.seq (.reg [⟨some 6, none, .mv (.t 0)⟩, ⟨some 7, none, .call 23 [(.t 6)]⟩, ⟨some 3, none, .mv (.t 7)⟩] none [2, 3]) (.seq (.seq (.reg [⟨some 8, none, .mv (.t 3)⟩, ⟨some 9, none, .callr 24 [(.t 8), (.k (.c (.int .i64 3)))]⟩, ⟨some 10, none, .bin false .eql (.t 9) (.k (.c (.int .i64 0)))⟩] none [2, 3, 10]) (.cond (.t 10) (.seq (.reg [⟨some 11, none, .mv (.t 3)⟩, ⟨some 12, none, .callr 25 [(.t 11)]⟩, ⟨none, none, .st (.t 2) (.t 12) (some 5)⟩] none [2]) .ret) .skip)) (.seq (.reg [⟨some 13, none, .bsl 5 []⟩, ⟨some 4, none, .mv (.t 13)⟩] none [2, 3, 4]) (.seq (.seq (.reg [⟨some 14, none, .mv (.t 3)⟩, ⟨some 15, none, .callr 24 [(.t 14), (.k (.c (.int .i64 5)))]⟩, ⟨some 5, none, .mv (.t 15)⟩] none [2, 3, 4, 5]) (.block 0 (.loop (.seq (.seq (.reg [⟨some 16, none, .mv (.t 5)⟩, ⟨some 17, none, .bin false .gtr (.t 16) (.k (.c (.int .i64 0)))⟩] none [2, 3, 4, 5, 17]) (.cond (.t 17) .skip (.exit 0))) (.seq (.block 1 (.seq (.reg [⟨some 20, none, .mv (.t 3)⟩, ⟨some 21, none, .callr 24 [(.t 20), (.k (.c (.int .i64 2)))]⟩, ⟨some 22, none, .bin false .eql (.t 21) (.k (.c (.int .i64 0)))⟩, ⟨some 23, none, .mv (.t 22)⟩, ⟨some 24, some (23, true), .mv (.t 4)⟩, ⟨some 25, some (23, true), .len (.t 24) false⟩, ⟨some 26, some (23, true), .bin false .gtr (.t 25) (.k (.c (.int .i64 0)))⟩, ⟨some 27, none, .pick (.t 23) (.t 26) (.k (.c (.bool false)))⟩] none [2, 3, 4, 5, 27]) (.cond (.t 27) (.reg [⟨some 28, none, .mv (.t 4)⟩, ⟨some 29, none, .mv (.t 4)⟩, ⟨some 30, none, .ia (.t 29) (.k (.c (.int .i64 0))) 5⟩, ⟨some 31, none, .load (.t 30) (some 5)⟩, ⟨some 32, none, .bsl 5 [((.t 31), (some 5))]⟩, ⟨some 33, none, .app (.t 28) (.t 32) 5 80 []⟩, ⟨some 4, none, .mv (.t 33)⟩] none [2, 3, 4, 5]) (.reg [⟨some 34, none, .mv (.t 4)⟩, ⟨some 35, none, .mv (.t 3)⟩, ⟨some 36, none, .callr 24 [(.t 35), (.k (.c (.int .i64 9)))]⟩, ⟨some 37, none, .build [(.c (.int .i64 0)), (.c (.int .i64 0)), (.c (.str ⟨#[]⟩)), (.z 1), (.z 5)] [(0, (.k (.c (.int .i64 3))), none), (1, (.t 36), none)]⟩, ⟨some 38, none, .bsl 5 [((.t 37), (some 5))]⟩, ⟨some 39, none, .app (.t 34) (.t 38) 5 80 []⟩, ⟨some 4, none, .mv (.t 39)⟩] none [2, 3, 4, 5])))) (.reg [⟨some 18, none, .mv (.t 5)⟩, ⟨some 19, none, .bin false .sub (.t 18) (.k (.c (.int .i64 1)))⟩, ⟨some 5, none, .mv (.t 19)⟩] none [2, 3, 4, 5])))))) (.seq (.reg [⟨some 40, none, .mv (.t 4)⟩, ⟨some 41, none, .call 26 [(.t 40)]⟩, ⟨none, none, .st (.t 2) (.t 41) (some 5)⟩] none [2]) .ret))))))
theorem chk_DrawRowSum : chkX Go.Proofs.Try.prog 42 (Go.Proofs.Try.f6.body.getD .skip) x_DrawRowSum = true := by kernel_rfl
theorem rs_DrawRowSum : okRs Go.Proofs.Try.prog Go.Proofs.Try.f6.results.toList [.cell 2 (some 5)] = true := by kernel_rfl
theorem call_DrawRowSum : okCallee Go.Proofs.Try.prog 6 = true := by kernel_rfl
theorem fit_big {t : T} (h : okT t) : t.fit 140737488355328 := T.fit_mono (by decide) (okT_fit h)
theorem fit_two {t : T} (h : okT t) : t.fit 2000000 := T.fit_mono (by decide) (okT_fit h)
noncomputable def spSumI  : Spec := Spec.of (ι := T) [false] (fun i => [.d (.agg i.enc)]) (fun i => i.fit 140737488355328) (fun i => [.d (.agg (sumT i).enc), .d (.one (.bool (decide (sumOk i))))]) (fun _ => [.gone])
theorem spSumI_inj : ∀ i j : T, (fun (i : T) => ([.d (.agg i.enc)] : List AV)) i = (fun (i : T) => ([.d (.agg i.enc)] : List AV)) j → i = j := by
  intro v v' h
  simpa [strs_eq, T.enc_eq, encL_eq, F.enc_eq, encF_eq, Tk.enc_eq, encTk_eq, Gn.enc_eq, ints_eq, rdC_eq, and_assoc] using h
theorem spSumI_md  : (spSumI).md = [false] := rfl
theorem spSumI_pre  (v : T) : (spSumI).pre [.d (.agg v.enc)] = (v.fit 140737488355328) := Spec.of_pre' spSumI_inj v
theorem spSumI_alts  : (spSumI).alts = none := rfl
theorem spSumI_res  (v : T) : (spSumI).res [.d (.agg v.enc)] = [.d (.agg (sumT v).enc), .d (.one (.bool (decide (sumOk v))))] := Spec.of_res spSumI_inj v
theorem spSumI_out  (v : T) : (spSumI).out [.d (.agg v.enc)] = [.gone] := Spec.of_out spSumI_inj v
set_option maxHeartbeats 4000000 in
theorem RowSumI_sound : Sound Go.Proofs.Try.prog 7 spSumI := by
  refine sound_fam (GOK.cons (l := [(13, spAddI), (28, spTold)]) call_isRow isRow_sound (GOK.cons call_PartAddI PartAddI_sound (GOK.cons call_told told_sound GOK.nil))) Go.Proofs.Try.func7 (c := Go.Proofs.Try.f7.body.getD .skip) rfl (n := 34) rfl chk_RowSumI rs_RowSumI (fun _ => by simp) ?_ ?_
  · exact spSumI_inj
  · rintro v h1
    change v.fit 140737488355328 at h1
    by_cases c : rowT v
    rotate_left
    · have e1 : sumT v = T.zero := if_neg c
      have e2 : sumOk v = False := eq_false (fun h => c h.1)
      simp only [x_RowSumI, rg, go_sem, seval, Prod.fst, T.enc_len, e1, e2, c, T.zero_enc, spIsRow_md, spIsRow_pre, spIsRow_alts, spIsRow_res, spIsRow_out]
      repeat' (first | with_reducible assumption | with_reducible refine And.intro ?_ ?_ | intro _)
      all_goals first | (show _ ≤ (_ : Int); omega) | assumption | skip
    obtain ⟨l, rfl⟩ : ∃ l, v = .mk 5 0 ⟨#[]⟩ [] l := ⟨_, rowT_is c⟩
    have o1 := c.1
    have c' : rowT (T.mk 5 0 ⟨#[]⟩ [] l) = True := eq_true c
    have e1 := sumT_row o1
    have e2 := sumOk_row o1
    have l1 : (l.length : Int) ≤ 140737488355328 := (T.fit_list h1).1
    simp only [x_RowSumI, rg, go_sem, seval, Prod.fst, T.enc, foldT, foldT0, T.enc_len, encL_len, c', spIsRow_md, spIsRow_pre, spIsRow_alts, spIsRow_res, spIsRow_out]
    repeat' (first | with_reducible assumption | with_reducible refine And.intro ?_ ?_ | intro _)
    all_goals first | (show _ ≤ (_ : Int); omega) | assumption | skip
    refine pw_loop (ι := Nat × T) (fun i => l.length - i.1) (fun i => i.1 ≤ l.length ∧ okT i.2 ∧ sumO (l.drop i.1) i.2 = sumO l T.zero)
      (fun i => ⟨[(2, .q (.box 2 0)), (4, .q (.box 4 0)), (14, .q (.c (.row 5 (encL l)))), (15, .q (.c (.int .i64 l.length))), (16, .q (.c (.int .i64 i.1)))],
        [(2, [.c (.int .i64 0), .c (.int .i64 0), .c (.str ⟨#[]⟩), .z 1, .z 5]), (4, i.2.enc.map .c)], []⟩) (0, T.zero) ⟨Nat.zero_le _, okT_zero', rfl⟩ ?_ ?_
    · refine Le.bx ?_
      intro p hp
      simp only [List.mem_cons, List.not_mem_nil, or_false] at hp
      rcases hp with rfl | rfl
      · exact ⟨_, by simp, All2.qrefl _⟩
      · refine ⟨[.c (.int .i64 0), .c (.int .i64 0), .c (.str ⟨#[]⟩), .z 1, .z 5], by simp, ?_⟩
        exact .cons (.refl _) (.cons (.refl _) (.cons (.refl _) (.cons (.z _) (.cons (.z _) .nil))))
    · rintro ⟨i, s⟩ ⟨g1, g2, g3⟩
      simp only at g1 g2 g3
      rcases Nat.lt_or_ge i l.length with hlt | hge
      · obtain ⟨x, hx, hd, hmem⟩ := drop_at hlt
        have b1 : ((i : Int) < (l.length : Int)) = True := eq_true (by omega)
        have a1 := encL_at hx
        have ox := okT_elem o1 hmem
        rw [hd] at g3
        simp only [sumO] at g3
        by_cases k : addOk s x
        · rw [if_pos k] at g3
          simp only [rg, go_sem, seval, Prod.fst, b1, a1, k, T.enc_len, encL_len, spAddI_md, spAddI_pre, spAddI_alts, spAddI_res, spAddI_out]
          repeat' (first | with_reducible assumption | with_reducible refine And.intro ?_ ?_ | intro _)
          all_goals first | (show _ ≤ (_ : Int); omega) | (show _ < (_ : Int); omega) | assumption | exact fit_big g2 | exact fit_big ox | exact Nat.le_of_eq (T.enc_len _) | skip
          exact ⟨(i + 1, addT s x), ⟨by show i + 1 ≤ _; omega, addT_ok s x, g3⟩, by show l.length - (i + 1) < _; omega, Le.sub (by simp) (by simp [T.enc_len]) (by simp)⟩
        · rw [if_neg k] at g3
          rw [← g3] at e1 e2
          simp only [Option.getD_none, Option.isSome_none, Bool.false_eq_true, iff_false] at e1 e2
          simp only [rg, go_sem, seval, Prod.fst, b1, a1, k, e1, e2, T.enc_len, encL_len, T.zero_enc, spAddI_md, spAddI_pre, spAddI_alts, spAddI_res, spAddI_out]
          repeat' (first | with_reducible assumption | with_reducible refine And.intro ?_ ?_ | intro _)
          all_goals first | (show _ ≤ (_ : Int); omega) | (show _ < (_ : Int); omega) | assumption | exact fit_big g2 | exact fit_big ox | skip
      · obtain rfl : i = l.length := by omega
        have b1 : ((l.length : Int) < (l.length : Int)) = False := eq_false (by omega)
        rw [List.drop_length] at g3
        simp only [sumO] at g3
        rw [← g3] at e1 e2
        simp only [Option.getD_some, Option.isSome_some, iff_true] at e1 e2
        have e3 := toldT_ok g2
        have g2' := eq_true g2
        simp only [rg, go_sem, seval, Prod.fst, b1, e1, e2, e3, g2', T.enc_len, encL_len, spTold_md, spTold_pre, spTold_alts, spTold_res, spTold_out]
        repeat' (first | with_reducible assumption | with_reducible refine And.intro ?_ ?_ | intro _)
        all_goals first | (show _ ≤ (_ : Int); omega) | (show _ < (_ : Int); omega) | assumption | exact fit_two g2 | skip
noncomputable def spSum  : Spec := Spec.of (ι := T) [false] (fun i => [.d (.agg i.enc)]) (fun i => i.fit 140737488355328 ∧ sizeT i ≤ 1048577) (fun i => [.d (.agg (sumT i).enc), .d (.one (.bool (decide (sumOk i))))]) (fun _ => [.gone])
theorem spSum_inj : ∀ i j : T, (fun (i : T) => ([.d (.agg i.enc)] : List AV)) i = (fun (i : T) => ([.d (.agg i.enc)] : List AV)) j → i = j := by
  intro v v' h
  simpa [strs_eq, T.enc_eq, encL_eq, F.enc_eq, encF_eq, Tk.enc_eq, encTk_eq, Gn.enc_eq, ints_eq, rdC_eq, and_assoc] using h
theorem spSum_md  : (spSum).md = [false] := rfl
theorem spSum_pre  (v : T) : (spSum).pre [.d (.agg v.enc)] = (v.fit 140737488355328 ∧ sizeT v ≤ 1048577) := Spec.of_pre' spSum_inj v
theorem spSum_alts  : (spSum).alts = none := rfl
theorem spSum_res  (v : T) : (spSum).res [.d (.agg v.enc)] = [.d (.agg (sumT v).enc), .d (.one (.bool (decide (sumOk v))))] := Spec.of_res spSum_inj v
theorem spSum_out  (v : T) : (spSum).out [.d (.agg v.enc)] = [.gone] := Spec.of_out spSum_inj v
theorem size_big {t : T} (h : okT t) : sizeT t ≤ 1048577 := by have := okT_size h; omega
set_option maxHeartbeats 4000000 in
theorem RowSum_sound : Sound Go.Proofs.Try.prog 8 spSum := by
  refine sound_fam (GOK.cons (l := [(30, spAdd), (31, spL2Told)]) call_l4Row l4Row_sound (GOK.cons call_PartAdd PartAdd_sound (GOK.cons call_l2Told l2Told_sound GOK.nil))) Go.Proofs.Try.func8 (c := Go.Proofs.Try.f8.body.getD .skip) rfl (n := 38) rfl chk_RowSum rs_RowSum (fun _ => by simp) ?_ ?_
  · exact spSum_inj
  · rintro v ⟨h1, h2⟩
    replace h1 : v.fit 140737488355328 := h1
    replace h2 : sizeT v ≤ 1048577 := h2
    by_cases c : rowT v
    rotate_left
    · have e1 : sumT v = T.zero := if_neg c
      have e2 : sumOk v = False := eq_false (fun h => c h.1)
      simp only [x_RowSum, rg, go_sem, seval, Prod.fst, T.enc_len, e1, e2, c, T.zero_enc, spL4Row_md, spL4Row_pre, spL4Row_alts, spL4Row_res, spL4Row_out]
      repeat' (first | with_reducible assumption | with_reducible refine And.intro ?_ ?_ | intro _)
      all_goals first | (show _ ≤ (_ : Int); omega) | assumption | skip
    obtain ⟨l, rfl⟩ : ∃ l, v = .mk 5 0 ⟨#[]⟩ [] l := ⟨_, rowT_is c⟩
    have o1 := c.1
    have c' : rowT (T.mk 5 0 ⟨#[]⟩ [] l) = True := eq_true c
    have e1 := sumT_row o1
    have e2 := sumOk_row o1
    have l1 : (l.length : Int) ≤ 140737488355328 := (T.fit_list h1).1
    simp only [x_RowSum, rg, go_sem, seval, Prod.fst, T.enc, foldT, foldT0, T.enc_len, encL_len, c', spL4Row_md, spL4Row_pre, spL4Row_alts, spL4Row_res, spL4Row_out]
    repeat' (first | with_reducible assumption | with_reducible refine And.intro ?_ ?_ | intro _)
    all_goals first | (show _ ≤ (_ : Int); omega) | assumption | skip
    refine pw_loop (ι := Nat × T) (fun i => l.length - i.1) (fun i => i.1 ≤ l.length ∧ okT i.2 ∧ sumO (l.drop i.1) i.2 = sumO l T.zero)
      (fun i => ⟨[(1, .q (.box 1 0)), (2, .q (.box 2 0)), (4, .q (.box 4 0)), (5, .q (.c (.int .i64 i.1)))],
        [(1, [.c (.int .i64 5), .c (.int .i64 0), .c (.str ⟨#[]⟩), .c (.row 1 (strs [])), .c (.row 5 (encL l))]), (2, [.c (.int .i64 0), .c (.int .i64 0), .c (.str ⟨#[]⟩), .z 1, .z 5]), (4, i.2.enc.map .c)], []⟩) (0, T.zero) ⟨Nat.zero_le _, okT_zero', rfl⟩ ?_ ?_
    · refine Le.bx ?_
      intro p hp
      simp only [List.mem_cons, List.not_mem_nil, or_false] at hp
      rcases hp with rfl | rfl | rfl
      · exact ⟨_, by simp, All2.qrefl _⟩
      · exact ⟨_, by simp, All2.qrefl _⟩
      · refine ⟨[.c (.int .i64 0), .c (.int .i64 0), .c (.str ⟨#[]⟩), .z 1, .z 5], by simp, ?_⟩
        exact .cons (.refl _) (.cons (.refl _) (.cons (.refl _) (.cons (.z _) (.cons (.z _) .nil))))
    · rintro ⟨i, s⟩ ⟨g1, g2, g3⟩
      simp only at g1 g2 g3
      rcases Nat.lt_or_ge i l.length with hlt | hge
      · obtain ⟨x, hx, hd, hmem⟩ := drop_at hlt
        have b1 : ((i : Int) < (l.length : Int)) = True := eq_true (by omega)
        have a1 := encL_at hx
        have ox := okT_elem o1 hmem
        rw [hd] at g3
        simp only [sumO] at g3
        by_cases k : addOk s x
        · rw [if_pos k] at g3
          simp only [rg, go_sem, seval, Prod.fst, b1, a1, k, T.enc_len, encL_len, spAdd_md, spAdd_pre, spAdd_alts, spAdd_res, spAdd_out]
          repeat' (first | with_reducible assumption | with_reducible refine And.intro ?_ ?_ | intro _)
          all_goals first | (show _ ≤ (_ : Int); omega) | (show _ < (_ : Int); omega) | assumption | exact fit_big g2 | exact fit_big ox | exact size_big g2 | exact size_big ox | exact Nat.le_of_eq (T.enc_len _) | skip
          exact ⟨(i + 1, addT s x), ⟨by show i + 1 ≤ _; omega, addT_ok s x, g3⟩, by show l.length - (i + 1) < _; omega, Le.sub (by simp) (by simp [T.enc_len]) (by simp)⟩
        · rw [if_neg k] at g3
          rw [← g3] at e1 e2
          simp only [Option.getD_none, Option.isSome_none, Bool.false_eq_true, iff_false] at e1 e2
          simp only [rg, go_sem, seval, Prod.fst, b1, a1, k, e1, e2, T.enc_len, encL_len, T.zero_enc, spAdd_md, spAdd_pre, spAdd_alts, spAdd_res, spAdd_out]
          repeat' (first | with_reducible assumption | with_reducible refine And.intro ?_ ?_ | intro _)
          all_goals first | (show _ ≤ (_ : Int); omega) | (show _ < (_ : Int); omega) | assumption | exact fit_big g2 | exact fit_big ox | exact size_big g2 | exact size_big ox | skip
      · obtain rfl : i = l.length := by omega
        have b1 : ((l.length : Int) < (l.length : Int)) = False := eq_false (by omega)
        rw [List.drop_length] at g3
        simp only [sumO] at g3
        rw [← g3] at e1 e2
        simp only [Option.getD_some, Option.isSome_some, iff_true] at e1 e2
        have e3 := toldT_ok g2
        have g2' := eq_true g2
        simp only [rg, go_sem, seval, Prod.fst, b1, e1, e2, e3, g2', T.enc_len, encL_len, spL2Told_md, spL2Told_pre, spL2Told_alts, spL2Told_res, spL2Told_out]
        repeat' (first | with_reducible assumption | with_reducible refine And.intro ?_ ?_ | intro _)
        all_goals first | (show _ ≤ (_ : Int); omega) | (show _ < (_ : Int); omega) | assumption | exact fit_two g2 | exact size_big g2 | skip
noncomputable def spFlatS  : Spec := Spec.of (ι := T) [false] (fun i => [.d (.agg i.enc)]) (fun i => i.fit 1000000 ∧ lenB 1000000 (flatL i.list).length ∧ sizeT i ≤ 1048577) (fun i => [.d (.agg (flatT i).enc), .d (.one (.bool (decide (rowT i ∧ okT (.mk 5 0 ⟨#[]⟩ [] (flatL i.list))))))]) (fun _ => [.gone])
theorem spFlatS_inj : ∀ i j : T, (fun (i : T) => ([.d (.agg i.enc)] : List AV)) i = (fun (i : T) => ([.d (.agg i.enc)] : List AV)) j → i = j := by
  intro v v' h
  simpa [strs_eq, T.enc_eq, encL_eq, F.enc_eq, encF_eq, Tk.enc_eq, encTk_eq, Gn.enc_eq, ints_eq, rdC_eq, and_assoc] using h
theorem spFlatS_md  : (spFlatS).md = [false] := rfl
theorem spFlatS_pre  (v : T) : (spFlatS).pre [.d (.agg v.enc)] = (v.fit 1000000 ∧ lenB 1000000 (flatL v.list).length ∧ sizeT v ≤ 1048577) := Spec.of_pre' spFlatS_inj v
theorem spFlatS_alts  : (spFlatS).alts = none := rfl
theorem spFlatS_res  (v : T) : (spFlatS).res [.d (.agg v.enc)] = [.d (.agg (flatT v).enc), .d (.one (.bool (decide (rowT v ∧ okT (.mk 5 0 ⟨#[]⟩ [] (flatL v.list))))))] := Spec.of_res spFlatS_inj v
theorem spFlatS_out  (v : T) : (spFlatS).out [.d (.agg v.enc)] = [.gone] := Spec.of_out spFlatS_inj v
theorem flatL_size (l : List T) : sizeL (flatL l) ≤ sizeL l := by
  induction l with
  | nil => simp [flatL]
  | cons x l ih =>
    simp only [flatL]
    rw [sizeL_app]
    by_cases h : x.kind = 5
    · rw [if_pos h]
      obtain ⟨k, n, s, ks, r⟩ := x
      simp only [T.list, sizeL, sizeT]; omega
    · rw [if_neg h]; simp only [sizeL]; omega
set_option maxHeartbeats 4000000 in
theorem RowFlatS_sound : Sound Go.Proofs.Try.prog 10 spFlatS := by
  refine sound_fam (GOK.cons (l := [(26, spL4Of), (31, spL2Told)]) call_l4Row l4Row_sound (GOK.cons call_l4Of l4Of_sound (GOK.cons call_l2Told l2Told_sound GOK.nil))) Go.Proofs.Try.func10 (c := Go.Proofs.Try.f10.body.getD .skip) rfl (n := 46) rfl chk_RowFlatS rs_RowFlatS (fun _ => by simp) ?_ ?_
  · exact spFlatS_inj
  · rintro v ⟨h1, h2, h3⟩
    replace h1 : v.fit 1000000 := h1
    replace h2 : lenB 1000000 (flatL v.list).length := h2
    replace h3 : sizeT v ≤ 1048577 := h3
    have v2 : v.fit 140737488355328 := T.fit_mono (by decide) h1
    by_cases c : rowT v
    · obtain ⟨l, rfl⟩ : ∃ l, v = .mk 5 0 ⟨#[]⟩ [] l := ⟨_, rowT_is c⟩
      have o1 := c.1
      have e1 := flatT_row o1
      have l1 : (l.length : Int) ≤ 1000000 := (T.fit_list h1).1
      have l2 : ((flatL l).length : Int) ≤ 1000000 := h2
      have c' : rowT (T.mk 5 0 ⟨#[]⟩ [] l) = True := eq_true c
      have sz := okT_size o1
      have sz2 := flatL_size l
      simp only [sizeT] at sz
      simp only [x_RowFlatS, rg, go_sem, seval, Prod.fst, T.enc, foldT, foldT0, T.list, c', e1, encL_len, spL4Row_md, spL4Row_pre, spL4Row_alts, spL4Row_res, spL4Row_out]
      repeat' (first | with_reducible assumption | with_reducible refine And.intro ?_ ?_ | intro _)
      all_goals first | (show _ ≤ (_ : Int); omega) | assumption | skip
      refine pw_loop (ι := Nat) (fun i => l.length - i) (fun i => i ≤ l.length)
        (fun i => ⟨[(1, .q (.box 1 0)), (2, .q (.box 2 0)), (4, .q (.own 201)), (5, .q (.c (.int .i64 i)))], [(1, [.c (.int .i64 5), .c (.int .i64 0), .c (.str ⟨#[]⟩), .c (.row 1 (strs [])), .c (.row 5 (encL l))]), (2, [.c (.int .i64 0), .c (.int .i64 0), .c (.str ⟨#[]⟩), .z 1, .z 5])], [(201, 5, encL (flatL (l.take i)))]⟩) 0 (Nat.zero_le _) ?_ ?_
      · refine Le.own (t := 4) (d := 201) (sz := 5) (by decide) (by simp) (by simp [Q.killO]) ?_
        simp [PV.map, Q.killO]
      · intro i hi
        have l3 := flatL_le (l := l) i
        rcases Nat.lt_or_ge i l.length with hlt | hge
        · obtain ⟨x, hx, _, hmem⟩ := drop_at hlt
          have b1 : ((i : Int) < (l.length : Int)) = True := eq_true (by omega)
          have a1 := encL_at hx
          have f1 := T.enc_len x
          have e := flatL_take hx
          have l4 := flatL_le (l := l) (i + 1)
          rw [e, List.length_append] at l4
          have g1 := fitL_in (T.fit_list h1).2 x hmem
          obtain ⟨k, n, s, ks, li⟩ := x
          by_cases d : k = 5
          · have b2 : (k = 5) = True := eq_true d
            simp only [T.kind, T.list, b2, if_true] at l4 e
            simp only [rg, go_sem, seval, Prod.fst, b1, b2, a1, f1, encL_len, encL_appL]
            simp only [rg, go_sem, seval, Prod.fst, T.enc, b1, b2, a1, encL_len, encL_appL]
            repeat' (first | with_reducible assumption | with_reducible refine And.intro ?_ ?_ | intro _)
            all_goals first | (show _ ≤ (_ : Int); omega) | (show _ ≤ (_ : Nat); omega) | (show _ < (_ : Int); omega) | assumption | skip
            refine ⟨i + 1, by omega, by omega, ?_⟩
            rw [e]
            refine Le.sub ?_ ?_ ?_ <;> simp [encL_app, encL, T.enc]
          · have b2 : (k = 5) = False := eq_false d
            simp only [T.kind, T.list, b2, if_false] at l4 e
            simp only [rg, go_sem, seval, Prod.fst, b1, b2, a1, f1, encL_len, encL_appL]
            simp only [rg, go_sem, seval, Prod.fst, T.enc, b1, b2, a1, encL_len, encL_appL]
            repeat' (first | with_reducible assumption | with_reducible refine And.intro ?_ ?_ | intro _)
            all_goals first | (show _ ≤ (_ : Int); omega) | (show _ ≤ (_ : Nat); omega) | (show _ < (_ : Int); omega) | assumption | skip
            refine ⟨i + 1, by omega, by omega, ?_⟩
            rw [e]
            refine Le.sub ?_ ?_ ?_ <;> simp [encL_app, encL, T.enc]
        · obtain rfl : i = l.length := by omega
          have b1 : ((l.length : Int) < (l.length : Int)) = False := eq_false (by omega)
          have e : flatL (l.take l.length) = flatL l := by rw [List.take_length]
          have g1 : (T.mk 5 0 ⟨#[]⟩ [] (flatL l)).fit 2000000 := rowT_fit (by omega) (by unfold lenB; omega) (flatL_fit (fitL_of fun t ht => T.fit_mono (by decide) (fitL_in (T.fit_list h1).2 t ht)))
          simp only [rg, go_sem, seval, Prod.fst, b1, e, T.enc_len, encL_len, spL4Of_md, spL4Of_pre, spL4Of_alts, spL4Of_res, spL4Of_out, spL2Told_md, spL2Told_pre, spL2Told_alts, spL2Told_res, spL2Told_out]
          repeat' (first | with_reducible assumption | with_reducible refine And.intro ?_ ?_ | intro _)
          all_goals first | (show _ ≤ (_ : Int); omega) | assumption | (show sizeT (T.mk _ _ _ _ _) ≤ _; simp only [sizeT]; omega) | skip
    · have e1 : flatT v = T.zero := if_neg c
      simp only [x_RowFlatS, rg, go_sem, seval, Prod.fst, T.enc_len, e1, c, spL4Row_md, spL4Row_pre, spL4Row_alts, spL4Row_res, spL4Row_out]
      repeat' (first | with_reducible assumption | with_reducible refine And.intro ?_ ?_ | intro _)
      all_goals first | (show _ ≤ (_ : Int); omega) | assumption | exact T.zero_enc | (rename_i h; exact h.1.elim) | skip
theorem bif_tf (b : Bool) : (bif b then true else false) = b := by cases b <;> rfl
set_option maxHeartbeats 4000000 in
theorem DrawRowSum_sound : Sound Go.Proofs.Try.prog 6 spDRow := by
  refine sound_famR (GOK.cons (l := [(25, spRowDraw), (26, spL4Of), (23, spOpen)]) call_pick pick_sound (GOK.cons call_l4RowDraw l4RowDraw_sound (GOK.cons call_l4Of l4Of_sound (GOK.cons call_l11Open l11Open_sound GOK.nil)))) Go.Proofs.Try.func6 (c := Go.Proofs.Try.f6.body.getD .skip) rfl (n := 42) rfl chk_DrawRowSum rs_DrawRowSum (fun _ => by simp) ?_
  · rintro bs ⟨hb, h1⟩
    have hy := byt_take hb
    simp only [x_DrawRowSum, rg, go_sem, seval, Prod.fst, T.enc_len, spOpen_md, spOpen_pre, spOpen_alts, spOpen_res, spOpen_out, spRowDraw_md, spRowDraw_pre, spRowDraw_ne, ↓spRowDraw_all, spRowDraw_all, spPick_md, spPick_pre, spPick_ne, ↓spPick_all, spPick_all]
    repeat' (first | with_reducible assumption | with_reducible refine And.intro ?_ ?_ | intro _)
    all_goals first | omega | skip
    · rename_i k n s ks l q hd
      exact ⟨(k, n, s, ks, l), hd.1, rfl⟩
    · rename_i m hm
      refine pw_loop (ι := Nat × Nat × Int × List T) (fun i => i.1)
        (fun i => i.1 + i.2.1 ≤ 5 ∧ 2 ≤ i.2.2.1 ∧ i.2.2.1 ≤ 2 + i.2.1 * 2 ∧ i.2.2.2.length = i.2.1 ∧ ∀ t ∈ i.2.2.2, ∃ n : Int, 0 ≤ n ∧ n ≤ 1000 ∧ t = .mk 3 n ⟨#[]⟩ [] [])
        (fun i => ⟨[(2, .q (.box 2 0)), (3, .q (.box 7 0)), (4, .q (.own 301)), (5, .q (.c (.int .i64 i.1)))],
          [(2, [.c (.int .i64 0), .c (.int .i64 0), .c (.str ⟨#[]⟩), .z 1, .z 5]), (7, (rdC (bs.take 2000) i.2.2.1).map .c)],
          [(301, 5, encL i.2.2.2)]⟩) (m.toNat, 0, 2, []) ⟨by show m.toNat + 0 ≤ 5; omega, by show (2 : Int) ≤ 2; omega, by show (2 : Int) ≤ 2 + ((0 : Nat) : Int) * 2; simp, rfl, by simp⟩ ?_ ?_
      · have e : ((m.toNat : Nat) : Int) = m := by omega
        refine Le.own (t := 4) (d := 301) (sz := 5) (by decide) (by simp) (by simp [Q.killO, rdC]) ?_
        simp [e, PV.map, Q.killO]
      · rintro ⟨i, j, q, l⟩ ⟨g1, g2, g3, g4, g5⟩
        simp only at g1 g2 g3 g4 g5
        have gl : fitL 1000 l ∧ sizeL l ≤ l.length := by
          clear g4 g3 g2 g1
          induction l with
          | nil => exact ⟨trivial, by simp [sizeL]⟩
          | cons x l ih =>
            obtain ⟨n, n1, n2, rfl⟩ := g5 x (by simp)
            obtain ⟨i1, i2⟩ := ih (fun t ht => g5 t (by simp [ht]))
            refine ⟨⟨⟨by unfold i64; omega, by unfold i64; omega, by unfold lenB; decide, ⟨by unfold lenB; decide, by simp⟩, by unfold lenB; decide, trivial⟩, i1⟩, ?_⟩
            simp only [sizeL, sizeT, List.length_cons]; omega
        rcases Nat.eq_zero_or_pos i with h0 | hpos
        · have b1 : (((i : Nat) : Int) > 0) = False := eq_false (by omega)
          have hh : drW 16000 (.mk 5 0 ⟨#[]⟩ [] l) := (drT_mk (m := 16000) (by unfold i64; omega) (by unfold i64; omega) (by decide) (by simp) (by simp) (by omega) gl.1 (by omega)).w
          simp only [rg, go_sem, seval, Prod.fst, b1, T.enc_len, spL4Of_md, spL4Of_pre, spL4Of_alts, spL4Of_res, spL4Of_out]
          repeat' (first | with_reducible assumption | with_reducible refine And.intro ?_ ?_ | intro _)
          all_goals first | omega | skip
          exact ⟨(5, 0, ⟨#[]⟩, [], l), hh, rfl⟩
        · have b1 : (((i : Nat) : Int) > 0) = True := eq_true (by omega)
          have ei : (i : Int) - 1 = ((i - 1 : Nat) : Int) := by omega
          have fin : ∀ (n : Int), 0 ≤ n ∧ n ≤ 1000 → ∀ t ∈ l ++ [T.mk 3 n ⟨#[]⟩ [] []], ∃ n : Int, 0 ≤ n ∧ n ≤ 1000 ∧ t = .mk 3 n ⟨#[]⟩ [] [] := fun n hn t ht => by
            rcases List.mem_append.1 ht with ht | ht
            · exact g5 t ht
            · simp at ht; exact ⟨n, hn.1, hn.2, ht⟩
          by_cases hl0 : l = []
          · have b2 : ((l.length : Int) > 0) = False := eq_false (by rw [hl0]; simp)
            simp only [rg, go_sem, seval, Prod.fst, b1, b2, Bool.cond_self, T.enc_len, encL_len, spPick_md, spPick_pre, spPick_ne, ↓spPick_all, spPick_all]
            repeat' (first | with_reducible assumption | with_reducible refine And.intro ?_ ?_ | intro _)
            all_goals first | omega | skip
            rename_i n hn _ _
            refine ⟨(i - 1, j + 1, q + 1 + 1, l ++ [T.mk 3 n ⟨#[]⟩ [] []]), ⟨by show i - 1 + (j + 1) ≤ 5; omega, by show 2 ≤ q + 1 + 1; omega, by show q + 1 + 1 ≤ 2 + ((j + 1 : Nat) : Int) * 2; omega, by simp; omega, fin n (by omega)⟩, by show i - 1 < i; omega, ?_⟩
            rw [ei]
            refine Le.sub ?_ ?_ ?_ <;> simp [encL_app, encL, T.enc, strs]
          · have b2 : ((l.length : Int) > 0) = True := eq_true (by have := List.length_pos_iff.2 hl0; omega)
            have hlt := List.length_pos_iff.2 hl0
            obtain ⟨x, hx, _, hxm⟩ := drop_at hlt
            obtain ⟨n0, hn1, hn2, rfl⟩ := g5 x hxm
            have a1 := encL_at hx
            simp only [rg, go_sem, seval, Prod.fst, b1, b2, a1, bif_tf, T.enc_len, T.enc_dropQ, encL_len, spPick_md, spPick_pre, spPick_ne, ↓spPick_all, spPick_all]
            repeat' (first | with_reducible assumption | with_reducible refine And.intro ?_ ?_ | intro _)
            all_goals first | omega | (show _ < (_ : Int); omega) | skip
            · refine ⟨(i - 1, j + 1, q + 1, l ++ [T.mk 3 n0 ⟨#[]⟩ [] []]), ⟨by show i - 1 + (j + 1) ≤ 5; omega, by show 2 ≤ q + 1; omega, by show q + 1 ≤ 2 + ((j + 1 : Nat) : Int) * 2; omega, by simp; omega, fin n0 (by omega)⟩, by show i - 1 < i; omega, ?_⟩
              rw [ei]
              refine Le.sub ?_ ?_ ?_ <;> simp [encL_app, encL, T.enc, strs]
            · rename_i n hn _ _
              refine ⟨(i - 1, j + 1, q + 1 + 1, l ++ [T.mk 3 n ⟨#[]⟩ [] []]), ⟨by show i - 1 + (j + 1) ≤ 5; omega, by show 2 ≤ q + 1 + 1; omega, by show q + 1 + 1 ≤ 2 + ((j + 1 : Nat) : Int) * 2; omega, by simp; omega, fin n (by omega)⟩, by show i - 1 < i; omega, ?_⟩
              rw [ei]
              refine Le.sub ?_ ?_ ?_ <;> simp [encL_app, encL, T.enc, strs]
end Go.Proofs.Pw
/- What a law is told of a row of octets. -/
namespace Go.Proofs.Pw
def bytes (bs : List Int) : Prop := (∀ b ∈ bs, 0 ≤ b ∧ b ≤ 255) ∧ lenB 140737488355328 bs.length
end Go.Proofs.Pw
