/- What is drawn: rows of trees by keys. -/
import Derived.Test.YtdnbniggdebegaaPwDr4
import Derived.Test.YtdnbniggdebegaaPwPlBy
set_option linter.unusedSimpArgs false
set_option linter.unusedVariables false
set_option linter.unusedSimpArgs false
set_option maxRecDepth 20000
namespace Go.Proofs.Pw
set_option linter.unusedSectionVars false
variable [Globs]
def x_l2Put : X := (.seq (.reg [⟨some 3, none, .box (.t 0) (some 5)⟩, ⟨some 5, none, .box (.t 2) (some 5)⟩, ⟨some 6, none, .alloc [(.c (.int .i64 0)), (.c (.int .i64 0)), (.c (.str ⟨#[]⟩)), (.z 1), (.z 5)]⟩] none [1, 3, 5, 6]) (.seq (.reg [⟨some 10, none, .build [(.c (.int .i64 0)), (.c (.int .i64 0)), (.c (.str ⟨#[]⟩)), (.z 1), (.z 5)] [(0, (.k (.c (.int .i64 6))), none)]⟩, ⟨some 7, none, .alloc [(.c (.int .i64 0)), (.c (.int .i64 0)), (.c (.str ⟨#[]⟩)), (.z 1), (.z 5)]⟩, ⟨none, none, .st (.t 7) (.t 10) (some 5)⟩] none [1, 3, 5, 6, 7]) (.seq (.reg [⟨some 8, none, .mv (.k (.c (.bool false)))⟩] none [1, 3, 5, 6, 7, 8]) (.seq (.seq (.reg [⟨some 9, none, .mv (.k (.c (.int .i64 0)))⟩] none [1, 3, 5, 6, 7, 8, 9]) (.block 0 (.loop (.seq (.seq (.reg [⟨some 11, none, .mv (.t 9)⟩, ⟨some 12, none, .fa (.t 3) 3⟩, ⟨some 13, none, .load (.t 12) none⟩, ⟨some 14, none, .len (.t 13) false⟩, ⟨some 15, none, .bin false .lss (.t 11) (.t 14)⟩] none [1, 3, 5, 6, 7, 8, 9, 15]) (.cond (.t 15) .skip (.exit 0))) (.seq (.block 1 (.seq (.seq (.reg [⟨some 18, none, .mv (.t 8)⟩, ⟨some 19, none, .not (.t 18)⟩, ⟨some 20, none, .mv (.t 19)⟩, ⟨some 21, some (20, true), .fa (.t 3) 3⟩, ⟨some 22, some (20, true), .load (.t 21) none⟩, ⟨some 23, some (20, true), .mv (.t 9)⟩, ⟨some 24, some (20, true), .ia (.t 22) (.t 23) 1⟩, ⟨some 25, some (20, true), .load (.t 24) none⟩, ⟨some 26, some (20, true), .mv (.t 1)⟩, ⟨some 27, some (20, true), .bin false .geq (.t 25) (.t 26)⟩, ⟨some 28, none, .pick (.t 20) (.t 27) (.k (.c (.bool false)))⟩] none [1, 3, 5, 6, 7, 8, 9, 28]) (.cond (.t 28) (.seq (.reg [⟨some 29, none, .fa (.t 7) 3⟩, ⟨some 30, none, .load (.t 29) none⟩, ⟨some 31, none, .mv (.t 1)⟩, ⟨some 32, none, .bsl 1 [((.t 31), none)]⟩, ⟨some 33, none, .app (.t 30) (.t 32) 1 16 []⟩, ⟨some 34, none, .fa (.t 7) 3⟩, ⟨none, none, .st (.t 34) (.t 33) none⟩] none [1, 3, 5, 6, 7, 9]) (.seq (.reg [⟨some 35, none, .fa (.t 7) 4⟩, ⟨some 36, none, .load (.t 35) none⟩, ⟨some 37, none, .load (.t 5) (some 5)⟩, ⟨some 38, none, .bsl 5 [((.t 37), (some 5))]⟩, ⟨some 39, none, .app (.t 36) (.t 38) 5 80 []⟩, ⟨some 40, none, .fa (.t 7) 4⟩, ⟨none, none, .st (.t 40) (.t 39) none⟩] none [1, 3, 5, 6, 7, 9]) (.reg [⟨some 8, none, .mv (.k (.c (.bool true)))⟩] none [1, 3, 5, 6, 7, 8, 9]))) .skip)) (.seq (.reg [⟨some 41, none, .fa (.t 3) 3⟩, ⟨some 42, none, .load (.t 41) none⟩, ⟨some 43, none, .mv (.t 9)⟩, ⟨some 44, none, .ia (.t 42) (.t 43) 1⟩, ⟨some 45, none, .load (.t 44) none⟩, ⟨some 46, none, .mv (.t 1)⟩, ⟨some 47, none, .bin false .neq (.t 45) (.t 46)⟩] none [1, 3, 5, 6, 7, 8, 9, 47]) (.cond (.t 47) (.seq (.reg [⟨some 48, none, .fa (.t 7) 3⟩, ⟨some 49, none, .load (.t 48) none⟩, ⟨some 50, none, .fa (.t 3) 3⟩, ⟨some 51, none, .load (.t 50) none⟩, ⟨some 52, none, .mv (.t 9)⟩, ⟨some 53, none, .ia (.t 51) (.t 52) 1⟩, ⟨some 54, none, .load (.t 53) none⟩, ⟨some 55, none, .bsl 1 [((.t 54), none)]⟩, ⟨some 56, none, .app (.t 49) (.t 55) 1 16 []⟩, ⟨some 57, none, .fa (.t 7) 3⟩, ⟨none, none, .st (.t 57) (.t 56) none⟩] (some 8) [1, 3, 5, 6, 7, 8, 9]) (.reg [⟨some 58, none, .fa (.t 7) 4⟩, ⟨some 59, none, .load (.t 58) none⟩, ⟨some 60, none, .fa (.t 3) 4⟩, ⟨some 61, none, .load (.t 60) none⟩, ⟨some 62, none, .mv (.t 9)⟩, ⟨some 63, none, .ia (.t 61) (.t 62) 5⟩, ⟨some 64, none, .load (.t 63) (some 5)⟩, ⟨some 65, none, .bsl 5 [((.t 64), (some 5))]⟩, ⟨some 66, none, .app (.t 59) (.t 65) 5 80 []⟩, ⟨some 67, none, .fa (.t 7) 4⟩, ⟨none, none, .st (.t 67) (.t 66) none⟩] (some 8) [1, 3, 5, 6, 7, 8, 9])) .skip)))) (.reg [⟨some 16, none, .mv (.t 9)⟩, ⟨some 17, none, .bin false .add (.t 16) (.k (.c (.int .i64 1)))⟩, ⟨some 9, none, .mv (.t 17)⟩] none [1, 3, 5, 6, 7, 8, 9])))))) (.seq (.seq (.reg [⟨some 68, none, .mv (.t 8)⟩, ⟨some 69, none, .not (.t 68)⟩] none [1, 5, 6, 7, 69]) (.cond (.t 69) (.seq (.reg [⟨some 70, none, .fa (.t 7) 3⟩, ⟨some 71, none, .load (.t 70) none⟩, ⟨some 72, none, .mv (.t 1)⟩, ⟨some 73, none, .bsl 1 [((.t 72), none)]⟩, ⟨some 74, none, .app (.t 71) (.t 73) 1 16 []⟩, ⟨some 75, none, .fa (.t 7) 3⟩, ⟨none, none, .st (.t 75) (.t 74) none⟩] none [5, 6, 7]) (.reg [⟨some 76, none, .fa (.t 7) 4⟩, ⟨some 77, none, .load (.t 76) none⟩, ⟨some 78, none, .load (.t 5) (some 5)⟩, ⟨some 79, none, .bsl 5 [((.t 78), (some 5))]⟩, ⟨some 80, none, .app (.t 77) (.t 79) 5 80 []⟩, ⟨some 81, none, .fa (.t 7) 4⟩, ⟨none, none, .st (.t 81) (.t 80) none⟩] none [6, 7])) .skip)) (.seq (.reg [⟨some 82, none, .load (.t 7) (some 5)⟩, ⟨none, none, .st (.t 6) (.t 82) (some 5)⟩] none [6]) .ret))))))
theorem chk_l2Put : chkX Go.Proofs.Try.prog 83 (Go.Proofs.Try.f18.body.getD .skip) x_l2Put = true := by kernel_rfl
theorem rs_l2Put : okRs Go.Proofs.Try.prog Go.Proofs.Try.f18.results.toList [.cell 6 (some 5)] = true := by kernel_rfl
theorem call_l2Put : okCallee Go.Proofs.Try.prog 18 = true := by kernel_rfl
theorem mulB16 {n : Nat} (h : n ≤ 2000002) : n * 16 ≤ 140737488355328 := by omega
theorem mulB80 {n : Nat} (h : n ≤ 2000002) : n * 80 ≤ 140737488355328 := by omega
noncomputable def putT (v : T) (key : ByteArray) (x : T) : T := .mk 6 0 ⟨#[]⟩ (putS key x false v.keys v.list).1 (putS key x false v.keys v.list).2
noncomputable def spL2Put  : Spec := Spec.of (ι := T × ByteArray × T) [false, false, false] (fun i => [.d (.agg i.1.enc), .d (.one (.str i.2.1)), .d (.agg i.2.2.enc)]) (fun i => i.1.fit 140737488355328 ∧ lenB 1000000 i.1.keys.length ∧ i.1.keys.length = i.1.list.length) (fun i => [.d (.agg (putT i.1 i.2.1 i.2.2).enc)]) (fun _ => [.gone, .gone, .gone])
theorem spL2Put_inj : ∀ i j : T × ByteArray × T, (fun (i : T × ByteArray × T) => ([.d (.agg i.1.enc), .d (.one (.str i.2.1)), .d (.agg i.2.2.enc)] : List AV)) i = (fun (i : T × ByteArray × T) => ([.d (.agg i.1.enc), .d (.one (.str i.2.1)), .d (.agg i.2.2.enc)] : List AV)) j → i = j := by
  rintro ⟨v, key, x⟩ ⟨v', key', x'⟩ h
  simp only [Prod.mk.injEq]
  simpa [strs_eq, T.enc_eq, encL_eq, F.enc_eq, encF_eq, Tk.enc_eq, encTk_eq, Gn.enc_eq, ints_eq, rdC_eq, and_assoc] using h
theorem spL2Put_md  : (spL2Put).md = [false, false, false] := rfl
theorem spL2Put_pre  (v : T) (key : ByteArray) (x : T) : (spL2Put).pre [.d (.agg v.enc), .d (.one (.str key)), .d (.agg x.enc)] = (v.fit 140737488355328 ∧ lenB 1000000 v.keys.length ∧ v.keys.length = v.list.length) := Spec.of_pre' spL2Put_inj (v, key, x)
theorem spL2Put_alts  : (spL2Put).alts = none := rfl
theorem spL2Put_res  (v : T) (key : ByteArray) (x : T) : (spL2Put).res [.d (.agg v.enc), .d (.one (.str key)), .d (.agg x.enc)] = [.d (.agg (putT v key x).enc)] := Spec.of_res spL2Put_inj (v, key, x)
theorem spL2Put_out  (v : T) (key : ByteArray) (x : T) : (spL2Put).out [.d (.agg v.enc), .d (.one (.str key)), .d (.agg x.enc)] = [.gone, .gone, .gone] := Spec.of_out spL2Put_inj (v, key, x)
set_option maxHeartbeats 10000000 in
theorem l2Put_sound : Sound Go.Proofs.Try.prog 18 spL2Put := by
  refine sound_fam GOK.nil Go.Proofs.Try.func18 (c := Go.Proofs.Try.f18.body.getD .skip) rfl (n := 83) rfl chk_l2Put rs_l2Put (fun _ => by simp) ?_ ?_
  · exact spL2Put_inj
  · rintro ⟨v, key, x⟩ ⟨h1, h2, h3⟩
    obtain ⟨k, n, s, ks, l⟩ := v
    have h4 : (ks.length : Int) ≤ 1000000 := h2
    have h5 : ks.length = l.length := h3
    have fx := T.enc_len x
    simp only [x_l2Put, rg, go_sem, seval, Prod.fst, T.enc, fx]
    refine pw_loop (ι := Nat × Bool × List ByteArray × List T) (fun i => ks.length - i.1)
      (fun i => i.1 ≤ ks.length ∧ i.2.2.1 ++ (putS key x i.2.1 (ks.drop i.1) (l.drop i.1)).1 = (putS key x false ks l).1 ∧ i.2.2.2 ++ (putS key x i.2.1 (ks.drop i.1) (l.drop i.1)).2 = (putS key x false ks l).2 ∧ i.2.2.1.length ≤ 2 * i.1 ∧ i.2.2.2.length ≤ 2 * i.1)
      (fun i => ⟨[(1, .q (.c (.str key))), (3, .q (.box 3 0)), (5, .q (.box 5 0)), (6, .q (.box 6 0)), (7, .q (.box 7 0)), (8, .q (.c (.bool i.2.1))), (9, .q (.c (.int .i64 i.1)))],
        [(3, [.c (.int .i64 k), .c (.int .i64 n), .c (.str s), .c (.row 1 (strs ks)), .c (.row 5 (encL l))]), (5, x.enc.map .c), (6, [.c (.int .i64 0), .c (.int .i64 0), .c (.str ⟨#[]⟩), .z 1, .z 5]), (7, [.c (.int .i64 6), .c (.int .i64 0), .c (.str ⟨#[]⟩), .own 301, .own 302])],
        [(301, 1, strs i.2.2.1), (302, 5, encL i.2.2.2)]⟩) (0, false, [], []) ⟨by simp, by simp, by simp, by simp, by simp⟩ ?_ ?_
    · refine (Le.ownB (b := 7) (j := 3) (d := 301) (sz := 1) (qs := [.c (.int .i64 6), .c (.int .i64 0), .c (.str ⟨#[]⟩), .z 1, .z 5]) (by decide) (by simp) rfl (by simp [Q.killO]) (by simp [PV.map, Q.killO])).trans
        ((Le.ownB (b := 7) (j := 4) (d := 302) (sz := 5) (qs := [.c (.int .i64 6), .c (.int .i64 0), .c (.str ⟨#[]⟩), .own 301, .z 5]) (by decide) (by simp [upd]) rfl (by simp [upd, del, Q.killO]) (by simp [PV.map, Q.killO])).trans (Le.of_eq (by simp [upd, del, strs, encL])))
    · rintro ⟨i, d, a, b⟩ ⟨g1, g2, g3, g4, g5⟩
      simp only at g1 g2 g3 g4 g5
      rcases Nat.lt_or_ge i ks.length with hlt | hge
      · obtain ⟨y, hy, hd, _⟩ := drop_at hlt
        obtain ⟨t, ht, hd', _⟩ := drop_at (l := l) (i := i) (by omega)
        have b1 : ((i : Int) < (ks.length : Int)) = True := eq_true (by omega)
        have a1 := strs_at hy
        have a2 := encL_at ht
        have f1 := T.enc_len t
        have hi : i < l.length := by omega
        rw [hd, hd'] at g2 g3
        simp only [putS] at g2 g3
        cases d with
        | true =>
          by_cases e : y = key
          · have e' : (y = key) = True := eq_true e
            simp only [rg, go_sem, seval, Prod.fst, b1, a1, a2, e', f1, fx, encL_len, encL_appL, encL_one, List.length_append]
            repeat' (first | with_reducible assumption | with_reducible refine And.intro ?_ ?_ | intro _)
            all_goals first | omega | assumption | skip
            refine ⟨(i + 1, true, a, b), ⟨by show i + 1 ≤ _; omega, ?_, ?_, by show a.length ≤ 2 * (i + 1); omega, by show b.length ≤ 2 * (i + 1); omega⟩, by show ks.length - (i + 1) < _; omega, Le.refl _⟩
            · rw [← g2]; simp [e]
            · rw [← g3]; simp [e]
          · have e' : (y = key) = False := eq_false e
            simp only [rg, go_sem, seval, Prod.fst, b1, a1, a2, e', f1, fx, encL_len, encL_appL, encL_one, List.length_append]
            repeat' (first | with_reducible assumption | with_reducible refine And.intro ?_ ?_ | intro _)
            all_goals first | omega | assumption | skip
            refine ⟨(i + 1, true, a ++ [y], b ++ [t]), ⟨by show i + 1 ≤ _; omega, ?_, ?_, by show (a ++ [y]).length ≤ 2 * (i + 1); simp; omega, by show (b ++ [t]).length ≤ 2 * (i + 1); simp; omega⟩, by show ks.length - (i + 1) < _; omega, Le.of_eq (by simp [strs])⟩
            · rw [← g2]; simp [e]
            · rw [← g3]; simp [e]
        | false =>
          by_cases c : sl y key
          · have c' : sl y key = True := eq_true c
            have e : ¬ y = key := fun h => by rw [h] at c; exact sl_irrefl _ c
            have e' : (y = key) = False := eq_false e
            simp only [rg, go_sem, seval, Prod.fst, b1, a1, a2, c', e', f1, fx, encL_len, encL_appL, encL_one, List.length_append]
            repeat' (first | with_reducible assumption | with_reducible refine And.intro ?_ ?_ | intro _)
            all_goals first | omega | assumption | skip
            refine ⟨(i + 1, false, a ++ [y], b ++ [t]), ⟨by show i + 1 ≤ _; omega, ?_, ?_, by show (a ++ [y]).length ≤ 2 * (i + 1); simp; omega, by show (b ++ [t]).length ≤ 2 * (i + 1); simp; omega⟩, by show ks.length - (i + 1) < _; omega, Le.of_eq (by simp [strs])⟩
            · rw [← g2]; simp [e, c]
            · rw [← g3]; simp [e, c]
          · have c' : sl y key = False := eq_false c
            by_cases e : y = key
            · have e' : (y = key) = True := eq_true e
              simp only [rg, go_sem, seval, Prod.fst, b1, a1, a2, c', e', f1, fx, encL_len, encL_appL, encL_one, List.length_append]
              repeat' (first | with_reducible assumption | with_reducible refine And.intro ?_ ?_ | intro _)
              all_goals first | omega | assumption | skip
              refine ⟨(i + 1, true, a ++ [key], b ++ [x]), ⟨by show i + 1 ≤ _; omega, ?_, ?_, by show (a ++ [key]).length ≤ 2 * (i + 1); simp; omega, by show (b ++ [x]).length ≤ 2 * (i + 1); simp; omega⟩, by show ks.length - (i + 1) < _; omega, Le.of_eq (by simp [strs])⟩
              · rw [e] at g2; rw [← g2]; simp [sl_irrefl]
              · rw [e] at g3; rw [← g3]; simp [sl_irrefl]
            · have e' : (y = key) = False := eq_false e
              simp only [rg, go_sem, seval, Prod.fst, b1, a1, a2, c', e', f1, fx, encL_len, encL_appL, encL_one, List.length_append]
              have ha : a.length + 1 + 1 ≤ 2000002 := by omega
              have hb : b.length + 1 + 1 ≤ 2000002 := by omega
              clear b1 c' e'
              repeat' (first | with_reducible assumption | with_reducible refine And.intro ?_ ?_ | intro _)
              · omega
              · omega
              · omega
              · exact mulB16 ha
              · omega
              · exact mulB80 hb
              · omega
              · omega
              · refine ⟨(i + 1, true, a ++ [key, y], b ++ [x, t]), ⟨by show i + 1 ≤ _; omega, ?_, ?_, by show (a ++ [key, y]).length ≤ 2 * (i + 1); simp; omega, by show (b ++ [x, t]).length ≤ 2 * (i + 1); simp; omega⟩, by show ks.length - (i + 1) < _; omega, Le.of_eq (by simp [strs, encL_app, encL])⟩
                · rw [← g2]; simp [e, c]
                · rw [← g3]; simp [e, c]
      · obtain rfl : i = ks.length := by omega
        have b1 : ((ks.length : Int) < (ks.length : Int)) = False := eq_false (by omega)
        rw [List.drop_length] at g2 g3
        cases d with
        | true =>
          simp only [putS, if_true, List.append_nil] at g2 g3
          simp only [rg, go_sem, seval, Prod.fst, b1, fx, encL_len, encL_appL, encL_one, List.length_append]
          repeat' (first | with_reducible assumption | with_reducible refine And.intro ?_ ?_ | intro _)
          all_goals first | omega | assumption | skip
          all_goals simp [putT, T.keys, T.list, T.enc, g2, g3]
        | false =>
          simp only [putS] at g2 g3
          simp only [rg, go_sem, seval, Prod.fst, b1, fx, encL_len, encL_appL, encL_one, List.length_append]
          repeat' (first | with_reducible assumption | with_reducible refine And.intro ?_ ?_ | intro _)
          all_goals first | omega | assumption | skip
          all_goals simp [putT, T.keys, T.list, T.enc, ← g2, ← g3, strs]
structure goodM (m : Nat) (z : Int) (v : T) : Prop where
  f : v.fit 1000
  e : v.keys.length = v.list.length
  m : v.keys.length ≤ m
  z : sizeT v ≤ z
end Go.Proofs.Pw
