/- What is drawn: rows of trees by keys. -/
import Derived.Test.YtkngbnefhelepaaPwT15
import Derived.Test.YtkngbnefhelepaaPwT12
import Derived.Test.YtkngbnefhelepaaPwT16
import Derived.Test.YtkngbnefhelepaaPwT10
import Derived.Test.YtkngbnefhelepaaPwT9
import Derived.Test.YtkngbnefhelepaaPwT11
set_option linter.unusedSimpArgs false
set_option linter.unusedVariables false
set_option linter.unusedSimpArgs false
set_option maxRecDepth 20000
namespace Go.Proofs.Pw
set_option linter.unusedSectionVars false
variable [Globs]
def x_l2Put : X := (.seq (.reg [⟨some 3, none, .box (.t 0) (some 5)⟩, ⟨some 5, none, .box (.t 2) (some 5)⟩, ⟨some 6, none, .alloc [(.c (.int .i64 0)), (.c (.int .i64 0)), (.c (.str ⟨#[]⟩)), (.z 1), (.z 5)]⟩] none [1, 3, 5, 6]) (.seq (.reg [⟨some 10, none, .build [(.c (.int .i64 0)), (.c (.int .i64 0)), (.c (.str ⟨#[]⟩)), (.z 1), (.z 5)] [(0, (.k (.c (.int .i64 6))), none)]⟩, ⟨some 7, none, .alloc [(.c (.int .i64 0)), (.c (.int .i64 0)), (.c (.str ⟨#[]⟩)), (.z 1), (.z 5)]⟩, ⟨none, none, .st (.t 7) (.t 10) (some 5)⟩] none [1, 3, 5, 6, 7]) (.seq (.reg [⟨some 8, none, .mv (.k (.c (.bool false)))⟩] none [1, 3, 5, 6, 7, 8]) (.seq (.seq (.reg [⟨some 9, none, .mv (.k (.c (.int .i64 0)))⟩] none [1, 3, 5, 6, 7, 8, 9]) (.block 0 (.loop (.seq (.seq (.reg [⟨some 11, none, .mv (.t 9)⟩, ⟨some 12, none, .fa (.t 3) 3⟩, ⟨some 13, none, .load (.t 12) none⟩, ⟨some 14, none, .len (.t 13) false⟩, ⟨some 15, none, .bin false .lss (.t 11) (.t 14)⟩] none [1, 3, 5, 6, 7, 8, 9, 15]) (.cond (.t 15) .skip (.exit 0))) (.seq (.block 1 (.seq (.seq (.reg [⟨some 18, none, .mv (.t 8)⟩, ⟨some 19, none, .not (.t 18)⟩, ⟨some 20, none, .mv (.t 19)⟩, ⟨some 21, some (20, true), .fa (.t 3) 3⟩, ⟨some 22, some (20, true), .load (.t 21) none⟩, ⟨some 23, some (20, true), .mv (.t 9)⟩, ⟨some 24, some (20, true), .ia (.t 22) (.t 23) 1⟩, ⟨some 25, some (20, true), .load (.t 24) none⟩, ⟨some 26, some (20, true), .mv (.t 1)⟩, ⟨some 27, some (20, true), .bin false .geq (.t 25) (.t 26)⟩, ⟨some 28, none, .pick (.t 20) (.t 27) (.k (.c (.bool false)))⟩] none [1, 3, 5, 6, 7, 8, 9, 28]) (.cond (.t 28) (.seq (.reg [⟨some 29, none, .fa (.t 7) 3⟩, ⟨some 30, none, .load (.t 29) none⟩, ⟨some 31, none, .mv (.t 1)⟩, ⟨some 32, none, .bsl 1 [((.t 31), none)]⟩, ⟨some 33, none, .app (.t 30) (.t 32) 1 16 []⟩, ⟨some 34, none, .fa (.t 7) 3⟩, ⟨none, none, .st (.t 34) (.t 33) none⟩] none [1, 3, 5, 6, 7, 9]) (.seq (.reg [⟨some 35, none, .fa (.t 7) 4⟩, ⟨some 36, none, .load (.t 35) none⟩, ⟨some 37, none, .load (.t 5) (some 5)⟩, ⟨some 38, none, .bsl 5 [((.t 37), (some 5))]⟩, ⟨some 39, none, .app (.t 36) (.t 38) 5 80 []⟩, ⟨some 40, none, .fa (.t 7) 4⟩, ⟨none, none, .st (.t 40) (.t 39) none⟩] none [1, 3, 5, 6, 7, 9]) (.reg [⟨some 8, none, .mv (.k (.c (.bool true)))⟩] none [1, 3, 5, 6, 7, 8, 9]))) .skip)) (.seq (.reg [⟨some 41, none, .fa (.t 3) 3⟩, ⟨some 42, none, .load (.t 41) none⟩, ⟨some 43, none, .mv (.t 9)⟩, ⟨some 44, none, .ia (.t 42) (.t 43) 1⟩, ⟨some 45, none, .load (.t 44) none⟩, ⟨some 46, none, .mv (.t 1)⟩, ⟨some 47, none, .bin false .neq (.t 45) (.t 46)⟩] none [1, 3, 5, 6, 7, 8, 9, 47]) (.cond (.t 47) (.seq (.reg [⟨some 48, none, .fa (.t 7) 3⟩, ⟨some 49, none, .load (.t 48) none⟩, ⟨some 50, none, .fa (.t 3) 3⟩, ⟨some 51, none, .load (.t 50) none⟩, ⟨some 52, none, .mv (.t 9)⟩, ⟨some 53, none, .ia (.t 51) (.t 52) 1⟩, ⟨some 54, none, .load (.t 53) none⟩, ⟨some 55, none, .bsl 1 [((.t 54), none)]⟩, ⟨some 56, none, .app (.t 49) (.t 55) 1 16 []⟩, ⟨some 57, none, .fa (.t 7) 3⟩, ⟨none, none, .st (.t 57) (.t 56) none⟩] (some 8) [1, 3, 5, 6, 7, 8, 9]) (.reg [⟨some 58, none, .fa (.t 7) 4⟩, ⟨some 59, none, .load (.t 58) none⟩, ⟨some 60, none, .fa (.t 3) 4⟩, ⟨some 61, none, .load (.t 60) none⟩, ⟨some 62, none, .mv (.t 9)⟩, ⟨some 63, none, .ia (.t 61) (.t 62) 5⟩, ⟨some 64, none, .load (.t 63) (some 5)⟩, ⟨some 65, none, .bsl 5 [((.t 64), (some 5))]⟩, ⟨some 66, none, .app (.t 59) (.t 65) 5 80 []⟩, ⟨some 67, none, .fa (.t 7) 4⟩, ⟨none, none, .st (.t 67) (.t 66) none⟩] (some 8) [1, 3, 5, 6, 7, 8, 9])) .skip)))) (.reg [⟨some 16, none, .mv (.t 9)⟩, ⟨some 17, none, .bin false .add (.t 16) (.k (.c (.int .i64 1)))⟩, ⟨some 9, none, .mv (.t 17)⟩] none [1, 3, 5, 6, 7, 8, 9])))))) (.seq (.seq (.reg [⟨some 68, none, .mv (.t 8)⟩, ⟨some 69, none, .not (.t 68)⟩] none [1, 5, 6, 7, 69]) (.cond (.t 69) (.seq (.reg [⟨some 70, none, .fa (.t 7) 3⟩, ⟨some 71, none, .load (.t 70) none⟩, ⟨some 72, none, .mv (.t 1)⟩, ⟨some 73, none, .bsl 1 [((.t 72), none)]⟩, ⟨some 74, none, .app (.t 71) (.t 73) 1 16 []⟩, ⟨some 75, none, .fa (.t 7) 3⟩, ⟨none, none, .st (.t 75) (.t 74) none⟩] none [5, 6, 7]) (.reg [⟨some 76, none, .fa (.t 7) 4⟩, ⟨some 77, none, .load (.t 76) none⟩, ⟨some 78, none, .load (.t 5) (some 5)⟩, ⟨some 79, none, .bsl 5 [((.t 78), (some 5))]⟩, ⟨some 80, none, .app (.t 77) (.t 79) 5 80 []⟩, ⟨some 81, none, .fa (.t 7) 4⟩, ⟨none, none, .st (.t 81) (.t 80) none⟩] none [6, 7])) .skip)) (.seq (.reg [⟨some 82, none, .load (.t 7) (some 5)⟩, ⟨none, none, .st (.t 6) (.t 82) (some 5)⟩] none [6]) .ret))))))
theorem chk_l2Put : chkX Go.Proofs.Try.prog 83 (Go.Proofs.Try.f55.body.getD .skip) x_l2Put = true := by kernel_rfl
theorem rs_l2Put : okRs Go.Proofs.Try.prog Go.Proofs.Try.f55.results.toList [.cell 6 (some 5)] = true := by kernel_rfl
theorem call_l2Put : okCallee Go.Proofs.Try.prog 55 = true := by kernel_rfl
theorem mulB16 {n : Nat} (h : n ≤ 2000002) : n * 16 ≤ 140737488355328 := by omega
theorem mulB80 {n : Nat} (h : n ≤ 2000002) : n * 80 ≤ 140737488355328 := by omega
noncomputable def putT (v : T) (key : ByteArray) (x : T) : T := .mk 6 0 ⟨#[]⟩ (putS key x false v.keys v.list).1 (putS key x false v.keys v.list).2
noncomputable def spL2Put  : Spec := Spec.of (ι := T × ByteArray × T) [false, false, false] (fun i => [.d (.agg i.1.enc), .d (.one (.str i.2.1)), .d (.agg i.2.2.enc)]) (fun i => i.1.fit 140737488355328 ∧ lenB 1000000 i.1.keys.length ∧ i.1.keys.length = i.1.list.length) (fun i => [.d (.agg (putT i.1 i.2.1 i.2.2).enc)]) (fun _ => [.gone, .gone, .gone])
theorem spL2Put_inj : ∀ i j : T × ByteArray × T, (fun (i : T × ByteArray × T) => ([.d (.agg i.1.enc), .d (.one (.str i.2.1)), .d (.agg i.2.2.enc)] : List AV)) i = (fun (i : T × ByteArray × T) => ([.d (.agg i.1.enc), .d (.one (.str i.2.1)), .d (.agg i.2.2.enc)] : List AV)) j → i = j := by
  rintro ⟨v, key, x⟩ ⟨v', key', x'⟩ h
  simp only [Prod.mk.injEq]
  simpa [strs_eq, T.enc_eq, encL_eq, F.enc_eq, encF_eq, Tk.enc_eq, encTk_eq, Gn.enc_eq, ints_eq, rdC_eq, and_assoc] using h
theorem spL2Put_md  : (spL2Put).md = [false, false, false] := rfl
theorem spL2Put_pre  (v : T) (key : ByteArray) (x : T) : (spL2Put).pre [.d (.agg v.enc), .d (.one (.str key)), .d (.agg x.enc)] = (v.fit 140737488355328 ∧ lenB 1000000 v.keys.length ∧ v.keys.length = v.list.length) := Spec.of_pre' spL2Put_inj (v, key, x)
theorem spL2Put_alts  : (spL2Put).alts = none := rfl
theorem spL2Put_res  (v : T) (key : ByteArray) (x : T) : (spL2Put).res [.d (.agg v.enc), .d (.one (.str key)), .d (.agg x.enc)] = [.d (.agg (putT v key x).enc)] := Spec.of_res spL2Put_inj (v, key, x)
theorem spL2Put_out  (v : T) (key : ByteArray) (x : T) : (spL2Put).out [.d (.agg v.enc), .d (.one (.str key)), .d (.agg x.enc)] = [.gone, .gone, .gone] := Spec.of_out spL2Put_inj (v, key, x)
set_option maxHeartbeats 10000000 in
theorem l2Put_sound : Sound Go.Proofs.Try.prog 55 spL2Put := by
  refine sound_fam GOK.nil Go.Proofs.Try.func55 (c := Go.Proofs.Try.f55.body.getD .skip) rfl (n := 83) rfl chk_l2Put rs_l2Put (fun _ => by simp) ?_ ?_
  · exact spL2Put_inj
  · rintro ⟨v, key, x⟩ ⟨h1, h2, h3⟩
    obtain ⟨k, n, s, ks, l⟩ := v
    have h4 : (ks.length : Int) ≤ 1000000 := h2
    have h5 : ks.length = l.length := h3
    have fx := T.enc_len x
    simp only [x_l2Put, rg, go_sem, seval, Prod.fst, T.enc, fx]
    refine pw_loop (ι := Nat × Bool × List ByteArray × List T) (fun i => ks.length - i.1)
      (fun i => i.1 ≤ ks.length ∧ i.2.2.1 ++ (putS key x i.2.1 (ks.drop i.1) (l.drop i.1)).1 = (putS key x false ks l).1 ∧ i.2.2.2 ++ (putS key x i.2.1 (ks.drop i.1) (l.drop i.1)).2 = (putS key x false ks l).2 ∧ i.2.2.1.length ≤ 2 * i.1 ∧ i.2.2.2.length ≤ 2 * i.1)
      (fun i => ⟨[(1, .q (.c (.str key))), (3, .q (.box 3 0)), (5, .q (.box 5 0)), (6, .q (.box 6 0)), (7, .q (.box 7 0)), (8, .q (.c (.bool i.2.1))), (9, .q (.c (.int .i64 i.1)))],
        [(3, [.c (.int .i64 k), .c (.int .i64 n), .c (.str s), .c (.row 1 (strs ks)), .c (.row 5 (encL l))]), (5, x.enc.map .c), (6, [.c (.int .i64 0), .c (.int .i64 0), .c (.str ⟨#[]⟩), .z 1, .z 5]), (7, [.c (.int .i64 6), .c (.int .i64 0), .c (.str ⟨#[]⟩), .own 301, .own 302])],
        [(301, 1, strs i.2.2.1), (302, 5, encL i.2.2.2)]⟩) (0, false, [], []) ⟨by simp, by simp, by simp, by simp, by simp⟩ ?_ ?_
    · refine (Le.ownB (b := 7) (j := 3) (d := 301) (sz := 1) (qs := [.c (.int .i64 6), .c (.int .i64 0), .c (.str ⟨#[]⟩), .z 1, .z 5]) (by decide) (by simp) rfl (by simp [Q.killO]) (by simp [PV.map, Q.killO])).trans
        ((Le.ownB (b := 7) (j := 4) (d := 302) (sz := 5) (qs := [.c (.int .i64 6), .c (.int .i64 0), .c (.str ⟨#[]⟩), .own 301, .z 5]) (by decide) (by simp [upd]) rfl (by simp [upd, del, Q.killO]) (by simp [PV.map, Q.killO])).trans (Le.of_eq (by simp [upd, del, strs, encL])))
    · rintro ⟨i, d, a, b⟩ ⟨g1, g2, g3, g4, g5⟩
      simp only at g1 g2 g3 g4 g5
      rcases Nat.lt_or_ge i ks.length with hlt | hge
      · obtain ⟨y, hy, hd, _⟩ := drop_at hlt
        obtain ⟨t, ht, hd', _⟩ := drop_at (l := l) (i := i) (by omega)
        have b1 : ((i : Int) < (ks.length : Int)) = True := eq_true (by omega)
        have a1 := strs_at hy
        have a2 := encL_at ht
        have f1 := T.enc_len t
        have hi : i < l.length := by omega
        rw [hd, hd'] at g2 g3
        simp only [putS] at g2 g3
        cases d with
        | true =>
          by_cases e : y = key
          · have e' : (y = key) = True := eq_true e
            simp only [rg, go_sem, seval, Prod.fst, b1, a1, a2, e', f1, fx, encL_len, encL_appL, encL_one, List.length_append]
            repeat' (first | with_reducible assumption | with_reducible refine And.intro ?_ ?_ | intro _)
            all_goals first | omega | assumption | skip
            refine ⟨(i + 1, true, a, b), ⟨by show i + 1 ≤ _; omega, ?_, ?_, by show a.length ≤ 2 * (i + 1); omega, by show b.length ≤ 2 * (i + 1); omega⟩, by show ks.length - (i + 1) < _; omega, Le.refl _⟩
            · rw [← g2]; simp [e]
            · rw [← g3]; simp [e]
          · have e' : (y = key) = False := eq_false e
            simp only [rg, go_sem, seval, Prod.fst, b1, a1, a2, e', f1, fx, encL_len, encL_appL, encL_one, List.length_append]
            repeat' (first | with_reducible assumption | with_reducible refine And.intro ?_ ?_ | intro _)
            all_goals first | omega | assumption | skip
            refine ⟨(i + 1, true, a ++ [y], b ++ [t]), ⟨by show i + 1 ≤ _; omega, ?_, ?_, by show (a ++ [y]).length ≤ 2 * (i + 1); simp; omega, by show (b ++ [t]).length ≤ 2 * (i + 1); simp; omega⟩, by show ks.length - (i + 1) < _; omega, Le.of_eq (by simp [strs])⟩
            · rw [← g2]; simp [e]
            · rw [← g3]; simp [e]
        | false =>
          by_cases c : sl y key
          · have c' : sl y key = True := eq_true c
            have e : ¬ y = key := fun h => by rw [h] at c; exact sl_irrefl _ c
            have e' : (y = key) = False := eq_false e
            simp only [rg, go_sem, seval, Prod.fst, b1, a1, a2, c', e', f1, fx, encL_len, encL_appL, encL_one, List.length_append]
            repeat' (first | with_reducible assumption | with_reducible refine And.intro ?_ ?_ | intro _)
            all_goals first | omega | assumption | skip
            refine ⟨(i + 1, false, a ++ [y], b ++ [t]), ⟨by show i + 1 ≤ _; omega, ?_, ?_, by show (a ++ [y]).length ≤ 2 * (i + 1); simp; omega, by show (b ++ [t]).length ≤ 2 * (i + 1); simp; omega⟩, by show ks.length - (i + 1) < _; omega, Le.of_eq (by simp [strs])⟩
            · rw [← g2]; simp [e, c]
            · rw [← g3]; simp [e, c]
          · have c' : sl y key = False := eq_false c
            by_cases e : y = key
            · have e' : (y = key) = True := eq_true e
              simp only [rg, go_sem, seval, Prod.fst, b1, a1, a2, c', e', f1, fx, encL_len, encL_appL, encL_one, List.length_append]
              repeat' (first | with_reducible assumption | with_reducible refine And.intro ?_ ?_ | intro _)
              all_goals first | omega | assumption | skip
              refine ⟨(i + 1, true, a ++ [key], b ++ [x]), ⟨by show i + 1 ≤ _; omega, ?_, ?_, by show (a ++ [key]).length ≤ 2 * (i + 1); simp; omega, by show (b ++ [x]).length ≤ 2 * (i + 1); simp; omega⟩, by show ks.length - (i + 1) < _; omega, Le.of_eq (by simp [strs])⟩
              · rw [e] at g2; rw [← g2]; simp [sl_irrefl]
              · rw [e] at g3; rw [← g3]; simp [sl_irrefl]
            · have e' : (y = key) = False := eq_false e
              simp only [rg, go_sem, seval, Prod.fst, b1, a1, a2, c', e', f1, fx, encL_len, encL_appL, encL_one, List.length_append]
              have ha : a.length + 1 + 1 ≤ 2000002 := by omega
              have hb : b.length + 1 + 1 ≤ 2000002 := by omega
              clear b1 c' e'
              repeat' (first | with_reducible assumption | with_reducible refine And.intro ?_ ?_ | intro _)
              · omega
              · omega
              · omega
              · exact mulB16 ha
              · omega
              · exact mulB80 hb
              · omega
              · omega
              · refine ⟨(i + 1, true, a ++ [key, y], b ++ [x, t]), ⟨by show i + 1 ≤ _; omega, ?_, ?_, by show (a ++ [key, y]).length ≤ 2 * (i + 1); simp; omega, by show (b ++ [x, t]).length ≤ 2 * (i + 1); simp; omega⟩, by show ks.length - (i + 1) < _; omega, Le.of_eq (by simp [strs, encL_app, encL])⟩
                · rw [← g2]; simp [e, c]
                · rw [← g3]; simp [e, c]
      · obtain rfl : i = ks.length := by omega
        have b1 : ((ks.length : Int) < (ks.length : Int)) = False := eq_false (by omega)
        rw [List.drop_length] at g2 g3
        cases d with
        | true =>
          simp only [putS, if_true, List.append_nil] at g2 g3
          simp only [rg, go_sem, seval, Prod.fst, b1, fx, encL_len, encL_appL, encL_one, List.length_append]
          repeat' (first | with_reducible assumption | with_reducible refine And.intro ?_ ?_ | intro _)
          all_goals first | omega | assumption | skip
          all_goals simp [putT, T.keys, T.list, T.enc, g2, g3]
        | false =>
          simp only [putS] at g2 g3
          simp only [rg, go_sem, seval, Prod.fst, b1, fx, encL_len, encL_appL, encL_one, List.length_append]
          repeat' (first | with_reducible assumption | with_reducible refine And.intro ?_ ?_ | intro _)
          all_goals first | omega | assumption | skip
          all_goals simp [putT, T.keys, T.list, T.enc, ← g2, ← g3, strs]
structure goodM (m : Nat) (z : Int) (v : T) : Prop where
  f : v.fit 1000
  e : v.keys.length = v.list.length
  m : v.keys.length ≤ m
  z : sizeT v ≤ z
end Go.Proofs.Pw
/- A key looked for among keys in order; a tree put at a key. -/
set_option linter.unusedSimpArgs false
set_option maxRecDepth 20000
namespace Go.Proofs.Pw
set_option linter.unusedSectionVars false
variable [Globs]
def x_CloneS : X := (.seq (.reg [⟨some 2, none, .mv (.k (.z 1))⟩] none [0]) (.seq (.seq (.reg [⟨some 3, none, .mv (.t 0)⟩, ⟨some 4, none, .isn (.t 3)⟩] none [0, 4]) (.cond (.t 4) (.seq (.reg [⟨some 2, none, .mv (.k (.z 1))⟩] none [2]) .ret) .skip)) (.seq (.reg [⟨some 5, none, .bsl 1 []⟩, ⟨some 6, none, .mv (.t 0)⟩, ⟨some 7, none, .app (.t 5) (.t 6) 1 16 []⟩, ⟨some 2, none, .mv (.t 7)⟩] none [2]) .ret)))
theorem chk_CloneS : chkX Go.Proofs.Try.prog 8 (Go.Proofs.Try.f66.body.getD .skip) x_CloneS = true := by kernel_rfl
theorem rs_CloneS : okRs Go.Proofs.Try.prog Go.Proofs.Try.f66.results.toList [.tmp 2] = true := by kernel_rfl
theorem call_CloneS : okCallee Go.Proofs.Try.prog 66 = true := by kernel_rfl
def x_lessS : X := (.seq (.reg [⟨some 4, none, .mv (.k (.c (.bool false)))⟩] none [0, 1]) (.seq (.reg [⟨some 5, none, .mv (.t 0)⟩, ⟨some 6, none, .call 76 [(.t 5)]⟩, ⟨some 7, none, .mv (.t 6)⟩, ⟨some 8, some (7, true), .mv (.t 1)⟩, ⟨some 9, some (7, true), .call 76 [(.t 8)]⟩, ⟨some 10, some (7, true), .not (.t 9)⟩, ⟨some 11, none, .pick (.t 7) (.t 10) (.k (.c (.bool false)))⟩, ⟨some 12, none, .mv (.t 11)⟩, ⟨some 13, some (12, false), .mv (.t 0)⟩, ⟨some 14, some (12, false), .mv (.t 1)⟩, ⟨some 15, some (12, false), .bin false .lss (.t 13) (.t 14)⟩, ⟨some 16, none, .pick (.t 12) (.k (.c (.bool true))) (.t 15)⟩, ⟨some 4, none, .mv (.t 16)⟩] none [4]) .ret))
theorem chk_lessS : chkX Go.Proofs.Try.prog 17 (Go.Proofs.Try.f70.body.getD .skip) x_lessS = true := by kernel_rfl
theorem rs_lessS : okRs Go.Proofs.Try.prog Go.Proofs.Try.f70.results.toList [.tmp 4] = true := by kernel_rfl
theorem call_lessS : okCallee Go.Proofs.Try.prog 70 = true := by kernel_rfl
def x_nanS2 : X := (.seq (.reg [⟨some 2, none, .mv (.k (.c (.bool false)))⟩] none [0]) (.seq (.reg [⟨some 3, none, .mv (.t 0)⟩, ⟨some 4, none, .mv (.t 0)⟩, ⟨some 5, none, .bin false .neq (.t 3) (.t 4)⟩, ⟨some 2, none, .mv (.t 5)⟩] none [2]) .ret))
theorem chk_nanS2 : chkX Go.Proofs.Try.prog 6 (Go.Proofs.Try.f71.body.getD .skip) x_nanS2 = true := by kernel_rfl
theorem rs_nanS2 : okRs Go.Proofs.Try.prog Go.Proofs.Try.f71.results.toList [.tmp 2] = true := by kernel_rfl
theorem call_nanS2 : okCallee Go.Proofs.Try.prog 71 = true := by kernel_rfl
def x_BinS : X := (.seq (.reg [⟨some 4, none, .mv (.k (.c (.int .i64 0)))⟩, ⟨some 5, none, .mv (.k (.c (.bool false)))⟩] none [0, 1]) (.seq (.reg [⟨some 10, none, .mv (.t 0)⟩, ⟨some 11, none, .len (.t 10) false⟩, ⟨some 6, none, .mv (.t 11)⟩] none [0, 1, 6]) (.seq (.reg [⟨some 12, none, .mv (.t 6)⟩, ⟨some 7, none, .mv (.k (.c (.int .i64 0)))⟩, ⟨some 8, none, .mv (.t 12)⟩] none [0, 1, 6, 7, 8]) (.seq (.block 0 (.loop (.seq (.seq (.reg [⟨some 13, none, .mv (.t 7)⟩, ⟨some 14, none, .mv (.t 8)⟩, ⟨some 15, none, .bin false .lss (.t 13) (.t 14)⟩] none [0, 1, 6, 7, 8, 15]) (.cond (.t 15) .skip (.exit 0))) (.block 1 (.seq (.reg [⟨some 16, none, .mv (.t 7)⟩, ⟨some 17, none, .mv (.t 8)⟩, ⟨some 18, none, .bin false .add (.t 16) (.t 17)⟩, ⟨some 19, none, .conv .u64 (.t 18)⟩, ⟨some 20, none, .bin false .shr (.t 19) (.k (.c (.int .u64 1)))⟩, ⟨some 21, none, .conv .i64 (.t 20)⟩, ⟨some 9, none, .mv (.t 21)⟩] none [0, 1, 6, 7, 8, 9]) (.seq (.reg [⟨some 22, none, .mv (.t 0)⟩, ⟨some 23, none, .mv (.t 9)⟩, ⟨some 24, none, .ia (.t 22) (.t 23) 1⟩, ⟨some 25, none, .load (.t 24) none⟩, ⟨some 26, none, .mv (.t 1)⟩, ⟨some 27, none, .call 70 [(.t 25), (.t 26)]⟩] none [0, 1, 6, 7, 8, 9, 27]) (.cond (.t 27) (.reg [⟨some 28, none, .mv (.t 9)⟩, ⟨some 29, none, .bin false .add (.t 28) (.k (.c (.int .i64 1)))⟩, ⟨some 7, none, .mv (.t 29)⟩] none [0, 1, 6, 7, 8]) (.reg [⟨some 30, none, .mv (.t 9)⟩, ⟨some 8, none, .mv (.t 30)⟩] none [0, 1, 6, 7, 8])))))))) (.seq (.reg [⟨some 31, none, .mv (.t 7)⟩, ⟨some 32, none, .mv (.t 7)⟩, ⟨some 33, none, .mv (.t 6)⟩, ⟨some 34, none, .bin false .lss (.t 32) (.t 33)⟩, ⟨some 35, none, .mv (.t 34)⟩, ⟨some 36, some (35, true), .mv (.t 0)⟩, ⟨some 37, some (35, true), .mv (.t 7)⟩, ⟨some 38, some (35, true), .ia (.t 36) (.t 37) 1⟩, ⟨some 39, some (35, true), .load (.t 38) none⟩, ⟨some 40, some (35, true), .mv (.t 1)⟩, ⟨some 41, some (35, true), .bin false .eql (.t 39) (.t 40)⟩, ⟨some 42, some (35, true), .mv (.t 41)⟩, ⟨some 43, some (42, false), .mv (.t 0)⟩, ⟨some 44, some (42, false), .mv (.t 7)⟩, ⟨some 45, some (42, false), .ia (.t 43) (.t 44) 1⟩, ⟨some 46, some (42, false), .load (.t 45) none⟩, ⟨some 47, some (42, false), .call 71 [(.t 46)]⟩, ⟨some 48, some (42, false), .mv (.t 47)⟩, ⟨some 49, some (48, true), .mv (.t 1)⟩, ⟨some 50, some (48, true), .call 71 [(.t 49)]⟩, ⟨some 51, some (42, false), .pick (.t 48) (.t 50) (.k (.c (.bool false)))⟩, ⟨some 52, some (35, true), .pick (.t 42) (.k (.c (.bool true))) (.t 51)⟩, ⟨some 53, none, .pick (.t 35) (.t 52) (.k (.c (.bool false)))⟩, ⟨some 4, none, .mv (.t 31)⟩, ⟨some 5, none, .mv (.t 53)⟩] none [4, 5]) .ret)))))
theorem chk_BinS : chkX Go.Proofs.Try.prog 54 (Go.Proofs.Try.f67.body.getD .skip) x_BinS = true := by kernel_rfl
theorem rs_BinS : okRs Go.Proofs.Try.prog Go.Proofs.Try.f67.results.toList [.tmp 4, .tmp 5] = true := by kernel_rfl
theorem call_BinS : okCallee Go.Proofs.Try.prog 67 = true := by kernel_rfl
def x_put : X := (.seq (.reg [⟨some 3, none, .box (.t 0) (some 5)⟩, ⟨some 5, none, .box (.t 2) (some 5)⟩, ⟨some 6, none, .alloc [(.c (.int .i64 0)), (.c (.int .i64 0)), (.c (.str ⟨#[]⟩)), (.z 1), (.z 5)]⟩] none [1, 3, 5, 6]) (.seq (.mix [⟨some 10, none, .fa (.t 3) 3⟩, ⟨some 11, none, .load (.t 10) none⟩, ⟨some 12, none, .callo 66 [(.t 11)]⟩, ⟨some 13, none, .fa (.t 3) 4⟩, ⟨some 14, none, .load (.t 13) none⟩, ⟨some 15, none, .callo 60 [(.t 14)]⟩, ⟨some 16, none, .build [(.c (.int .i64 0)), (.c (.int .i64 0)), (.c (.str ⟨#[]⟩)), (.z 1), (.z 5)] [(0, (.k (.c (.int .i64 6))), none), (3, (.t 12), none), (4, (.t 15), none)]⟩, ⟨some 7, none, .alloc [(.c (.int .i64 0)), (.c (.int .i64 0)), (.c (.str ⟨#[]⟩)), (.z 1), (.z 5)]⟩] [⟨none, none, .st (.t 7) (.t 16) (some 5)⟩] [[], [], [], [2], [2], [], [], [0, 1, 2, 3, 4, 5, 6]] [1, 5, 6, 7]) (.seq (.reg [⟨some 18, none, .fa (.t 7) 3⟩, ⟨some 19, none, .load (.t 18) none⟩, ⟨some 20, none, .mv (.t 1)⟩, ⟨some 21, none, .callb 67 [(.t 19), (.t 20)]⟩, ⟨some 17, none, .mv (.t 21)⟩, ⟨some 22, none, .ext (.t 17) 0⟩, ⟨some 23, none, .ext (.t 17) 1⟩, ⟨some 8, none, .mv (.t 22)⟩, ⟨some 9, none, .mv (.t 23)⟩] none [1, 5, 6, 7, 8, 9]) (.seq (.seq (.reg [⟨some 24, none, .mv (.t 9)⟩] none [1, 5, 6, 7, 8, 24]) (.cond (.t 24) (.seq (.reg [⟨some 25, none, .fa (.t 7) 4⟩, ⟨some 26, none, .load (.t 25) none⟩, ⟨some 27, none, .mv (.t 8)⟩, ⟨some 28, none, .load (.t 5) (some 5)⟩, ⟨some 29, none, .ia (.t 26) (.t 27) 5⟩, ⟨none, none, .st (.t 29) (.t 28) (some 5)⟩] none [6, 7]) (.seq (.reg [⟨some 30, none, .load (.t 7) (some 5)⟩, ⟨none, none, .st (.t 6) (.t 30) (some 5)⟩] none [6]) .ret)) .skip)) (.seq (.reg [⟨some 31, none, .fa (.t 7) 3⟩, ⟨some 32, none, .load (.t 31) none⟩, ⟨some 33, none, .mv (.t 8)⟩, ⟨some 34, none, .mv (.t 1)⟩, ⟨some 35, none, .bsl 1 [((.t 34), none)]⟩, ⟨some 36, none, .call 68 [(.t 32), (.t 33), (.t 35)]⟩, ⟨some 37, none, .fa (.t 7) 3⟩, ⟨none, none, .st (.t 37) (.t 36) none⟩] none [5, 6, 7, 8]) (.seq (.reg [⟨some 38, none, .fa (.t 7) 4⟩, ⟨some 39, none, .load (.t 38) none⟩, ⟨some 40, none, .mv (.t 8)⟩, ⟨some 41, none, .load (.t 5) (some 5)⟩, ⟨some 42, none, .bsl 5 [((.t 41), (some 5))]⟩, ⟨some 43, none, .call 69 [(.t 39), (.t 40), (.t 42)]⟩, ⟨some 44, none, .fa (.t 7) 4⟩, ⟨none, none, .st (.t 44) (.t 43) none⟩] none [6, 7]) (.seq (.reg [⟨some 45, none, .load (.t 7) (some 5)⟩, ⟨none, none, .st (.t 6) (.t 45) (some 5)⟩] none [6]) .ret)))))))
theorem chk_put : chkX Go.Proofs.Try.prog 46 (Go.Proofs.Try.f59.body.getD .skip) x_put = true := by kernel_rfl
theorem rs_put : okRs Go.Proofs.Try.prog Go.Proofs.Try.f59.results.toList [.cell 6 (some 5)] = true := by kernel_rfl
theorem call_put : okCallee Go.Proofs.Try.prog 59 = true := by kernel_rfl
noncomputable def spCloneS  : Spec := Spec.of (ι := (List ByteArray)) [false] (fun i => [.d (.one (.row 1 (strs i)))]) (fun i => lenB 1000000 i.length) (fun i => [.own 1 (strs i)]) (fun _ => [.gone])
theorem spCloneS_inj : ∀ i j : (List ByteArray), (fun (i : (List ByteArray)) => ([.d (.one (.row 1 (strs i)))] : List AV)) i = (fun (i : (List ByteArray)) => ([.d (.one (.row 1 (strs i)))] : List AV)) j → i = j := by
  intro l l' h
  simpa [strs_eq, T.enc_eq, encL_eq, F.enc_eq, encF_eq, Tk.enc_eq, encTk_eq, Gn.enc_eq, ints_eq, Int.natCast_inj] using h
theorem spCloneS_md  : (spCloneS).md = [false] := rfl
theorem spCloneS_pre  (l : List ByteArray) : (spCloneS).pre [.d (.one (.row 1 (strs l)))] = (lenB 1000000 l.length) := Spec.of_pre' spCloneS_inj l
theorem spCloneS_alts  : (spCloneS).alts = none := rfl
theorem spCloneS_res  (l : List ByteArray) : (spCloneS).res [.d (.one (.row 1 (strs l)))] = [.own 1 (strs l)] := Spec.of_res spCloneS_inj l
theorem spCloneS_out  (l : List ByteArray) : (spCloneS).out [.d (.one (.row 1 (strs l)))] = [.gone] := Spec.of_out spCloneS_inj l
theorem CloneS_sound : Sound Go.Proofs.Try.prog 66 spCloneS := by
  refine sound_fam GOK.nil Go.Proofs.Try.func66 (c := Go.Proofs.Try.f66.body.getD .skip) rfl (n := 8) rfl chk_CloneS rs_CloneS (fun _ => by simp) ?_ ?_
  · exact spCloneS_inj
  · intro l h1
    simp only [lenB] at h1
    simp only [x_CloneS, rg, go_sem, seval, strs_len]
    repeat' (first | with_reducible assumption | with_reducible refine And.intro ?_ ?_ | intro _)
    all_goals first | omega | skip
    rename_i h
    have : l = [] := by cases l <;> simp_all [strs]
    rw [this]; rfl
noncomputable def spNanS2  : Spec := Spec.of (ι := C) [false] (fun i => [.d (.one i)]) (fun i => ∃ a, i = .str a) (fun _ => [.d (.one (.bool false))]) (fun _ => [.gone])
theorem spNanS2_inj : ∀ i j : C, (fun (i : C) => ([.d (.one i)] : List AV)) i = (fun (i : C) => ([.d (.one i)] : List AV)) j → i = j := by
  intro c c' h
  simpa [strs_eq, T.enc_eq, encL_eq, F.enc_eq, encF_eq, Tk.enc_eq, encTk_eq, Gn.enc_eq, ints_eq, Int.natCast_inj] using h
theorem spNanS2_md  : (spNanS2).md = [false] := rfl
theorem spNanS2_pre  (c : C) : (spNanS2).pre [.d (.one c)] = (∃ a, c = .str a) := Spec.of_pre' spNanS2_inj c
theorem spNanS2_alts  : (spNanS2).alts = none := rfl
theorem spNanS2_res  (c : C) : (spNanS2).res [.d (.one c)] = [.d (.one (.bool false))] := Spec.of_res spNanS2_inj c
theorem spNanS2_out  (c : C) : (spNanS2).out [.d (.one c)] = [.gone] := Spec.of_out spNanS2_inj c
theorem nanS2_sound : Sound Go.Proofs.Try.prog 71 spNanS2 := by
  refine sound_fam GOK.nil Go.Proofs.Try.func71 (c := Go.Proofs.Try.f71.body.getD .skip) rfl (n := 6) rfl chk_nanS2 rs_nanS2 (fun _ => by simp) ?_ ?_
  · exact spNanS2_inj
  · rintro c ⟨a, rfl⟩
    simp only [x_nanS2, rg, go_sem, seval]
    repeat' (first | with_reducible assumption | with_reducible refine And.intro ?_ ?_ | intro _)
    all_goals first | omega | skip
noncomputable def spLessS  : Spec := Spec.of (ι := ByteArray × ByteArray) [false, false] (fun i => [.d (.one (.str i.1)), .d (.one (.str i.2))]) (fun _ => True) (fun i => [.d (.one (.bool (decide (sl i.1 i.2))))]) (fun _ => [.gone, .gone])
theorem spLessS_inj : ∀ i j : ByteArray × ByteArray, (fun (i : ByteArray × ByteArray) => ([.d (.one (.str i.1)), .d (.one (.str i.2))] : List AV)) i = (fun (i : ByteArray × ByteArray) => ([.d (.one (.str i.1)), .d (.one (.str i.2))] : List AV)) j → i = j := by
  rintro ⟨a, b⟩ ⟨a', b'⟩ h
  simp only [Prod.mk.injEq]
  simpa [strs_eq, T.enc_eq, encL_eq, F.enc_eq, encF_eq, Tk.enc_eq, encTk_eq, Gn.enc_eq, ints_eq, Int.natCast_inj] using h
theorem spLessS_md  : (spLessS).md = [false, false] := rfl
theorem spLessS_pre  (a : ByteArray) (b : ByteArray) : (spLessS).pre [.d (.one (.str a)), .d (.one (.str b))] = (True) := Spec.of_pre' spLessS_inj (a, b)
theorem spLessS_alts  : (spLessS).alts = none := rfl
theorem spLessS_res  (a : ByteArray) (b : ByteArray) : (spLessS).res [.d (.one (.str a)), .d (.one (.str b))] = [.d (.one (.bool (decide (sl a b))))] := Spec.of_res spLessS_inj (a, b)
theorem spLessS_out  (a : ByteArray) (b : ByteArray) : (spLessS).out [.d (.one (.str a)), .d (.one (.str b))] = [.gone, .gone] := Spec.of_out spLessS_inj (a, b)
theorem lessS_sound : Sound Go.Proofs.Try.prog 70 spLessS := by
  refine sound_fam (GOK.cons (l := []) call_nanS nanS_sound GOK.nil) Go.Proofs.Try.func70 (c := Go.Proofs.Try.f70.body.getD .skip) rfl (n := 17) rfl chk_lessS rs_lessS (fun _ => by simp) ?_ ?_
  · exact spLessS_inj
  · rintro ⟨a, b⟩ _
    simp only [x_lessS, rg, go_sem, seval, spNanS_md, spNanS_pre, spNanS_alts, spNanS_res, spNanS_out]
    repeat' (first | with_reducible assumption | with_reducible refine And.intro ?_ ?_ | intro _)
    all_goals first | omega | skip
open Classical in
noncomputable def spBinS  : Spec := Spec.of (ι := (List ByteArray) × ByteArray) [false, false] (fun i => [.d (.one (.row 1 (strs i.1))), .d (.one (.str i.2))]) (fun i => Asc i.1 ∧ lenB 1000000 i.1.length) (fun i => [.d (.one (.int .i64 (posS i.2 i.1))), .d (.one (.bool (decide (i.1[posS i.2 i.1]? = some i.2))))]) (fun _ => [.gone, .gone])
theorem spBinS_inj : ∀ i j : (List ByteArray) × ByteArray, (fun (i : (List ByteArray) × ByteArray) => ([.d (.one (.row 1 (strs i.1))), .d (.one (.str i.2))] : List AV)) i = (fun (i : (List ByteArray) × ByteArray) => ([.d (.one (.row 1 (strs i.1))), .d (.one (.str i.2))] : List AV)) j → i = j := by
  rintro ⟨ks, key⟩ ⟨ks', key'⟩ h
  simp only [Prod.mk.injEq]
  simpa [strs_eq, T.enc_eq, encL_eq, F.enc_eq, encF_eq, Tk.enc_eq, encTk_eq, Gn.enc_eq, ints_eq, Int.natCast_inj] using h
theorem spBinS_md  : (spBinS).md = [false, false] := rfl
theorem spBinS_pre  (ks : List ByteArray) (key : ByteArray) : (spBinS).pre [.d (.one (.row 1 (strs ks))), .d (.one (.str key))] = (Asc ks ∧ lenB 1000000 ks.length) := Spec.of_pre' spBinS_inj (ks, key)
theorem spBinS_alts  : (spBinS).alts = none := rfl
theorem spBinS_res  (ks : List ByteArray) (key : ByteArray) : (spBinS).res [.d (.one (.row 1 (strs ks))), .d (.one (.str key))] = [.d (.one (.int .i64 (posS key ks))), .d (.one (.bool (decide (ks[posS key ks]? = some key))))] := Spec.of_res spBinS_inj (ks, key)
theorem spBinS_out  (ks : List ByteArray) (key : ByteArray) : (spBinS).out [.d (.one (.row 1 (strs ks))), .d (.one (.str key))] = [.gone, .gone] := Spec.of_out spBinS_inj (ks, key)
theorem BinS_sound : Sound Go.Proofs.Try.prog 67 spBinS := by
  refine sound_fam (GOK.cons (l := [(71, spNanS2)]) call_lessS lessS_sound (GOK.cons call_nanS2 nanS2_sound GOK.nil)) Go.Proofs.Try.func67 (c := Go.Proofs.Try.f67.body.getD .skip) rfl (n := 54) rfl chk_BinS rs_BinS (fun _ => by simp) ?_ ?_
  · exact spBinS_inj
  · rintro ⟨ks, key⟩ ⟨ha, h1⟩
    simp only [lenB] at h1
    simp only at ha
    have hp := posS_le key ks
    simp only [x_BinS, rg, go_sem, seval, Prod.fst, strs_len]
    repeat' (first | with_reducible assumption | with_reducible refine And.intro ?_ ?_ | intro _)
    all_goals first | (show _ ≤ (_ : Int); omega) | (show _ < (_ : Int); omega) | skip
    refine pw_loop (ι := Nat × Nat) (fun i => i.2 - i.1) (fun i => i.1 ≤ posS key ks ∧ posS key ks ≤ i.2 ∧ i.2 ≤ ks.length)
      (fun i => ⟨[(0, .q (.c (.row 1 (strs ks)))), (1, .q (.c (.str key))), (6, .q (.c (.int .i64 ks.length))), (7, .q (.c (.int .i64 i.1))), (8, .q (.c (.int .i64 i.2)))], [], []⟩) (0, ks.length) ⟨Nat.zero_le _, hp, Nat.le_refl _⟩ (Le.refl _) ?_
    rintro ⟨i, j⟩ ⟨g1, g2, g3⟩
    simp only at g1 g2 g3
    rcases Nat.lt_or_ge i j with hlt | hge
    · obtain ⟨h, hh⟩ : ∃ h : Nat, h = (i + j) / 2 := ⟨_, rfl⟩
      obtain ⟨y, hy, _, _⟩ := drop_at (l := ks) (i := h) (by omega)
      have b1 : ((i : Int) < (j : Int)) = True := eq_true (by omega)
      have b2 : ((i : Int) + j) / 2 = (h : Int) := by omega
      have a1 := strs_at hy
      simp only [rg, go_sem, seval, Prod.fst, b1, b2, a1, strs_len, spLessS_md, spLessS_pre, spLessS_alts, spLessS_res, spLessS_out]
      repeat' (first | with_reducible assumption | with_reducible refine And.intro ?_ ?_ | intro _)
      all_goals first | (show _ ≤ (_ : Int); omega) | (show _ < (_ : Int); omega) | (show False; omega) | skip
      · have hs := (posS_lt ha hy).1 (by assumption)
        exact ⟨(h + 1, j), ⟨by show h + 1 ≤ _; omega, g2, g3⟩, by show j - (h + 1) < j - i; omega, Le.refl _⟩
      · have hs : ¬ h < posS key ks := fun k => absurd ((posS_lt ha hy).2 k) (by assumption)
        exact ⟨(i, h), ⟨g1, by show posS key ks ≤ h; omega, by show h ≤ _; omega⟩, by show h - i < j - i; omega, Le.refl _⟩
    · have b1 : ((i : Int) < (j : Int)) = False := eq_false (by omega)
      obtain rfl : i = posS key ks := by omega
      rcases Nat.lt_or_ge (posS key ks) ks.length with hlt | hge'
      · obtain ⟨y, hy, _, _⟩ := drop_at hlt
        have a1 := strs_at hy
        have b2 : ((posS key ks : Int) < (ks.length : Int)) = True := eq_true (by omega)
        by_cases c : y = key
        · have e : (ks[posS key ks]? = some key) = True := eq_true (by rw [hy, c])
          simp only [rg, go_sem, seval, Prod.fst, b1, b2, a1, c, e, strs_len, spNanS2_md, spNanS2_pre, spNanS2_alts, spNanS2_res, spNanS2_out]
          repeat' (first | with_reducible assumption | with_reducible refine And.intro ?_ ?_ | intro _)
          all_goals first | (show _ ≤ (_ : Int); omega) | (show _ < (_ : Int); omega) | (show False; omega) | skip
        · have e : (ks[posS key ks]? = some key) = False := eq_false (by rw [hy]; intro h; exact c (Option.some.inj h))
          simp only [rg, go_sem, seval, Prod.fst, b1, b2, a1, c, e, strs_len, spNanS2_md, spNanS2_pre, spNanS2_alts, spNanS2_res, spNanS2_out]
          repeat' (first | with_reducible assumption | with_reducible refine And.intro ?_ ?_ | intro _)
          all_goals first | (show _ ≤ (_ : Int); omega) | (show _ < (_ : Int); omega) | (show False; omega) | exact ⟨_, rfl⟩ | skip
      · have b2 : ((posS key ks : Int) < (ks.length : Int)) = False := eq_false (by omega)
        have a1 : (strs ks).getD (posS key ks) [] = [] := by rw [List.getD_eq_getElem?_getD, List.getElem?_eq_none (by rw [strs_len]; exact hge')]; rfl
        have e : (ks[posS key ks]? = some key) = False := eq_false (by rw [List.getElem?_eq_none hge']; simp)
        simp only [rg, go_sem, seval, Prod.fst, b1, b2, a1, e, strs_len, spNanS2_md, spNanS2_pre, spNanS2_alts, spNanS2_res, spNanS2_out]
        repeat' (first | with_reducible assumption | with_reducible refine And.intro ?_ ?_ | intro _)
        all_goals first | (show _ ≤ (_ : Int); omega) | (show _ < (_ : Int); omega) | (show False; omega) | skip
noncomputable def spPut  : Spec := Spec.of (ι := T × ByteArray × T) [false, false, false] (fun i => [.d (.agg i.1.enc), .d (.one (.str i.2.1)), .d (.agg i.2.2.enc)]) (fun i => Asc i.1.keys ∧ lenB 1000000 i.1.keys.length ∧ i.1.keys.length = i.1.list.length) (fun i => [.d (.agg (putT i.1 i.2.1 i.2.2).enc)]) (fun _ => [.gone, .gone, .gone])
theorem spPut_inj : ∀ i j : T × ByteArray × T, (fun (i : T × ByteArray × T) => ([.d (.agg i.1.enc), .d (.one (.str i.2.1)), .d (.agg i.2.2.enc)] : List AV)) i = (fun (i : T × ByteArray × T) => ([.d (.agg i.1.enc), .d (.one (.str i.2.1)), .d (.agg i.2.2.enc)] : List AV)) j → i = j := by
  rintro ⟨v, key, x⟩ ⟨v', key', x'⟩ h
  simp only [Prod.mk.injEq]
  simpa [strs_eq, T.enc_eq, encL_eq, F.enc_eq, encF_eq, Tk.enc_eq, encTk_eq, Gn.enc_eq, ints_eq, Int.natCast_inj] using h
theorem spPut_md  : (spPut).md = [false, false, false] := rfl
theorem spPut_pre  (v : T) (key : ByteArray) (x : T) : (spPut).pre [.d (.agg v.enc), .d (.one (.str key)), .d (.agg x.enc)] = (Asc v.keys ∧ lenB 1000000 v.keys.length ∧ v.keys.length = v.list.length) := Spec.of_pre' spPut_inj (v, key, x)
theorem spPut_alts  : (spPut).alts = none := rfl
theorem spPut_res  (v : T) (key : ByteArray) (x : T) : (spPut).res [.d (.agg v.enc), .d (.one (.str key)), .d (.agg x.enc)] = [.d (.agg (putT v key x).enc)] := Spec.of_res spPut_inj (v, key, x)
theorem spPut_out  (v : T) (key : ByteArray) (x : T) : (spPut).out [.d (.agg v.enc), .d (.one (.str key)), .d (.agg x.enc)] = [.gone, .gone, .gone] := Spec.of_out spPut_inj (v, key, x)
set_option maxHeartbeats 4000000 in
theorem put_sound : Sound Go.Proofs.Try.prog 59 spPut := by
  refine sound_fam (GOK.cons (l := [(60, spCloneV), (67, spBinS), (68, spInsS), (69, spInsV)]) call_CloneS CloneS_sound (GOK.cons call_CloneV CloneV_sound (GOK.cons call_BinS BinS_sound (GOK.cons call_InsS InsS_sound (GOK.cons call_InsV InsV_sound GOK.nil))))) Go.Proofs.Try.func59 (c := Go.Proofs.Try.f59.body.getD .skip) rfl (n := 46) rfl chk_put rs_put (fun _ => by simp) ?_ ?_
  · exact spPut_inj
  · rintro ⟨v, key, x⟩ ⟨ha, h1, h2⟩
    obtain ⟨k, n, s, ks, l⟩ := v
    simp only [T.keys, T.list, lenB] at ha h1 h2
    have fx := T.enc_len x
    have hp := posS_le key ks
    have ha' : Asc ks = True := eq_true ha
    by_cases c : ks[posS key ks]? = some key
    · have hlt : posS key ks < l.length := by have := (List.getElem?_eq_some_iff.1 c).1; omega
      have c' : (ks[posS key ks]? = some key) = True := eq_true c
      have hx := List.getElem?_eq_getElem hlt
      have a1 := encL_at hx
      have f1 := T.enc_drop5 l[posS key ks]
      have e : putT (T.mk k n s ks l) key x = .mk 6 0 ⟨#[]⟩ ks (l.set (posS key ks) x) := by
        simp only [putT, T.keys, T.list, putS_in ha h2 c]
      simp only [x_put, rg, go_sem, seval, Prod.fst, e, ha', c', a1, f1, T.enc, fx, strs_len, List.append_nil, encL_set, spCloneS_md, spCloneS_pre, spCloneS_alts, spCloneS_res, spCloneS_out, spCloneV_md, spCloneV_pre, spCloneV_alts, spCloneV_res, spCloneV_out, spBinS_md, spBinS_pre, spBinS_alts, spBinS_res, spBinS_out]
      repeat' (first | with_reducible assumption | with_reducible refine And.intro ?_ ?_ | intro _)
      all_goals first | (show _ ≤ (_ : Int); omega) | (show _ < (_ : Int); omega) | (show _ < (_ : Nat); omega) | assumption | skip
    · have c' : (ks[posS key ks]? = some key) = False := eq_false c
      have e : putT (T.mk k n s ks l) key x = .mk 6 0 ⟨#[]⟩ (ks.take (posS key ks) ++ key :: ks.drop (posS key ks)) (l.take (posS key ks) ++ x :: l.drop (posS key ks)) := by
        simp only [putT, T.keys, T.list, putS_new ha h2 c]
      have k1 : [[C.str key]] = strs [key] := rfl
      simp only [x_put, rg, go_sem, seval, Prod.fst, e, ha', c', T.enc, fx, k1, encL_one, strs_len, spCloneS_md, spCloneS_pre, spCloneS_alts, spCloneS_res, spCloneS_out, spCloneV_md, spCloneV_pre, spCloneV_alts, spCloneV_res, spCloneV_out, spBinS_md, spBinS_pre, spBinS_alts, spBinS_res, spBinS_out, spInsS_md, spInsS_pre, spInsS_alts, spInsS_res, spInsS_out, spInsV_md, spInsV_pre, spInsV_alts, spInsV_res, spInsV_out]
      repeat' (first | with_reducible assumption | with_reducible refine And.intro ?_ ?_ | intro _)
      all_goals first | (show _ ≤ (_ : Int); omega) | (show _ < (_ : Int); omega) | (show _ < (_ : Nat); omega) | (show _ ≤ (_ : Nat); omega) | assumption | skip
end Go.Proofs.Pw
/- Trees added. -/
namespace Go.Proofs.Pw
set_option linter.unusedSectionVars false
variable [Globs]
/-- Keys and trees put one behind the other. -/
noncomputable def foldP : List ByteArray → List T → List ByteArray × List T → List ByteArray × List T
  | k :: ks, t :: l, p => foldP ks l (putS k t false p.1 p.2)
  | _, _, p => p
/-- What is kept while keys and trees are put. -/
structure Good (B : Nat) (z : Int) (p : List ByteArray × List T) : Prop where
  asc : Asc p.1
  len : p.1.length = p.2.length
  few : p.1.length ≤ B
  ks : ∀ s ∈ p.1, (s.size : Int) ≤ 60
  fit : fitL 60 p.2
  size : sizeL p.2 ≤ z
theorem fitL_iff {B : Int} {l : List T} : fitL B l ↔ ∀ t ∈ l, t.fit B := ⟨fun h t ht => fitL_in h t ht, fitL_of⟩
theorem Good.put {B : Nat} {z : Int} {p : List ByteArray × List T} (h : Good B z p) {k : ByteArray} {t : T} (hk : (k.size : Int) ≤ 60) (ht : t.fit 60) : Good (B + 1) (z + sizeT t) (putS k t false p.1 p.2) := by
  have h1 := (putS_len k t false p.1 p.2).1
  have h2 := putS_mem k t false p.1 p.2
  have h3 := putS_size k t false p.1 p.2
  have h4 := h.few
  have h5 := h.size
  refine ⟨putS_asc h.asc h.len, putS_len2 h.asc h.len, by simp at h1; omega, fun s hs => ?_, fitL_iff.2 fun x hx => ?_, by simp at h3; omega⟩
  · rcases h2.1 s hs with rfl | h6
    · exact hk
    · exact h.ks s h6
  · rcases h2.2 x hx with rfl | h6
    · exact ht
    · exact fitL_in h.fit x h6
/-- A map that is ok. -/
theorem okT_map {k n : Int} {s : ByteArray} {ks : List ByteArray} {l : List T} (h : okT (.mk k n s ks l)) (hk : k = 6) : n = 0 ∧ s = ⟨#[]⟩ ∧ ks.length = l.length ∧ okKeys ks := by
  have h1 := h.1
  simp only [formT] at h1
  obtain ⟨h1, h2, h3, h4, h5, h6, h7, h8, h9, h10, h11, h12⟩ := h1
  exact ⟨by omega, h3.resolve_left (by omega), h11 hk⟩
theorem good_map {k n : Int} {s : ByteArray} {ks : List ByteArray} {l : List T} (h : okT (.mk k n s ks l)) (hk : k = 6) : Good 60 60 (ks, l) := by
  obtain ⟨h1, h2, h3, h4⟩ := okT_map h hk
  have h5 := okT_fit h
  simp only [T.fit] at h5
  obtain ⟨_, _, _, h6, h7, h8⟩ := h5
  have h9 := okT_size h
  simp only [sizeT] at h9
  exact ⟨okKeys_asc h4, h3, by have := h6.1; unfold lenB at this; show ks.length ≤ 60; omega, h6.2, h8, by show sizeL l ≤ 60; omega⟩
/-- Two trees that are ok, added: whatever comes of it. -/
noncomputable def addRaw : T → T → Option T
  | .mk k n s ks l, .mk k' n' s' ks' l' =>
    if k = 0 then some (.mk k' n' s' ks' l') else if k' = 0 then some (.mk k n s ks l) else if k ≠ k' then none
    else if k = 3 then some (.mk 3 (n + n') ⟨#[]⟩ [] []) else if k = 4 then some (.mk 4 0 (s ++ s') [] [])
    else if k = 5 then some (.mk 5 0 ⟨#[]⟩ [] (l ++ l')) else if k = 6 then some (.mk 6 0 ⟨#[]⟩ (foldP ks' l' (ks, l)).1 (foldP ks' l' (ks, l)).2) else none
def addOk (a b : T) : Prop := okT a ∧ okT b ∧ ∃ t, addRaw a b = some t ∧ okT t
noncomputable instance (a b : T) : Decidable (addOk a b) := Classical.propDecidable _
end Go.Proofs.Pw
/- Trees added: both programs. -/
set_option linter.unusedSimpArgs false
set_option maxRecDepth 20000
namespace Go.Proofs.Pw
set_option linter.unusedSectionVars false
variable [Globs]
end Go.Proofs.Pw
/- Trees in new memory that nobody else holds. -/
set_option linter.unusedSimpArgs false
set_option maxRecDepth 20000
namespace Go.Proofs.Pw
set_option linter.unusedSectionVars false
variable [Globs]
def x_cloneX : X := (.seq (.reg [⟨some 1, none, .box (.t 0) (some 5)⟩, ⟨some 2, none, .alloc [(.c (.int .i64 0)), (.c (.int .i64 0)), (.c (.str ⟨#[]⟩)), (.z 1), (.z 5)]⟩] none [1, 2]) (.seq (.reg [⟨some 6, none, .bsl 1 []⟩, ⟨some 7, none, .fa (.t 1) 3⟩, ⟨some 8, none, .load (.t 7) none⟩, ⟨some 9, none, .app (.t 6) (.t 8) 1 16 []⟩, ⟨some 10, none, .fa (.t 1) 3⟩, ⟨none, none, .st (.t 10) (.t 9) none⟩] none [1, 2]) (.seq (.reg [⟨some 11, none, .bsl 5 []⟩, ⟨some 3, none, .mv (.t 11)⟩] none [1, 2, 3]) (.seq (.seq (.reg [⟨some 12, none, .fa (.t 1) 4⟩, ⟨some 13, none, .load (.t 12) none⟩, ⟨some 14, none, .len (.t 13) false⟩, ⟨some 15, none, .mv (.k (.c (.int .i64 0)))⟩] none [1, 2, 3, 13, 14, 15]) (.block 0 (.loop (.seq (.reg [⟨some 16, none, .bin false .lss (.t 15) (.t 14)⟩] none [1, 2, 3, 13, 14, 15, 16]) (.seq (.cond (.t 16) .skip (.exit 0)) (.seq (.block 1 (.seq (.reg [⟨some 17, none, .ia (.t 13) (.t 15) 5⟩, ⟨some 18, none, .load (.t 17) (some 5)⟩, ⟨some 5, none, .alloc [(.c (.int .i64 0)), (.c (.int .i64 0)), (.c (.str ⟨#[]⟩)), (.z 1), (.z 5)]⟩, ⟨none, none, .st (.t 5) (.t 18) (some 5)⟩] none [1, 2, 3, 5, 13, 14, 15]) (.reg [⟨some 19, none, .mv (.t 3)⟩, ⟨some 20, none, .load (.t 5) (some 5)⟩, ⟨some 21, none, .call 47 [(.t 20)]⟩, ⟨some 22, none, .bslx 5 [((.t 21), (some 5))]⟩, ⟨some 23, none, .appx (.t 19) (.t 22) 5 80⟩, ⟨some 3, none, .mv (.t 23)⟩] none [1, 2, 3, 13, 14, 15]))) (.reg [⟨some 24, none, .bin false .add (.t 15) (.k (.c (.int .i64 1)))⟩, ⟨some 15, none, .mv (.t 24)⟩] none [1, 2, 3, 13, 14, 15]))))))) (.seq (.reg [⟨some 25, none, .mv (.t 3)⟩, ⟨some 26, none, .fa (.t 1) 4⟩, ⟨none, none, .st (.t 26) (.t 25) none⟩] none [1, 2]) (.seq (.reg [⟨some 27, none, .load (.t 1) (some 5)⟩, ⟨none, none, .st (.t 2) (.t 27) (some 5)⟩] none [2]) .ret))))))
theorem chk_cloneX : chkX Go.Proofs.Try.prog 28 (Go.Proofs.Try.f47.body.getD .skip) x_cloneX = true := by kernel_rfl
theorem rs_cloneX : okRs Go.Proofs.Try.prog Go.Proofs.Try.f47.results.toList [.cell 2 (some 5)] = true := by kernel_rfl
theorem call_cloneX : okCallee Go.Proofs.Try.prog 47 = true := by kernel_rfl
noncomputable def spCloneX (k:Nat) : Spec := Spec.of (ι := T) [false] (fun i => [.d (.agg i.enc)]) (fun i => (i.fit 2000000) ∧ SizeOf.sizeOf i < k) (fun i => [.ag (agX i)]) (fun _ => [.gone])
theorem spCloneX_inj : ∀ i j : T, (fun (i : T) => ([.d (.agg i.enc)] : List AV)) i = (fun (i : T) => ([.d (.agg i.enc)] : List AV)) j → i = j := by
  intro t t' h
  simpa [strs_eq, T.enc_eq, encL_eq, F.enc_eq, encF_eq, Tk.enc_eq, encTk_eq, Gn.enc_eq, ints_eq] using h
theorem spCloneX_md (k:Nat) : (spCloneX k).md = [false] := rfl
theorem spCloneX_pre (k:Nat) (t : T) : (spCloneX k).pre [.d (.agg t.enc)] = ((t.fit 2000000) ∧ SizeOf.sizeOf t < k) := Spec.of_pre' spCloneX_inj t
theorem spCloneX_alts (k:Nat) : (spCloneX k).alts = none := rfl
theorem spCloneX_res (k:Nat) (t : T) : (spCloneX k).res [.d (.agg t.enc)] = [.ag (agX t)] := Spec.of_res spCloneX_inj t
theorem spCloneX_out (k:Nat) (t : T) : (spCloneX k).out [.d (.agg t.enc)] = [.gone] := Spec.of_out spCloneX_inj t
set_option maxHeartbeats 1000000 in
theorem cloneX_sound (k : Nat) (hS : Sound Go.Proofs.Try.prog 47 (spCloneX k)) : Sound Go.Proofs.Try.prog 47 (spCloneX (k + 1)) := by
  refine sound_fam (GOK.cons call_cloneX hS GOK.nil) Go.Proofs.Try.func47 (c := Go.Proofs.Try.f47.body.getD .skip) rfl (n := 28) rfl chk_cloneX rs_cloneX (fun _ => by simp) ?_ ?_
  · exact spCloneX_inj
  · rintro t ⟨h1, h4⟩
    obtain ⟨kk, n, s, ks, l⟩ := t
    simp only [T.fit, lenB, strsFit] at h1
    obtain ⟨_, _, f1, ⟨f2, _⟩, f3, f4⟩ := h1
    have e3 : SizeOf.sizeOf l < k := by have e : SizeOf.sizeOf (T.mk kk n s ks l) < k + 1 := h4
                                        rw [T.mk.sizeOf_spec] at e; omega
    simp only [x_cloneX, T.enc, agX, go_sem, seval, Prod.fst, rg, strs_len, encL_len]
    repeat' (first | with_reducible assumption | with_reducible refine And.intro ?_ ?_ | intro _)
    all_goals first | omega | skip
    refine pw_loop (ι := Nat) (fun i => l.length - i) (fun i => i ≤ l.length)
      (fun i => ⟨[(1, .q (.box 1 0)), (2, .q (.box 2 0)), (3, .q (.own 23)), (13, .q (.c (.row 5 (encL l)))), (14, .q (.c (.int .i64 l.length))), (15, .q (.c (.int .i64 i)))],
        [(1, [.c (.int .i64 kk), .c (.int .i64 n), .c (.str s), .own 9, .c (.row 5 (encL l))]), (2, [.c (.int .i64 0), .c (.int .i64 0), .c (.str ⟨#[]⟩), .z 1, .z 5])], [(9, 1, strs ks), (23, 5, encLX (l.take i))]⟩) 0 (Nat.zero_le _) ?_ ?_
    · refine Le.own (t := 3) (d := 23) (sz := 5) (by decide) (by simp) (by simp [Q.killO]) ?_
      simp [PV.map, Q.killO]
    · intro i hi
      rcases Nat.lt_or_ge i l.length with hlt | hge
      · obtain ⟨t, ht, _, hmem⟩ := drop_at hlt
        have a1 := encL_at ht
        have a2 : ((i : Int) < (l.length : Int)) = True := by simp; omega
        have a3 := fitL_mem f4 t hmem
        have a4 := size_mem hmem
        have a6 := T.enc_len t
        have a7 : (l.take i).length = i := by simp; omega
        obtain ⟨k1, n1, s1, ks1, l1⟩ := t
        simp only [go_sem, seval, Prod.fst, rg, a1, a2, a6, a7, encL_len, spCloneX_md, spCloneX_pre, spCloneX_alts, spCloneX_res, spCloneX_out, agX]
        repeat' (first | with_reducible assumption | with_reducible refine And.intro ?_ ?_ | intro _)
        all_goals first | omega | assumption | skip
        refine ⟨i + 1, by omega, by omega, ?_⟩
        rw [encLX_take ht]
        exact Le.sub (by simp) (by simp) (by simp [T.encX])
      · have a2 : ((i : Int) < (l.length : Int)) = False := by simp; omega
        simp only [go_sem, seval, Prod.fst, rg, a2, List.take_of_length_le hge, Bool.false_or, Bool.or_true, Bool.not_true, Bool.false_eq_true]
theorem cloneX_all (k : Nat) : Sound Go.Proofs.Try.prog 47 (spCloneX k) := by
  induction k with
  | zero => exact Sound.none
  | succ k ih => exact cloneX_sound k ih
noncomputable def spCloneXT  : Spec := Spec.of (ι := T) [false] (fun i => [.d (.agg i.enc)]) (fun i => i.fit 2000000) (fun i => [.ag (agX i)]) (fun _ => [.gone])
theorem spCloneXT_inj : ∀ i j : T, (fun (i : T) => ([.d (.agg i.enc)] : List AV)) i = (fun (i : T) => ([.d (.agg i.enc)] : List AV)) j → i = j := by
  intro t t' h
  simpa [strs_eq, T.enc_eq, encL_eq, F.enc_eq, encF_eq, Tk.enc_eq, encTk_eq, Gn.enc_eq, ints_eq] using h
theorem spCloneXT_md  : (spCloneXT).md = [false] := rfl
theorem spCloneXT_pre  (t : T) : (spCloneXT).pre [.d (.agg t.enc)] = (t.fit 2000000) := Spec.of_pre' spCloneXT_inj t
theorem spCloneXT_alts  : (spCloneXT).alts = none := rfl
theorem spCloneXT_res  (t : T) : (spCloneXT).res [.d (.agg t.enc)] = [.ag (agX t)] := Spec.of_res spCloneXT_inj t
theorem spCloneXT_out  (t : T) : (spCloneXT).out [.d (.agg t.enc)] = [.gone] := Spec.of_out spCloneXT_inj t
theorem cloneXT_sound : Sound Go.Proofs.Try.prog 47 spCloneXT := Sound.all (μ := fun i => SizeOf.sizeOf i) cloneX_all
end Go.Proofs.Pw
/- What is told is nobody else's. -/
set_option linter.unusedSimpArgs false
set_option maxRecDepth 20000
namespace Go.Proofs.Pw
set_option linter.unusedSectionVars false
theorem agX_out (t : T) : agX t = [.c (.int .i64 t.kind), .c (.int .i64 t.n), .c (.str t.s), .o 1 (strs t.keys), .o 5 (encLX t.list)] := by cases t; rfl
theorem foldE (t : T) : DV.agg [C.int .i64 t.kind, C.int .i64 t.n, C.str t.s, C.row 1 (strs t.keys), C.row 5 (encL t.list)] = DV.agg t.enc := by cases t; rfl
theorem zk : T.zero.kind = 0 := rfl
theorem zn : T.zero.n = 0 := rfl
theorem zs : T.zero.s = ⟨#[]⟩ := rfl
theorem zks : T.zero.keys = [] := rfl
theorem zl : T.zero.list = [] := rfl
theorem strs_e : strs [] = [] := rfl
theorem encLX_e : encLX [] = [] := rfl
variable [Globs]
noncomputable def spToldX  : Spec := Spec.of (ι := T × Bool) [false, false] (fun i => [.d (.agg i.1.enc), .d (.one (.bool i.2))]) (fun i => i.1.fit 2000000) (fun i => [.ag (agX (toldT i.2 i.1)), .d (.one (.bool (decide (i.2 = true ∧ okT i.1))))]) (fun _ => [.gone, .gone])
theorem spToldX_inj : ∀ i j : T × Bool, (fun (i : T × Bool) => ([.d (.agg i.1.enc), .d (.one (.bool i.2))] : List AV)) i = (fun (i : T × Bool) => ([.d (.agg i.1.enc), .d (.one (.bool i.2))] : List AV)) j → i = j := by
  rintro ⟨t, b⟩ ⟨t', b'⟩ h
  simp only [Prod.mk.injEq]
  simpa [strs_eq, T.enc_eq, encL_eq, F.enc_eq, encF_eq, Tk.enc_eq, encTk_eq, Gn.enc_eq, ints_eq] using h
theorem spToldX_md  : (spToldX).md = [false, false] := rfl
theorem spToldX_pre  (t : T) (b : Bool) : (spToldX).pre [.d (.agg t.enc), .d (.one (.bool b))] = (t.fit 2000000) := Spec.of_pre' spToldX_inj (t, b)
theorem spToldX_alts  : (spToldX).alts = none := rfl
theorem spToldX_res  (t : T) (b : Bool) : (spToldX).res [.d (.agg t.enc), .d (.one (.bool b))] = [.ag (agX (toldT b t)), .d (.one (.bool (decide (b = true ∧ okT t))))] := Spec.of_res spToldX_inj (t, b)
theorem spToldX_out  (t : T) (b : Bool) : (spToldX).out [.d (.agg t.enc), .d (.one (.bool b))] = [.gone, .gone] := Spec.of_out spToldX_inj (t, b)
theorem toldX_sound : Sound Go.Proofs.Try.prog 27 spToldX := by
  refine sound_fam (GOK.cons (l := [(47, spCloneXT)]) call_ValOkI valOkI_sound (GOK.cons call_clone cloneXT_sound GOK.nil)) Go.Proofs.Try.func27 (c := Go.Proofs.Try.f27.body.getD .skip) rfl (n := 16) rfl chk_told rs_told (fun _ => by simp) ?_ ?_
  · exact spToldX_inj
  · rintro ⟨t, b⟩ h1
    change t.fit 2000000 at h1
    have f1 : t.fit 140737488355328 := T.fit_mono (by decide) h1
    have f3 := T.enc_len t
    have f4 := okI_iff t
    cases b with
    | false =>
      simp only [x_told, rg, go_sem, seval, Prod.fst, toldT, f3, f4, agX_out, zk, zn, zs, zks, zl, strs_e, encLX_e, spValOkI_md, spValOkI_pre, spValOkI_alts, spValOkI_res, spValOkI_out, spCloneXT_md, spCloneXT_pre, spCloneXT_alts, spCloneXT_res, spCloneXT_out, Bool.false_or, Bool.or_true, Bool.not_true, Bool.false_eq_true, false_and]
      repeat' (first | with_reducible assumption | with_reducible refine And.intro ?_ ?_ | intro _)
    | true =>
      by_cases c : okT t
      · simp only [x_told, rg, go_sem, seval, Prod.fst, toldT, f3, f4, c, agX_out, spValOkI_md, spValOkI_pre, spValOkI_alts, spValOkI_res, spValOkI_out, spCloneXT_md, spCloneXT_pre, spCloneXT_alts, spCloneXT_res, spCloneXT_out, Bool.false_or, Bool.or_true, Bool.not_true, Bool.false_eq_true]
        repeat' (first | with_reducible assumption | with_reducible refine And.intro ?_ ?_ | intro _)
      · simp only [x_told, rg, go_sem, seval, Prod.fst, toldT, f3, f4, c, agX_out, zk, zn, zs, zks, zl, strs_e, encLX_e, spValOkI_md, spValOkI_pre, spValOkI_alts, spValOkI_res, spValOkI_out, spCloneXT_md, spCloneXT_pre, spCloneXT_alts, spCloneXT_res, spCloneXT_out, Bool.false_or, Bool.or_true, Bool.not_true, Bool.false_eq_true]
        repeat' (first | with_reducible assumption | with_reducible refine And.intro ?_ ?_ | intro _)
end Go.Proofs.Pw
/- Ways: what is put at their end. -/
set_option linter.unusedSimpArgs false
set_option maxRecDepth 20000
namespace Go.Proofs.Pw
set_option linter.unusedSectionVars false
variable [Globs]
def x_PartPutI : X := (.seq (.reg [⟨some 3, none, .box (.t 0) (some 5)⟩, ⟨some 5, none, .box (.t 2) (some 5)⟩, ⟨some 6, none, .alloc [(.c (.int .i64 0)), (.c (.int .i64 0)), (.c (.str ⟨#[]⟩)), (.z 1), (.z 5)]⟩, ⟨some 7, none, .mv (.k (.c (.bool false)))⟩] none [1, 3, 5, 6]) (.seq (.seq (.reg [⟨some 8, none, .load (.t 3) (some 5)⟩, ⟨some 9, none, .call 25 [(.t 8)]⟩, ⟨some 10, none, .not (.t 9)⟩, ⟨some 11, none, .mv (.t 10)⟩, ⟨some 12, some (11, false), .mv (.t 1)⟩, ⟨some 13, some (11, false), .call 45 [(.t 12)]⟩, ⟨some 14, some (11, false), .not (.t 13)⟩, ⟨some 15, none, .pick (.t 11) (.k (.c (.bool true))) (.t 14)⟩, ⟨some 16, none, .mv (.t 15)⟩, ⟨some 17, some (16, false), .load (.t 5) (some 5)⟩, ⟨some 18, some (16, false), .call 25 [(.t 17)]⟩, ⟨some 19, some (16, false), .not (.t 18)⟩, ⟨some 20, none, .pick (.t 16) (.k (.c (.bool true))) (.t 19)⟩, ⟨some 21, none, .mv (.t 20)⟩, ⟨some 22, some (21, false), .fa (.t 3) 0⟩, ⟨some 23, some (21, false), .load (.t 22) none⟩, ⟨some 24, some (21, false), .bin false .neq (.t 23) (.k (.c (.int .i64 6)))⟩, ⟨some 25, some (21, false), .mv (.t 24)⟩, ⟨some 26, some (25, true), .fa (.t 3) 0⟩, ⟨some 27, some (25, true), .load (.t 26) none⟩, ⟨some 28, some (25, true), .bin false .neq (.t 27) (.k (.c (.int .i64 0)))⟩, ⟨some 29, some (21, false), .pick (.t 25) (.t 28) (.k (.c (.bool false)))⟩, ⟨some 30, none, .pick (.t 21) (.k (.c (.bool true))) (.t 29)⟩] none [1, 3, 5, 6, 30]) (.cond (.t 30) (.seq (.reg [⟨some 31, none, .build [(.c (.int .i64 0)), (.c (.int .i64 0)), (.c (.str ⟨#[]⟩)), (.z 1), (.z 5)] []⟩, ⟨none, none, .st (.t 6) (.t 31) (some 5)⟩, ⟨some 7, none, .mv (.k (.c (.bool false)))⟩] none [6, 7]) .ret) .skip)) (.seq (.reg [⟨some 32, none, .load (.t 3) (some 5)⟩, ⟨some 33, none, .mv (.t 1)⟩, ⟨some 34, none, .load (.t 5) (some 5)⟩, ⟨some 35, none, .call 59 [(.t 32), (.t 33), (.t 34)]⟩, ⟨some 36, none, .call 27 [(.t 35), (.k (.c (.bool true)))]⟩, ⟨some 37, none, .ext (.t 36) 0⟩, ⟨some 38, none, .ext (.t 36) 1⟩, ⟨none, none, .st (.t 6) (.t 37) (some 5)⟩, ⟨some 7, none, .mv (.t 38)⟩] none [6, 7]) .ret)))
theorem chk_PartPutI : chkX Go.Proofs.Try.prog 39 (Go.Proofs.Try.f49.body.getD .skip) x_PartPutI = true := by kernel_rfl
theorem rs_PartPutI : okRs Go.Proofs.Try.prog Go.Proofs.Try.f49.results.toList [.cell 6 (some 5), .tmp 7] = true := by kernel_rfl
theorem call_PartPutI : okCallee Go.Proofs.Try.prog 49 = true := by kernel_rfl
def x_PartPut : X := (.seq (.reg [⟨some 3, none, .box (.t 0) (some 5)⟩, ⟨some 5, none, .box (.t 2) (some 5)⟩, ⟨some 6, none, .alloc [(.c (.int .i64 0)), (.c (.int .i64 0)), (.c (.str ⟨#[]⟩)), (.z 1), (.z 5)]⟩, ⟨some 7, none, .mv (.k (.c (.bool false)))⟩] none [1, 3, 5, 6]) (.seq (.seq (.reg [⟨some 8, none, .load (.t 3) (some 5)⟩, ⟨some 9, none, .call 18 [(.t 8)]⟩, ⟨some 10, none, .not (.t 9)⟩, ⟨some 11, none, .mv (.t 10)⟩, ⟨some 12, some (11, false), .load (.t 5) (some 5)⟩, ⟨some 13, some (11, false), .call 18 [(.t 12)]⟩, ⟨some 14, some (11, false), .not (.t 13)⟩, ⟨some 15, none, .pick (.t 11) (.k (.c (.bool true))) (.t 14)⟩, ⟨some 16, none, .mv (.t 15)⟩, ⟨some 17, some (16, false), .mv (.t 1)⟩, ⟨some 18, some (16, false), .call 51 [(.t 17)]⟩, ⟨some 19, some (16, false), .not (.t 18)⟩, ⟨some 20, none, .pick (.t 16) (.k (.c (.bool true))) (.t 19)⟩, ⟨some 21, none, .mv (.t 20)⟩, ⟨some 22, some (21, false), .fa (.t 3) 0⟩, ⟨some 23, some (21, false), .load (.t 22) none⟩, ⟨some 24, some (21, false), .bin false .neq (.t 23) (.k (.c (.int .i64 0)))⟩, ⟨some 25, some (21, false), .mv (.t 24)⟩, ⟨some 26, some (25, true), .fa (.t 3) 0⟩, ⟨some 27, some (25, true), .load (.t 26) none⟩, ⟨some 28, some (25, true), .bin false .neq (.t 27) (.k (.c (.int .i64 6)))⟩, ⟨some 29, some (21, false), .pick (.t 25) (.t 28) (.k (.c (.bool false)))⟩, ⟨some 30, none, .pick (.t 21) (.k (.c (.bool true))) (.t 29)⟩] none [1, 3, 5, 6, 30]) (.cond (.t 30) (.seq (.reg [⟨some 31, none, .build [(.c (.int .i64 0)), (.c (.int .i64 0)), (.c (.str ⟨#[]⟩)), (.z 1), (.z 5)] []⟩, ⟨none, none, .st (.t 6) (.t 31) (some 5)⟩, ⟨some 7, none, .mv (.k (.c (.bool false)))⟩] none [6, 7]) .ret) .skip)) (.seq (.reg [⟨some 32, none, .load (.t 3) (some 5)⟩, ⟨some 33, none, .mv (.t 1)⟩, ⟨some 34, none, .load (.t 5) (some 5)⟩, ⟨some 35, none, .call 55 [(.t 32), (.t 33), (.t 34)]⟩, ⟨some 36, none, .call 21 [(.t 35)]⟩, ⟨some 37, none, .ext (.t 36) 0⟩, ⟨some 38, none, .ext (.t 36) 1⟩, ⟨none, none, .st (.t 6) (.t 37) (some 5)⟩, ⟨some 7, none, .mv (.t 38)⟩] none [6, 7]) .ret)))
theorem chk_PartPut : chkX Go.Proofs.Try.prog 39 (Go.Proofs.Try.f41.body.getD .skip) x_PartPut = true := by kernel_rfl
theorem rs_PartPut : okRs Go.Proofs.Try.prog Go.Proofs.Try.f41.results.toList [.cell 6 (some 5), .tmp 7] = true := by kernel_rfl
theorem call_PartPut : okCallee Go.Proofs.Try.prog 41 = true := by kernel_rfl
noncomputable def partPutO (v : T) (key : ByteArray) (x : T) : Option T := if (v.kind = 6 ∨ v.kind = 0) ∧ okT (putT v key x) then some (putT v key x) else none
def setL (l : List T) (i : Nat) (x : T) : List T := (l ++ List.replicate (i + 1 - l.length) T.zero).set i x
def setAt (n a : Int) : Nat := (if a < 0 then a + n else a).toNat
def setT (v : T) (a : Int) (x : T) : T := .mk 5 0 ⟨#[]⟩ [] (setL v.list (setAt v.list.length a) x)
noncomputable def partSetO (v : T) (a : Int) (x : T) : Option T := if (v.kind = 5 ∨ v.kind = 0) ∧ -(v.list.length : Int) ≤ a ∧ okT (setT v a x) then some (setT v a x) else none
noncomputable def partO (s : Stp) (v x : T) : Option T := if s.map = true then partPutO v s.key x else partSetO v s.at' x
/-- What lies there then, if something may be put there. -/
noncomputable def wputO : T → List Stp → T → Option T
  | _, [], x => some x
  | v, s :: p, x => if canGo s v then (match wputO (oneT s v) p x with
    | some y => partO s v y
    | none => none) else none
noncomputable def pathPutO (v : T) (p : List Stp) (x : T) : Option T := if okT v ∧ wayOk p ∧ okT x then wputO v p x else none
noncomputable def optT (o : Option T) : T := o.getD T.zero
theorem partPutO_ok {v : T} {key : ByteArray} {x y : T} (h : partPutO v key x = some y) : okT y := by
  unfold partPutO at h; split at h
  · rename_i hc; cases h; exact hc.2
  · cases h
theorem partSetO_ok {v : T} {a : Int} {x y : T} (h : partSetO v a x = some y) : okT y := by
  unfold partSetO at h; split at h
  · rename_i hc; cases h; exact hc.2.2
  · cases h
theorem wputO_ok : ∀ {p : List Stp} {v x y : T}, okT x → wputO v p x = some y → okT y := by
  intro p
  cases p with
  | nil => intro v x y hx h; simp only [wputO, Option.some.injEq] at h; subst h; exact hx
  | cons s p =>
    intro v x y hx h
    simp only [wputO] at h
    split at h
    · split at h
      · unfold partO at h
        split at h
        · exact partPutO_ok h
        · exact partSetO_ok h
      · cases h
    · cases h
theorem atT_ok {a : Int} {v : T} (h : okT v) : okT (atT a v) := by
  unfold atT
  split
  · rename_i hc
    obtain ⟨k, n, s, ks, l⟩ := v
    have lt := placeI_lt hc.2
    simp only [T.list] at lt hc ⊢
    have hi : (placeI l.length a).toNat < l.length := by omega
    rw [List.getD_eq_getElem?_getD, List.getElem?_eq_getElem hi]
    exact okT_elem h (List.getElem_mem hi)
  · exact okT_zero'
theorem oneT_ok {s : Stp} {v : T} (h : okT v) : okT (oneT s v) := by
  unfold oneT; split
  · exact getT_ok h
  · exact atT_ok h
theorem optT_ok {o : Option T} (h : ∀ y, o = some y → okT y) : okT (optT o) := by
  cases o with
  | none => exact okT_zero'
  | some y => exact h y rfl
theorem pathPutO_ok {v x : T} {p : List Stp} : okT (optT (pathPutO v p x)) := optT_ok fun y h => by
  unfold pathPutO at h; split at h
  · rename_i hc; exact wputO_ok hc.2.2 h
  · cases h
theorem okT_keysA {v : T} (h : okT v) (hk : v.kind = 6 ∨ v.kind = 0) : Asc v.keys ∧ v.keys.length = v.list.length ∧ v.list.length ≤ 60 := by
  have h2 := okT_size h
  rcases hk with hk | hk
  · obtain ⟨k, n, s, ks, l⟩ := v
    simp only [T.kind] at hk; subst hk
    obtain ⟨rfl, rfl, e1, e2⟩ := okT_map h rfl
    have G := good_map h rfl
    have := sizeL_len l
    simp only [sizeT] at h2
    exact ⟨G.asc, e1, by show l.length ≤ 60; omega⟩
  · rw [okT_none h hk]; exact ⟨by simp [T.keys, T.zero, Asc], rfl, by simp [T.list, T.zero]⟩
theorem setL_len {l : List T} {i : Nat} {x : T} (h : i < 60) (hl : l.length ≤ 60) : (setL l i x).length ≤ 60 ∧ i < (l ++ List.replicate (i + 1 - l.length) T.zero).length := by simp [setL]; omega
theorem setL_mem {l : List T} {i : Nat} {x t : T} (h : t ∈ setL l i x) : t ∈ l ∨ t = T.zero ∨ t = x := by
  unfold setL at h
  rcases List.mem_or_eq_of_mem_set h with h | h
  · rcases List.mem_append.1 h with h | h
    · exact .inl h
    · exact .inr (.inl (List.mem_replicate.1 h).2)
  · exact .inr (.inr h)
theorem putT_fit {v x : T} {key : ByteArray} (hv : okT v) (hk : v.kind = 6 ∨ v.kind = 0) (ck : okS key) (hx : okT x) : (putT v key x).fit 2000000 ∧ sizeT (putT v key x) ≤ 1048577 := by
  have h0 := okT_size hx
  have hf := okT_fit hx
  have hks : (key.size : Int) ≤ 60 := by have := ck.2; omega
  have G : ∃ B z, Good B z (v.keys, v.list) ∧ B ≤ 60 ∧ z ≤ 60 := by
    rcases hk with hk | hk
    · obtain ⟨k, n, s, ks, l⟩ := v
      simp only [T.kind] at hk; subst hk
      exact ⟨60, 60, good_map hv rfl, by omega, by omega⟩
    · rw [okT_none hv hk]
      exact ⟨0, 0, ⟨by simp [T.keys, T.zero, Asc], rfl, by simp [T.keys, T.zero], by simp [T.keys, T.zero], trivial, by simp [T.list, T.zero, sizeL]⟩, by omega, by omega⟩
  obtain ⟨B, z, G, hB, hz⟩ := G
  have G2 := G.put hks hf
  have q1 := G2.len
  have q2 := G2.few
  have q3 := G2.size
  simp only at q1 q2 q3
  have l2 : ((putS key x false v.keys v.list).2.length : Int) ≤ 61 := by omega
  have l1 : ((putS key x false v.keys v.list).1.length : Int) ≤ 61 := by omega
  constructor
  · refine ⟨by unfold i64; omega, by unfold i64; omega, by unfold lenB; decide, ⟨by unfold lenB; omega, fun s hs => by have := G2.ks s hs; unfold lenB; omega⟩, by unfold lenB; omega, fitL_of fun t ht => T.fit_mono (by decide) (fitL_mem G2.fit t ht)⟩
  · show 1 + sizeL (putS key x false v.keys v.list).2 ≤ _
    omega
noncomputable def spPartPutI  : Spec := Spec.of (ι := T × ByteArray × T) [false, false, false] (fun i => [.d (.agg i.1.enc), .d (.one (.str i.2.1)), .d (.agg i.2.2.enc)]) (fun i => okT i.1 ∧ okS i.2.1 ∧ okT i.2.2) (fun i => [.d (.agg (optT (partPutO i.1 i.2.1 i.2.2)).enc), .d (.one (.bool (decide ((partPutO i.1 i.2.1 i.2.2).isSome = true))))]) (fun _ => [.gone, .gone, .gone])
theorem spPartPutI_inj : ∀ i j : T × ByteArray × T, (fun (i : T × ByteArray × T) => ([.d (.agg i.1.enc), .d (.one (.str i.2.1)), .d (.agg i.2.2.enc)] : List AV)) i = (fun (i : T × ByteArray × T) => ([.d (.agg i.1.enc), .d (.one (.str i.2.1)), .d (.agg i.2.2.enc)] : List AV)) j → i = j := by
  rintro ⟨v, key, x⟩ ⟨v', key', x'⟩ h
  simp only [Prod.mk.injEq]
  simpa [strs_eq, T.enc_eq, encL_eq, F.enc_eq, encF_eq, Tk.enc_eq, encTk_eq, Gn.enc_eq, ints_eq] using h
theorem spPartPutI_md  : (spPartPutI).md = [false, false, false] := rfl
theorem spPartPutI_pre  (v : T) (key : ByteArray) (x : T) : (spPartPutI).pre [.d (.agg v.enc), .d (.one (.str key)), .d (.agg x.enc)] = (okT v ∧ okS key ∧ okT x) := Spec.of_pre' spPartPutI_inj (v, key, x)
theorem spPartPutI_alts  : (spPartPutI).alts = none := rfl
theorem spPartPutI_res  (v : T) (key : ByteArray) (x : T) : (spPartPutI).res [.d (.agg v.enc), .d (.one (.str key)), .d (.agg x.enc)] = [.d (.agg (optT (partPutO v key x)).enc), .d (.one (.bool (decide ((partPutO v key x).isSome = true))))] := Spec.of_res spPartPutI_inj (v, key, x)
theorem spPartPutI_out  (v : T) (key : ByteArray) (x : T) : (spPartPutI).out [.d (.agg v.enc), .d (.one (.str key)), .d (.agg x.enc)] = [.gone, .gone, .gone] := Spec.of_out spPartPutI_inj (v, key, x)
set_option maxHeartbeats 2000000 in
theorem PartPutI_sound : Sound Go.Proofs.Try.prog 49 spPartPutI := by
  refine sound_fam (GOK.cons (l := [(45, spTextOk), (59, spPut), (27, spTold)]) call_ValOkI valOkI_sound (GOK.cons call_textOk textOk_sound (GOK.cons call_put put_sound (GOK.cons call_told told_sound GOK.nil)))) Go.Proofs.Try.func49 (c := Go.Proofs.Try.f49.body.getD .skip) rfl (n := 39) rfl chk_PartPutI rs_PartPutI (fun _ => by simp) ?_ ?_
  · exact spPartPutI_inj
  · rintro ⟨v, key, x⟩ ⟨h1, h2, h3⟩
    simp only at h1 h2 h3
    have f0 := T.enc_len v
    have f1 := T.enc_len x
    have o1 : ((okI v 1 60).1 = true) = True := eq_true ((okI_iff _).2 h1)
    have o2 : ((okI x 1 60).1 = true) = True := eq_true ((okI_iff _).2 h3)
    have o3 := eq_true h2
    have g1 := T.fit_mono (B := 140737488355328) (by decide) (okT_fit h1)
    have g2 := T.fit_mono (B := 140737488355328) (by decide) (okT_fit h3)
    have g3 : lenB 140737488355328 key.size := by have := h2.2; unfold lenB; omega
    by_cases c : v.kind = 6 ∨ v.kind = 0
    · obtain ⟨a1, a2, a3⟩ := okT_keysA h1 c
      have a4 : lenB 1000000 v.keys.length := by unfold lenB; omega
      have a5 := (putT_fit h1 c h2 h3).1
      have f2 := T.enc_len (putT v key x)
      have e : partPutO v key x = if okT (putT v key x) then some (putT v key x) else none := by unfold partPutO; simp [c]
      have e1 : optT (partPutO v key x) = toldT true (putT v key x) := by rw [e]; unfold toldT; split <;> simp_all [optT]
      have e2 : ((partPutO v key x).isSome = true) = okT (putT v key x) := by rw [e]; split <;> simp_all
      have f3 := T.enc_len (toldT true (putT v key x))
      obtain ⟨k, n, s, ks, l⟩ := v
      simp only [T.kind] at c
      have foldT' := foldT k n s ks l
      rcases c with rfl | rfl
      · simp only [x_PartPutI, rg, go_sem, seval, Prod.fst, T.enc, foldT, f1, f2, f3, o1, o2, o3, e1, e2, spValOkI_md, spValOkI_pre, spValOkI_alts, spValOkI_res, spValOkI_out, spTextOk_md, spTextOk_pre, spTextOk_alts, spTextOk_res, spTextOk_out, spPut_md, spPut_pre, spPut_alts, spPut_res, spPut_out, spTold_md, spTold_pre, spTold_alts, spTold_res, spTold_out]
        repeat' (first | with_reducible assumption | with_reducible refine And.intro ?_ ?_ | intro _)
        all_goals first | omega | assumption | skip
      · simp only [x_PartPutI, rg, go_sem, seval, Prod.fst, T.enc, foldT, f1, f2, f3, o1, o2, o3, e1, e2, spValOkI_md, spValOkI_pre, spValOkI_alts, spValOkI_res, spValOkI_out, spTextOk_md, spTextOk_pre, spTextOk_alts, spTextOk_res, spTextOk_out, spPut_md, spPut_pre, spPut_alts, spPut_res, spPut_out, spTold_md, spTold_pre, spTold_alts, spTold_res, spTold_out]
        repeat' (first | with_reducible assumption | with_reducible refine And.intro ?_ ?_ | intro _)
        all_goals first | omega | assumption | skip
    · have e : partPutO v key x = none := by unfold partPutO; rw [if_neg (fun h => c h.1)]
      obtain ⟨k, n, s, ks, l⟩ := v
      simp only [T.kind, not_or] at c
      have c1 := eq_false c.1
      have c2 := eq_false c.2
      simp only [x_PartPutI, rg, go_sem, seval, Prod.fst, T.enc, foldT, f1, o1, o2, o3, e, c1, c2, optT, Option.getD_none, T.zero_enc, Option.isSome_none, spValOkI_md, spValOkI_pre, spValOkI_alts, spValOkI_res, spValOkI_out, spTextOk_md, spTextOk_pre, spTextOk_alts, spTextOk_res, spTextOk_out]
      repeat' (first | with_reducible assumption | with_reducible refine And.intro ?_ ?_ | intro _)
      all_goals first | omega | assumption | skip
noncomputable def spPartPut  : Spec := Spec.of (ι := T × ByteArray × T) [false, false, false] (fun i => [.d (.agg i.1.enc), .d (.one (.str i.2.1)), .d (.agg i.2.2.enc)]) (fun i => okT i.1 ∧ okS i.2.1 ∧ okT i.2.2) (fun i => [.d (.agg (optT (partPutO i.1 i.2.1 i.2.2)).enc), .d (.one (.bool (decide ((partPutO i.1 i.2.1 i.2.2).isSome = true))))]) (fun _ => [.gone, .gone, .gone])
theorem spPartPut_inj : ∀ i j : T × ByteArray × T, (fun (i : T × ByteArray × T) => ([.d (.agg i.1.enc), .d (.one (.str i.2.1)), .d (.agg i.2.2.enc)] : List AV)) i = (fun (i : T × ByteArray × T) => ([.d (.agg i.1.enc), .d (.one (.str i.2.1)), .d (.agg i.2.2.enc)] : List AV)) j → i = j := by
  rintro ⟨v, key, x⟩ ⟨v', key', x'⟩ h
  simp only [Prod.mk.injEq]
  simpa [strs_eq, T.enc_eq, encL_eq, F.enc_eq, encF_eq, Tk.enc_eq, encTk_eq, Gn.enc_eq, ints_eq] using h
theorem spPartPut_md  : (spPartPut).md = [false, false, false] := rfl
theorem spPartPut_pre  (v : T) (key : ByteArray) (x : T) : (spPartPut).pre [.d (.agg v.enc), .d (.one (.str key)), .d (.agg x.enc)] = (okT v ∧ okS key ∧ okT x) := Spec.of_pre' spPartPut_inj (v, key, x)
theorem spPartPut_alts  : (spPartPut).alts = none := rfl
theorem spPartPut_res  (v : T) (key : ByteArray) (x : T) : (spPartPut).res [.d (.agg v.enc), .d (.one (.str key)), .d (.agg x.enc)] = [.d (.agg (optT (partPutO v key x)).enc), .d (.one (.bool (decide ((partPutO v key x).isSome = true))))] := Spec.of_res spPartPut_inj (v, key, x)
theorem spPartPut_out  (v : T) (key : ByteArray) (x : T) : (spPartPut).out [.d (.agg v.enc), .d (.one (.str key)), .d (.agg x.enc)] = [.gone, .gone, .gone] := Spec.of_out spPartPut_inj (v, key, x)
set_option maxHeartbeats 2000000 in
theorem PartPut_sound : Sound Go.Proofs.Try.prog 41 spPartPut := by
  refine sound_fam (GOK.cons (l := [(51, spOkS), (55, spL2Put), (21, spL2Told)]) call_ValOk sOkT_sound (GOK.cons call_l1Str l1Str_sound (GOK.cons call_l2Put l2Put_sound (GOK.cons call_l2Told l2Told_sound GOK.nil)))) Go.Proofs.Try.func41 (c := Go.Proofs.Try.f41.body.getD .skip) rfl (n := 39) rfl chk_PartPut rs_PartPut (fun _ => by simp) ?_ ?_
  · exact spPartPut_inj
  · rintro ⟨v, key, x⟩ ⟨h1, h2, h3⟩
    simp only at h1 h2 h3
    have f0 := T.enc_len v
    have f1 := T.enc_len x
    have o1 := eq_true h1
    have o2 := eq_true h3
    have o3 := eq_true h2
    have g1 := T.fit_mono (B := 140737488355328) (by decide) (okT_fit h1)
    have g2 := T.fit_mono (B := 140737488355328) (by decide) (okT_fit h3)
    have g3 : lenB 140737488355328 key.size := by have := h2.2; unfold lenB; omega
    have z1 := okT_size h1
    have z2 := okT_size h3
    by_cases c : v.kind = 6 ∨ v.kind = 0
    · obtain ⟨a1, a2, a3⟩ := okT_keysA h1 c
      have a4 : lenB 1000000 v.keys.length := by unfold lenB; omega
      obtain ⟨a5, a6⟩ := putT_fit h1 c h2 h3
      have f2 := T.enc_len (putT v key x)
      have e : partPutO v key x = if okT (putT v key x) then some (putT v key x) else none := by unfold partPutO; simp [c]
      have e1 : optT (partPutO v key x) = toldT true (putT v key x) := by rw [e]; unfold toldT; split <;> simp_all [optT]
      have e2 : ((partPutO v key x).isSome = true) = okT (putT v key x) := by rw [e]; split <;> simp_all
      have f3 := T.enc_len (toldT true (putT v key x))
      obtain ⟨k, n, s, ks, l⟩ := v
      simp only [T.kind] at c
      rcases c with rfl | rfl
      · simp only [x_PartPut, rg, go_sem, seval, Prod.fst, T.enc, foldT, f1, f2, f3, o1, o2, o3, e1, e2, spOkT_md, spOkT_pre, spOkT_alts, spOkT_res, spOkT_out, spOkS_md, spOkS_pre, spOkS_alts, spOkS_res, spOkS_out, spL2Put_md, spL2Put_pre, spL2Put_alts, spL2Put_res, spL2Put_out, spL2Told_md, spL2Told_pre, spL2Told_alts, spL2Told_res, spL2Told_out]
        repeat' (first | with_reducible assumption | with_reducible refine And.intro ?_ ?_ | intro _)
        all_goals first | omega | assumption | skip
      · simp only [x_PartPut, rg, go_sem, seval, Prod.fst, T.enc, foldT, f1, f2, f3, o1, o2, o3, e1, e2, spOkT_md, spOkT_pre, spOkT_alts, spOkT_res, spOkT_out, spOkS_md, spOkS_pre, spOkS_alts, spOkS_res, spOkS_out, spL2Put_md, spL2Put_pre, spL2Put_alts, spL2Put_res, spL2Put_out, spL2Told_md, spL2Told_pre, spL2Told_alts, spL2Told_res, spL2Told_out]
        repeat' (first | with_reducible assumption | with_reducible refine And.intro ?_ ?_ | intro _)
        all_goals first | omega | assumption | skip
    · have e : partPutO v key x = none := by unfold partPutO; rw [if_neg (fun h => c h.1)]
      obtain ⟨k, n, s, ks, l⟩ := v
      simp only [T.kind, not_or] at c
      have c1 := eq_false c.1
      have c2 := eq_false c.2
      simp only [x_PartPut, rg, go_sem, seval, Prod.fst, T.enc, foldT, f1, o1, o2, o3, e, c1, c2, optT, Option.getD_none, T.zero_enc, Option.isSome_none, spOkT_md, spOkT_pre, spOkT_alts, spOkT_res, spOkT_out, spOkS_md, spOkS_pre, spOkS_alts, spOkS_res, spOkS_out]
      repeat' (first | with_reducible assumption | with_reducible refine And.intro ?_ ?_ | intro _)
      all_goals first | omega | assumption | skip
end Go.Proofs.Pw
