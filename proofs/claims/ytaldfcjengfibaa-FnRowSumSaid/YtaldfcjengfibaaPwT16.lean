/- Rows, grouped by what stands under a key. -/
import Derived.Test.YtaldfcjengfibaaPwT13
import Derived.Test.YtaldfcjengfibaaPwT12
import Derived.Test.YtaldfcjengfibaaPwT14
import Derived.Test.YtaldfcjengfibaaPwT15
set_option linter.unusedSimpArgs false
set_option linter.unusedVariables false
namespace Go.Proofs.Pw
set_option linter.unusedSectionVars false
variable [Globs]
def getOk (v : T) : Prop := v.kind = 6 ∨ v.kind = 0
noncomputable instance (v : T) : Decidable (getOk v) := Classical.propDecidable _
theorem okT_zero' : okT T.zero := ⟨by simp [T.zero, formT, formL, okS_nil], by simp [T.zero, manyT, manyL]⟩
theorem fitL_in {B : Int} : ∀ {l : List T}, fitL B l → ∀ t ∈ l, t.fit B
  | _ :: _, h, t, ht => by
    rcases List.mem_cons.1 ht with rfl | ht
    · exact h.1
    · exact fitL_in h.2 t ht
def byOk (v : T) (key : ByteArray) : Prop := rowT v ∧ okS key ∧ ∀ x ∈ v.list, getOk x
noncomputable instance (v : T) (key : ByteArray) : Decidable (byOk v key) := Classical.propDecidable _
/-- The rows of a row put together. -/
def flatL : List T → List T
  | [] => []
  | x :: l => (if x.kind = 5 then x.list else [x]) ++ flatL l
theorem flatL_app (a b : List T) : flatL (a ++ b) = flatL a ++ flatL b := by
  induction a with
  | nil => rfl
  | cons x a ih => simp only [List.cons_append, flatL, ih, List.append_assoc]
noncomputable def flatT (v : T) : T := if rowT v then toldT true (.mk 5 0 ⟨#[]⟩ [] (flatL v.list)) else T.zero
theorem flatL_take {l : List T} {i : Nat} {x : T} (hx : l[i]? = some x) : flatL (l.take (i + 1)) = flatL (l.take i) ++ (if x.kind = 5 then x.list else [x]) := by
  rw [take_snoc hx, flatL_app]; congr 1; simp [flatL]
theorem flatL_le {l : List T} (i : Nat) : (flatL (l.take i)).length ≤ (flatL l).length := by
  have : flatL l = flatL (l.take i) ++ flatL (l.drop i) := by rw [← flatL_app, List.take_append_drop]
  rw [this]; simp
theorem flatL_fit {B : Int} {l : List T} (h : fitL B l) : fitL B (flatL l) := by
  refine fitL_of fun t ht => ?_
  induction l with
  | nil => simp [flatL] at ht
  | cons x l ih =>
    simp only [flatL] at ht
    rcases List.mem_append.1 ht with ht | ht
    · split at ht
      · obtain ⟨k, n, s, ks, li⟩ := x; exact fitL_in h.1.2.2.2.2.2 t ht
      · simp only [List.mem_singleton] at ht; rw [ht]; exact h.1
    · exact ih h.2 ht
open Classical in
/-- Keys and trees, a key put in its place. -/
noncomputable def putS (key : ByteArray) (x : T) : Bool → List ByteArray → List T → List ByteArray × List T
  | done, k :: ks, t :: l =>
    let d := !done && !decide (sl k key)
    let r := putS key x (done || d) ks l
    ((if d then [key] else []) ++ (if k = key then [] else [k]) ++ r.1, (if d then [x] else []) ++ (if k = key then [] else [t]) ++ r.2)
  | done, _, _ => if done then ([], []) else ([key], [x])
theorem putS_len (key : ByteArray) (x : T) : ∀ (done : Bool) (ks : List ByteArray) (l : List T), (putS key x done ks l).1.length ≤ ks.length + (if done then 0 else 1) ∧ (putS key x done ks l).2.length ≤ l.length + (if done then 0 else 1)
  | done, k :: ks, t :: l => by
    have ih := putS_len key x (done || (!done && !decide (sl k key))) ks l
    simp only [putS]
    by_cases d : k = key
    · subst d
      have hs : ¬ sl k k := sl_irrefl k
      cases done <;> simp [hs] at ih ⊢ <;> omega
    · by_cases c : sl k key <;> cases done <;> simp [c, d] at ih ⊢ <;> omega
  | done, [], l => by cases done <;> simp [putS]
  | done, k :: ks, [] => by cases done <;> simp [putS]
theorem putS_mem (key : ByteArray) (x : T) : ∀ (done : Bool) (ks : List ByteArray) (l : List T), (∀ s ∈ (putS key x done ks l).1, s = key ∨ s ∈ ks) ∧ (∀ t ∈ (putS key x done ks l).2, t = x ∨ t ∈ l)
  | done, k :: ks, t :: l => by
    have ih := putS_mem key x (done || (!done && !decide (sl k key))) ks l
    simp only [putS]
    refine ⟨fun s hs => ?_, fun s hs => ?_⟩
    · rcases List.mem_append.1 hs with hs | hs
      · rcases List.mem_append.1 hs with hs | hs
        · split at hs <;> simp at hs; exact .inl hs
        · split at hs <;> simp at hs; exact .inr (by simp [hs])
      · rcases ih.1 s hs with h | h
        · exact .inl h
        · exact .inr (by simp [h])
    · rcases List.mem_append.1 hs with hs | hs
      · rcases List.mem_append.1 hs with hs | hs
        · split at hs <;> simp at hs; exact .inl hs
        · split at hs <;> simp at hs; exact .inr (by simp [hs])
      · rcases ih.2 s hs with h | h
        · exact .inl h
        · exact .inr (by simp [h])
  | done, [], l => by cases done <;> simp [putS]
  | done, k :: ks, [] => by cases done <;> simp [putS]
theorem putS_size (key : ByteArray) (x : T) : ∀ (done : Bool) (ks : List ByteArray) (l : List T), sizeL (putS key x done ks l).2 ≤ sizeL l + (if done then 0 else sizeT x)
  | done, k :: ks, t :: l => by
    have ih := putS_size key x (done || (!done && !decide (sl k key))) ks l
    have h3 := manyT_le t 0
    have h4 := manyT_le x 0
    simp only [putS]
    by_cases d : k = key
    · subst d
      have hs : ¬ sl k k := sl_irrefl k
      cases done <;> simp [hs, sizeL] at ih ⊢ <;> omega
    · by_cases c : sl k key <;> cases done <;> simp [c, d, sizeL] at ih ⊢ <;> omega
  | done, [], l => by
    have h := manyL_le l 0
    cases done <;> simp [putS, sizeL] <;> omega
  | done, k :: ks, [] => by cases done <;> simp [putS, sizeL]
end Go.Proofs.Pw
/- What is drawn: rows of trees by keys. -/
set_option linter.unusedSimpArgs false
set_option maxRecDepth 20000
namespace Go.Proofs.Pw
set_option linter.unusedSectionVars false
variable [Globs]
def x_l2Put : X := (.seq (.reg [⟨some 3, none, .box (.t 0) (some 5)⟩, ⟨some 5, none, .box (.t 2) (some 5)⟩, ⟨some 6, none, .alloc [(.c (.int .i64 0)), (.c (.int .i64 0)), (.c (.str ⟨#[]⟩)), (.z 1), (.z 5)]⟩] none [1, 3, 5, 6]) (.seq (.reg [⟨some 10, none, .build [(.c (.int .i64 0)), (.c (.int .i64 0)), (.c (.str ⟨#[]⟩)), (.z 1), (.z 5)] [(0, (.k (.c (.int .i64 6))), none)]⟩, ⟨some 7, none, .alloc [(.c (.int .i64 0)), (.c (.int .i64 0)), (.c (.str ⟨#[]⟩)), (.z 1), (.z 5)]⟩, ⟨none, none, .st (.t 7) (.t 10) (some 5)⟩] none [1, 3, 5, 6, 7]) (.seq (.reg [⟨some 8, none, .mv (.k (.c (.bool false)))⟩] none [1, 3, 5, 6, 7, 8]) (.seq (.seq (.reg [⟨some 9, none, .mv (.k (.c (.int .i64 0)))⟩] none [1, 3, 5, 6, 7, 8, 9]) (.block 0 (.loop (.seq (.seq (.reg [⟨some 11, none, .mv (.t 9)⟩, ⟨some 12, none, .fa (.t 3) 3⟩, ⟨some 13, none, .load (.t 12) none⟩, ⟨some 14, none, .len (.t 13) false⟩, ⟨some 15, none, .bin false .lss (.t 11) (.t 14)⟩] none [1, 3, 5, 6, 7, 8, 9, 15]) (.cond (.t 15) .skip (.exit 0))) (.seq (.block 1 (.seq (.seq (.reg [⟨some 18, none, .mv (.t 8)⟩, ⟨some 19, none, .not (.t 18)⟩, ⟨some 20, none, .mv (.t 19)⟩, ⟨some 21, some (20, true), .fa (.t 3) 3⟩, ⟨some 22, some (20, true), .load (.t 21) none⟩, ⟨some 23, some (20, true), .mv (.t 9)⟩, ⟨some 24, some (20, true), .ia (.t 22) (.t 23) 1⟩, ⟨some 25, some (20, true), .load (.t 24) none⟩, ⟨some 26, some (20, true), .mv (.t 1)⟩, ⟨some 27, some (20, true), .bin false .geq (.t 25) (.t 26)⟩, ⟨some 28, none, .pick (.t 20) (.t 27) (.k (.c (.bool false)))⟩] none [1, 3, 5, 6, 7, 8, 9, 28]) (.cond (.t 28) (.seq (.reg [⟨some 29, none, .fa (.t 7) 3⟩, ⟨some 30, none, .load (.t 29) none⟩, ⟨some 31, none, .mv (.t 1)⟩, ⟨some 32, none, .bsl 1 [((.t 31), none)]⟩, ⟨some 33, none, .app (.t 30) (.t 32) 1 16 []⟩, ⟨some 34, none, .fa (.t 7) 3⟩, ⟨none, none, .st (.t 34) (.t 33) none⟩] none [1, 3, 5, 6, 7, 9]) (.seq (.reg [⟨some 35, none, .fa (.t 7) 4⟩, ⟨some 36, none, .load (.t 35) none⟩, ⟨some 37, none, .load (.t 5) (some 5)⟩, ⟨some 38, none, .bsl 5 [((.t 37), (some 5))]⟩, ⟨some 39, none, .app (.t 36) (.t 38) 5 80 []⟩, ⟨some 40, none, .fa (.t 7) 4⟩, ⟨none, none, .st (.t 40) (.t 39) none⟩] none [1, 3, 5, 6, 7, 9]) (.reg [⟨some 8, none, .mv (.k (.c (.bool true)))⟩] none [1, 3, 5, 6, 7, 8, 9]))) .skip)) (.seq (.reg [⟨some 41, none, .fa (.t 3) 3⟩, ⟨some 42, none, .load (.t 41) none⟩, ⟨some 43, none, .mv (.t 9)⟩, ⟨some 44, none, .ia (.t 42) (.t 43) 1⟩, ⟨some 45, none, .load (.t 44) none⟩, ⟨some 46, none, .mv (.t 1)⟩, ⟨some 47, none, .bin false .neq (.t 45) (.t 46)⟩] none [1, 3, 5, 6, 7, 8, 9, 47]) (.cond (.t 47) (.seq (.reg [⟨some 48, none, .fa (.t 7) 3⟩, ⟨some 49, none, .load (.t 48) none⟩, ⟨some 50, none, .fa (.t 3) 3⟩, ⟨some 51, none, .load (.t 50) none⟩, ⟨some 52, none, .mv (.t 9)⟩, ⟨some 53, none, .ia (.t 51) (.t 52) 1⟩, ⟨some 54, none, .load (.t 53) none⟩, ⟨some 55, none, .bsl 1 [((.t 54), none)]⟩, ⟨some 56, none, .app (.t 49) (.t 55) 1 16 []⟩, ⟨some 57, none, .fa (.t 7) 3⟩, ⟨none, none, .st (.t 57) (.t 56) none⟩] (some 8) [1, 3, 5, 6, 7, 8, 9]) (.reg [⟨some 58, none, .fa (.t 7) 4⟩, ⟨some 59, none, .load (.t 58) none⟩, ⟨some 60, none, .fa (.t 3) 4⟩, ⟨some 61, none, .load (.t 60) none⟩, ⟨some 62, none, .mv (.t 9)⟩, ⟨some 63, none, .ia (.t 61) (.t 62) 5⟩, ⟨some 64, none, .load (.t 63) (some 5)⟩, ⟨some 65, none, .bsl 5 [((.t 64), (some 5))]⟩, ⟨some 66, none, .app (.t 59) (.t 65) 5 80 []⟩, ⟨some 67, none, .fa (.t 7) 4⟩, ⟨none, none, .st (.t 67) (.t 66) none⟩] (some 8) [1, 3, 5, 6, 7, 8, 9])) .skip)))) (.reg [⟨some 16, none, .mv (.t 9)⟩, ⟨some 17, none, .bin false .add (.t 16) (.k (.c (.int .i64 1)))⟩, ⟨some 9, none, .mv (.t 17)⟩] none [1, 3, 5, 6, 7, 8, 9])))))) (.seq (.seq (.reg [⟨some 68, none, .mv (.t 8)⟩, ⟨some 69, none, .not (.t 68)⟩] none [1, 5, 6, 7, 69]) (.cond (.t 69) (.seq (.reg [⟨some 70, none, .fa (.t 7) 3⟩, ⟨some 71, none, .load (.t 70) none⟩, ⟨some 72, none, .mv (.t 1)⟩, ⟨some 73, none, .bsl 1 [((.t 72), none)]⟩, ⟨some 74, none, .app (.t 71) (.t 73) 1 16 []⟩, ⟨some 75, none, .fa (.t 7) 3⟩, ⟨none, none, .st (.t 75) (.t 74) none⟩] none [5, 6, 7]) (.reg [⟨some 76, none, .fa (.t 7) 4⟩, ⟨some 77, none, .load (.t 76) none⟩, ⟨some 78, none, .load (.t 5) (some 5)⟩, ⟨some 79, none, .bsl 5 [((.t 78), (some 5))]⟩, ⟨some 80, none, .app (.t 77) (.t 79) 5 80 []⟩, ⟨some 81, none, .fa (.t 7) 4⟩, ⟨none, none, .st (.t 81) (.t 80) none⟩] none [6, 7])) .skip)) (.seq (.reg [⟨some 82, none, .load (.t 7) (some 5)⟩, ⟨none, none, .st (.t 6) (.t 82) (some 5)⟩] none [6]) .ret))))))
theorem chk_l2Put : chkX Go.Proofs.Try.prog 83 (Go.Proofs.Try.f45.body.getD .skip) x_l2Put = true := by kernel_rfl
theorem rs_l2Put : okRs Go.Proofs.Try.prog Go.Proofs.Try.f45.results.toList [.cell 6 (some 5)] = true := by kernel_rfl
theorem call_l2Put : okCallee Go.Proofs.Try.prog 45 = true := by kernel_rfl
theorem mulB16 {n : Nat} (h : n ≤ 2000002) : n * 16 ≤ 140737488355328 := by omega
theorem mulB80 {n : Nat} (h : n ≤ 2000002) : n * 80 ≤ 140737488355328 := by omega
noncomputable def putT (v : T) (key : ByteArray) (x : T) : T := .mk 6 0 ⟨#[]⟩ (putS key x false v.keys v.list).1 (putS key x false v.keys v.list).2
noncomputable def spL2Put  : Spec := Spec.of (ι := T × ByteArray × T) [false, false, false] (fun i => [.d (.agg i.1.enc), .d (.one (.str i.2.1)), .d (.agg i.2.2.enc)]) (fun i => i.1.fit 140737488355328 ∧ lenB 1000000 i.1.keys.length ∧ i.1.keys.length = i.1.list.length) (fun i => [.d (.agg (putT i.1 i.2.1 i.2.2).enc)]) (fun _ => [.gone, .gone, .gone])
theorem spL2Put_inj : ∀ i j : T × ByteArray × T, (fun (i : T × ByteArray × T) => ([.d (.agg i.1.enc), .d (.one (.str i.2.1)), .d (.agg i.2.2.enc)] : List AV)) i = (fun (i : T × ByteArray × T) => ([.d (.agg i.1.enc), .d (.one (.str i.2.1)), .d (.agg i.2.2.enc)] : List AV)) j → i = j := by
  rintro ⟨v, key, x⟩ ⟨v', key', x'⟩ h
  simp only [Prod.mk.injEq]
  simpa [strs_eq, T.enc_eq, encL_eq, F.enc_eq, encF_eq, Tk.enc_eq, encTk_eq, Gn.enc_eq, ints_eq, rdC_eq, and_assoc] using h
theorem spL2Put_md  : (spL2Put).md = [false, false, false] := rfl
theorem spL2Put_pre  (v : T) (key : ByteArray) (x : T) : (spL2Put).pre [.d (.agg v.enc), .d (.one (.str key)), .d (.agg x.enc)] = (v.fit 140737488355328 ∧ lenB 1000000 v.keys.length ∧ v.keys.length = v.list.length) := Spec.of_pre' spL2Put_inj (v, key, x)
theorem spL2Put_alts  : (spL2Put).alts = none := rfl
theorem spL2Put_res  (v : T) (key : ByteArray) (x : T) : (spL2Put).res [.d (.agg v.enc), .d (.one (.str key)), .d (.agg x.enc)] = [.d (.agg (putT v key x).enc)] := Spec.of_res spL2Put_inj (v, key, x)
theorem spL2Put_out  (v : T) (key : ByteArray) (x : T) : (spL2Put).out [.d (.agg v.enc), .d (.one (.str key)), .d (.agg x.enc)] = [.gone, .gone, .gone] := Spec.of_out spL2Put_inj (v, key, x)
set_option maxHeartbeats 10000000 in
theorem l2Put_sound : Sound Go.Proofs.Try.prog 45 spL2Put := by
  refine sound_fam GOK.nil Go.Proofs.Try.func45 (c := Go.Proofs.Try.f45.body.getD .skip) rfl (n := 83) rfl chk_l2Put rs_l2Put (fun _ => by simp) ?_ ?_
  · exact spL2Put_inj
  · rintro ⟨v, key, x⟩ ⟨h1, h2, h3⟩
    obtain ⟨k, n, s, ks, l⟩ := v
    have h4 : (ks.length : Int) ≤ 1000000 := h2
    have h5 : ks.length = l.length := h3
    have fx := T.enc_len x
    simp only [x_l2Put, rg, go_sem, seval, Prod.fst, T.enc, fx]
    refine pw_loop (ι := Nat × Bool × List ByteArray × List T) (fun i => ks.length - i.1)
      (fun i => i.1 ≤ ks.length ∧ i.2.2.1 ++ (putS key x i.2.1 (ks.drop i.1) (l.drop i.1)).1 = (putS key x false ks l).1 ∧ i.2.2.2 ++ (putS key x i.2.1 (ks.drop i.1) (l.drop i.1)).2 = (putS key x false ks l).2 ∧ i.2.2.1.length ≤ 2 * i.1 ∧ i.2.2.2.length ≤ 2 * i.1)
      (fun i => ⟨[(1, .q (.c (.str key))), (3, .q (.box 3 0)), (5, .q (.box 5 0)), (6, .q (.box 6 0)), (7, .q (.box 7 0)), (8, .q (.c (.bool i.2.1))), (9, .q (.c (.int .i64 i.1)))],
        [(3, [.c (.int .i64 k), .c (.int .i64 n), .c (.str s), .c (.row 1 (strs ks)), .c (.row 5 (encL l))]), (5, x.enc.map .c), (6, [.c (.int .i64 0), .c (.int .i64 0), .c (.str ⟨#[]⟩), .z 1, .z 5]), (7, [.c (.int .i64 6), .c (.int .i64 0), .c (.str ⟨#[]⟩), .own 301, .own 302])],
        [(301, 1, strs i.2.2.1), (302, 5, encL i.2.2.2)]⟩) (0, false, [], []) ⟨by simp, by simp, by simp, by simp, by simp⟩ ?_ ?_
    · refine (Le.ownB (b := 7) (j := 3) (d := 301) (sz := 1) (qs := [.c (.int .i64 6), .c (.int .i64 0), .c (.str ⟨#[]⟩), .z 1, .z 5]) (by decide) (by simp) rfl (by simp [Q.killO]) (by simp [PV.map, Q.killO])).trans
        ((Le.ownB (b := 7) (j := 4) (d := 302) (sz := 5) (qs := [.c (.int .i64 6), .c (.int .i64 0), .c (.str ⟨#[]⟩), .own 301, .z 5]) (by decide) (by simp [upd]) rfl (by simp [upd, del, Q.killO]) (by simp [PV.map, Q.killO])).trans (Le.of_eq (by simp [upd, del, strs, encL])))
    · rintro ⟨i, d, a, b⟩ ⟨g1, g2, g3, g4, g5⟩
      simp only at g1 g2 g3 g4 g5
      rcases Nat.lt_or_ge i ks.length with hlt | hge
      · obtain ⟨y, hy, hd, _⟩ := drop_at hlt
        obtain ⟨t, ht, hd', _⟩ := drop_at (l := l) (i := i) (by omega)
        have b1 : ((i : Int) < (ks.length : Int)) = True := eq_true (by omega)
        have a1 := strs_at hy
        have a2 := encL_at ht
        have f1 := T.enc_len t
        have hi : i < l.length := by omega
        rw [hd, hd'] at g2 g3
        simp only [putS] at g2 g3
        cases d with
        | true =>
          by_cases e : y = key
          · have e' : (y = key) = True := eq_true e
            simp only [rg, go_sem, seval, Prod.fst, b1, a1, a2, e', f1, fx, encL_len, encL_appL, encL_one, List.length_append]
            repeat' (first | with_reducible assumption | with_reducible refine And.intro ?_ ?_ | intro _)
            all_goals first | omega | assumption | skip
            refine ⟨(i + 1, true, a, b), ⟨by show i + 1 ≤ _; omega, ?_, ?_, by show a.length ≤ 2 * (i + 1); omega, by show b.length ≤ 2 * (i + 1); omega⟩, by show ks.length - (i + 1) < _; omega, Le.refl _⟩
            · rw [← g2]; simp [e]
            · rw [← g3]; simp [e]
          · have e' : (y = key) = False := eq_false e
            simp only [rg, go_sem, seval, Prod.fst, b1, a1, a2, e', f1, fx, encL_len, encL_appL, encL_one, List.length_append]
            repeat' (first | with_reducible assumption | with_reducible refine And.intro ?_ ?_ | intro _)
            all_goals first | omega | assumption | skip
            refine ⟨(i + 1, true, a ++ [y], b ++ [t]), ⟨by show i + 1 ≤ _; omega, ?_, ?_, by show (a ++ [y]).length ≤ 2 * (i + 1); simp; omega, by show (b ++ [t]).length ≤ 2 * (i + 1); simp; omega⟩, by show ks.length - (i + 1) < _; omega, Le.of_eq (by simp [strs])⟩
            · rw [← g2]; simp [e]
            · rw [← g3]; simp [e]
        | false =>
          by_cases c : sl y key
          · have c' : sl y key = True := eq_true c
            have e : ¬ y = key := fun h => by rw [h] at c; exact sl_irrefl _ c
            have e' : (y = key) = False := eq_false e
            simp only [rg, go_sem, seval, Prod.fst, b1, a1, a2, c', e', f1, fx, encL_len, encL_appL, encL_one, List.length_append]
            repeat' (first | with_reducible assumption | with_reducible refine And.intro ?_ ?_ | intro _)
            all_goals first | omega | assumption | skip
            refine ⟨(i + 1, false, a ++ [y], b ++ [t]), ⟨by show i + 1 ≤ _; omega, ?_, ?_, by show (a ++ [y]).length ≤ 2 * (i + 1); simp; omega, by show (b ++ [t]).length ≤ 2 * (i + 1); simp; omega⟩, by show ks.length - (i + 1) < _; omega, Le.of_eq (by simp [strs])⟩
            · rw [← g2]; simp [e, c]
            · rw [← g3]; simp [e, c]
          · have c' : sl y key = False := eq_false c
            by_cases e : y = key
            · have e' : (y = key) = True := eq_true e
              simp only [rg, go_sem, seval, Prod.fst, b1, a1, a2, c', e', f1, fx, encL_len, encL_appL, encL_one, List.length_append]
              repeat' (first | with_reducible assumption | with_reducible refine And.intro ?_ ?_ | intro _)
              all_goals first | omega | assumption | skip
              refine ⟨(i + 1, true, a ++ [key], b ++ [x]), ⟨by show i + 1 ≤ _; omega, ?_, ?_, by show (a ++ [key]).length ≤ 2 * (i + 1); simp; omega, by show (b ++ [x]).length ≤ 2 * (i + 1); simp; omega⟩, by show ks.length - (i + 1) < _; omega, Le.of_eq (by simp [strs])⟩
              · rw [e] at g2; rw [← g2]; simp [sl_irrefl]
              · rw [e] at g3; rw [← g3]; simp [sl_irrefl]
            · have e' : (y = key) = False := eq_false e
              simp only [rg, go_sem, seval, Prod.fst, b1, a1, a2, c', e', f1, fx, encL_len, encL_appL, encL_one, List.length_append]
              have ha : a.length + 1 + 1 ≤ 2000002 := by omega
              have hb : b.length + 1 + 1 ≤ 2000002 := by omega
              clear b1 c' e'
              repeat' (first | with_reducible assumption | with_reducible refine And.intro ?_ ?_ | intro _)
              · omega
              · omega
              · omega
              · exact mulB16 ha
              · omega
              · exact mulB80 hb
              · omega
              · omega
              · refine ⟨(i + 1, true, a ++ [key, y], b ++ [x, t]), ⟨by show i + 1 ≤ _; omega, ?_, ?_, by show (a ++ [key, y]).length ≤ 2 * (i + 1); simp; omega, by show (b ++ [x, t]).length ≤ 2 * (i + 1); simp; omega⟩, by show ks.length - (i + 1) < _; omega, Le.of_eq (by simp [strs, encL_app, encL])⟩
                · rw [← g2]; simp [e, c]
                · rw [← g3]; simp [e, c]
      · obtain rfl : i = ks.length := by omega
        have b1 : ((ks.length : Int) < (ks.length : Int)) = False := eq_false (by omega)
        rw [List.drop_length] at g2 g3
        cases d with
        | true =>
          simp only [putS, if_true, List.append_nil] at g2 g3
          simp only [rg, go_sem, seval, Prod.fst, b1, fx, encL_len, encL_appL, encL_one, List.length_append]
          repeat' (first | with_reducible assumption | with_reducible refine And.intro ?_ ?_ | intro _)
          all_goals first | omega | assumption | skip
          all_goals simp [putT, T.keys, T.list, T.enc, g2, g3]
        | false =>
          simp only [putS] at g2 g3
          simp only [rg, go_sem, seval, Prod.fst, b1, fx, encL_len, encL_appL, encL_one, List.length_append]
          repeat' (first | with_reducible assumption | with_reducible refine And.intro ?_ ?_ | intro _)
          all_goals first | omega | assumption | skip
          all_goals simp [putT, T.keys, T.list, T.enc, ← g2, ← g3, strs]
structure goodM (m : Nat) (z : Int) (v : T) : Prop where
  f : v.fit 1000
  e : v.keys.length = v.list.length
  m : v.keys.length ≤ m
  z : sizeT v ≤ z
end Go.Proofs.Pw
/- A key's place among keys in order; a tree put there. -/
namespace Go.Proofs.Pw
/-- Keys in order, each once. -/
def Asc (ks : List ByteArray) : Prop := ks.Pairwise sl
open Classical in
/-- How many keys are ahead of it. -/
noncomputable def posS (key : ByteArray) : List ByteArray → Nat
  | [] => 0
  | k :: ks => if sl k key then posS key ks + 1 else 0
theorem posS_le (key : ByteArray) : ∀ ks, posS key ks ≤ ks.length
  | [] => Nat.le_refl _
  | k :: ks => by
    have := posS_le key ks
    simp only [posS]; split <;> simp <;> omega
theorem Asc.tail {k : ByteArray} {ks : List ByteArray} (h : Asc (k :: ks)) : Asc ks := (List.pairwise_cons.1 h).2
theorem Asc.head {k : ByteArray} {ks : List ByteArray} (h : Asc (k :: ks)) : ∀ s ∈ ks, sl k s := (List.pairwise_cons.1 h).1
theorem posS_lt {key : ByteArray} : ∀ {ks : List ByteArray}, Asc ks → ∀ {m : Nat} {k : ByteArray}, ks[m]? = some k → (sl k key ↔ m < posS key ks)
  | [], _, m, k, h => by simp at h
  | x :: ks, ha, m, k, h => by
    simp only [posS]
    cases m with
    | zero =>
      simp at h; subst h
      by_cases c : sl x key
      · simp [c]
      · simp [c]
    | succ m =>
      have hk : ks[m]? = some k := by simpa using h
      by_cases c : sl x key
      · rw [if_pos c, posS_lt ha.tail hk]; omega
      · rw [if_neg c]
        refine ⟨fun hs => absurd (sl_trans (ha.head k (List.mem_of_getElem? hk)) hs) c, fun h => by omega⟩
theorem putS_done (key : ByteArray) (x : T) : ∀ {ks : List ByteArray} {l : List T}, (∀ s ∈ ks, s ≠ key) → ks.length = l.length → putS key x true ks l = (ks, l)
  | [], [], _, _ => by simp [putS]
  | [], _ :: _, _, h => by simp at h
  | _ :: _, [], _, h => by simp at h
  | k :: ks, t :: l, hk, hl => by
    have ih := putS_done key x (ks := ks) (l := l) (fun s hs => hk s (by simp [hs])) (by simpa using hl)
    have := hk k (by simp)
    simp [putS, this, ih]
theorem putS_in {key : ByteArray} {x : T} : ∀ {ks : List ByteArray} {l : List T}, Asc ks → ks.length = l.length → ks[posS key ks]? = some key → putS key x false ks l = (ks, l.set (posS key ks) x)
  | [], _, _, _, h => by simp [posS] at h
  | _ :: _, [], _, h, _ => by simp at h
  | k :: ks, t :: l, ha, hl, hp => by
    by_cases c : sl k key
    · have hne : k ≠ key := fun e => by subst e; exact sl_irrefl _ c
      simp only [posS, if_pos c, List.getElem?_cons_succ] at hp
      have ih := putS_in (x := x) (l := l) ha.tail (by simpa using hl) hp
      simp [putS, posS, c, hne, ih]
    · simp only [posS, if_neg c, List.getElem?_cons_zero, Option.some.injEq] at hp
      subst hp
      have := putS_done k x (ks := ks) (l := l) (fun s hs e => by have := ha.head s hs; rw [e] at this; exact sl_irrefl _ this) (by simpa using hl)
      simp [putS, posS, c, this]
theorem putS_new {key : ByteArray} {x : T} : ∀ {ks : List ByteArray} {l : List T}, Asc ks → ks.length = l.length → ks[posS key ks]? ≠ some key → putS key x false ks l = (ks.take (posS key ks) ++ key :: ks.drop (posS key ks), l.take (posS key ks) ++ x :: l.drop (posS key ks))
  | [], [], _, _, _ => by simp [putS, posS]
  | [], _ :: _, _, h, _ => by simp at h
  | _ :: _, [], _, h, _ => by simp at h
  | k :: ks, t :: l, ha, hl, hp => by
    by_cases c : sl k key
    · have hne : k ≠ key := fun e => by subst e; exact sl_irrefl _ c
      simp only [posS, if_pos c, List.getElem?_cons_succ] at hp
      have ih := putS_new (x := x) (l := l) ha.tail (by simpa using hl) hp
      simp [putS, posS, c, hne, ih]
    · simp only [posS, if_neg c, List.getElem?_cons_zero, ne_eq, Option.some.injEq] at hp
      have h1 : sl key k := (sl_tri k key).1 (fun h => h.elim c hp)
      have := putS_done key x (ks := ks) (l := l) (fun s hs e => by have := sl_trans h1 (ha.head s hs); rw [e] at this; exact sl_irrefl _ this) (by simpa using hl)
      simp [putS, posS, c, hp, this]
theorem okKeys_asc {ks : List ByteArray} (h : okKeys ks) : Asc ks := by
  refine List.pairwise_iff_getElem.2 ?_
  intro i j hi hj hij
  have key : ∀ n, ∀ (hn : i + n + 1 < ks.length), sl ks[i] (ks[i + n + 1]) := by
    intro n
    induction n with
    | zero => intro hn; exact h.2 i _ _ hn (List.getElem?_eq_getElem _) (List.getElem?_eq_getElem _)
    | succ n ih =>
      intro hn
      have h1 := ih (by omega)
      have h2 := h.2 (i + n + 1) _ _ hn (List.getElem?_eq_getElem (by omega)) (List.getElem?_eq_getElem hn)
      exact sl_trans h1 h2
  have := key (j - i - 1) (by omega)
  simpa [show i + (j - i - 1) + 1 = j by omega] using this
/-- Put into keys in order, they are in order. -/
theorem putS_asc {key : ByteArray} {x : T} {ks : List ByteArray} {l : List T} (ha : Asc ks) (hl : ks.length = l.length) : Asc (putS key x false ks l).1 := by
  by_cases c : ks[posS key ks]? = some key
  · rw [putS_in ha hl c]; exact ha
  · rw [putS_new ha hl c]
    have h1 : ∀ s ∈ ks.take (posS key ks), sl s key := fun s hs => by
      obtain ⟨i, hi⟩ := List.getElem?_of_mem hs
      rw [List.getElem?_take] at hi
      split at hi
      · rename_i hlt; exact (posS_lt ha hi).2 hlt
      · cases hi
    have h2 : ∀ s ∈ ks.drop (posS key ks), sl key s := fun s hs => by
      obtain ⟨i, hi⟩ := List.getElem?_of_mem hs
      rw [List.getElem?_drop] at hi
      have hn : ¬ sl s key := fun h => by have := (posS_lt ha hi).1 h; omega
      refine (sl_tri s key).1 (fun h => h.elim hn (fun e => ?_))
      subst e
      cases i with
      | zero => exact c hi
      | succ i =>
        have hlt : posS s ks < ks.length := by have := (List.getElem?_eq_some_iff.1 hi).1; omega
        have h3 : ¬ sl (ks[posS s ks]) s := fun h => by have := (posS_lt ha (List.getElem?_eq_getElem hlt)).1 h; omega
        obtain ⟨hlt2, he⟩ := List.getElem?_eq_some_iff.1 hi
        have h4 := (List.pairwise_iff_getElem.1 ha) (posS s ks) (posS s ks + (i + 1)) hlt hlt2 (by omega)
        rw [he] at h4
        exact h3 h4
    unfold Asc at ha ⊢
    rw [← List.take_append_drop (posS key ks) ks, List.pairwise_append] at ha
    rw [List.pairwise_append]
    exact ⟨ha.1, List.pairwise_cons.2 ⟨h2, ha.2.1⟩, fun a h3 b h4 => by
      rcases List.mem_cons.1 h4 with rfl | h4
      · exact h1 a h3
      · exact ha.2.2 a h3 b h4⟩
theorem putS_len2 {key : ByteArray} {x : T} {ks : List ByteArray} {l : List T} (ha : Asc ks) (hl : ks.length = l.length) : (putS key x false ks l).1.length = (putS key x false ks l).2.length := by
  by_cases c : ks[posS key ks]? = some key
  · rw [putS_in ha hl c]; simpa using hl
  · rw [putS_new ha hl c]; simp; omega
end Go.Proofs.Pw
/- A key looked for among keys in order; a tree put at a key. -/
set_option linter.unusedSimpArgs false
set_option maxRecDepth 20000
namespace Go.Proofs.Pw
set_option linter.unusedSectionVars false
variable [Globs]
def x_CloneS : X := (.seq (.reg [⟨some 2, none, .mv (.k (.z 1))⟩] none [0]) (.seq (.seq (.reg [⟨some 3, none, .mv (.t 0)⟩, ⟨some 4, none, .isn (.t 3)⟩] none [0, 4]) (.cond (.t 4) (.seq (.reg [⟨some 2, none, .mv (.k (.z 1))⟩] none [2]) .ret) .skip)) (.seq (.reg [⟨some 5, none, .bsl 1 []⟩, ⟨some 6, none, .mv (.t 0)⟩, ⟨some 7, none, .app (.t 5) (.t 6) 1 16 []⟩, ⟨some 2, none, .mv (.t 7)⟩] none [2]) .ret)))
theorem chk_CloneS : chkX Go.Proofs.Try.prog 8 (Go.Proofs.Try.f69.body.getD .skip) x_CloneS = true := by kernel_rfl
theorem rs_CloneS : okRs Go.Proofs.Try.prog Go.Proofs.Try.f69.results.toList [.tmp 2] = true := by kernel_rfl
theorem call_CloneS : okCallee Go.Proofs.Try.prog 69 = true := by kernel_rfl
def x_lessS : X := (.seq (.reg [⟨some 4, none, .mv (.k (.c (.bool false)))⟩] none [0, 1]) (.seq (.reg [⟨some 5, none, .mv (.t 0)⟩, ⟨some 6, none, .call 79 [(.t 5)]⟩, ⟨some 7, none, .mv (.t 6)⟩, ⟨some 8, some (7, true), .mv (.t 1)⟩, ⟨some 9, some (7, true), .call 79 [(.t 8)]⟩, ⟨some 10, some (7, true), .not (.t 9)⟩, ⟨some 11, none, .pick (.t 7) (.t 10) (.k (.c (.bool false)))⟩, ⟨some 12, none, .mv (.t 11)⟩, ⟨some 13, some (12, false), .mv (.t 0)⟩, ⟨some 14, some (12, false), .mv (.t 1)⟩, ⟨some 15, some (12, false), .bin false .lss (.t 13) (.t 14)⟩, ⟨some 16, none, .pick (.t 12) (.k (.c (.bool true))) (.t 15)⟩, ⟨some 4, none, .mv (.t 16)⟩] none [4]) .ret))
theorem chk_lessS : chkX Go.Proofs.Try.prog 17 (Go.Proofs.Try.f84.body.getD .skip) x_lessS = true := by kernel_rfl
theorem rs_lessS : okRs Go.Proofs.Try.prog Go.Proofs.Try.f84.results.toList [.tmp 4] = true := by kernel_rfl
theorem call_lessS : okCallee Go.Proofs.Try.prog 84 = true := by kernel_rfl
def x_nanS2 : X := (.seq (.reg [⟨some 2, none, .mv (.k (.c (.bool false)))⟩] none [0]) (.seq (.reg [⟨some 3, none, .mv (.t 0)⟩, ⟨some 4, none, .mv (.t 0)⟩, ⟨some 5, none, .bin false .neq (.t 3) (.t 4)⟩, ⟨some 2, none, .mv (.t 5)⟩] none [2]) .ret))
theorem chk_nanS2 : chkX Go.Proofs.Try.prog 6 (Go.Proofs.Try.f85.body.getD .skip) x_nanS2 = true := by kernel_rfl
theorem rs_nanS2 : okRs Go.Proofs.Try.prog Go.Proofs.Try.f85.results.toList [.tmp 2] = true := by kernel_rfl
theorem call_nanS2 : okCallee Go.Proofs.Try.prog 85 = true := by kernel_rfl
def x_BinS : X := (.seq (.reg [⟨some 4, none, .mv (.k (.c (.int .i64 0)))⟩, ⟨some 5, none, .mv (.k (.c (.bool false)))⟩] none [0, 1]) (.seq (.reg [⟨some 10, none, .mv (.t 0)⟩, ⟨some 11, none, .len (.t 10) false⟩, ⟨some 6, none, .mv (.t 11)⟩] none [0, 1, 6]) (.seq (.reg [⟨some 12, none, .mv (.t 6)⟩, ⟨some 7, none, .mv (.k (.c (.int .i64 0)))⟩, ⟨some 8, none, .mv (.t 12)⟩] none [0, 1, 6, 7, 8]) (.seq (.block 0 (.loop (.seq (.seq (.reg [⟨some 13, none, .mv (.t 7)⟩, ⟨some 14, none, .mv (.t 8)⟩, ⟨some 15, none, .bin false .lss (.t 13) (.t 14)⟩] none [0, 1, 6, 7, 8, 15]) (.cond (.t 15) .skip (.exit 0))) (.block 1 (.seq (.reg [⟨some 16, none, .mv (.t 7)⟩, ⟨some 17, none, .mv (.t 8)⟩, ⟨some 18, none, .bin false .add (.t 16) (.t 17)⟩, ⟨some 19, none, .conv .u64 (.t 18)⟩, ⟨some 20, none, .bin false .shr (.t 19) (.k (.c (.int .u64 1)))⟩, ⟨some 21, none, .conv .i64 (.t 20)⟩, ⟨some 9, none, .mv (.t 21)⟩] none [0, 1, 6, 7, 8, 9]) (.seq (.reg [⟨some 22, none, .mv (.t 0)⟩, ⟨some 23, none, .mv (.t 9)⟩, ⟨some 24, none, .ia (.t 22) (.t 23) 1⟩, ⟨some 25, none, .load (.t 24) none⟩, ⟨some 26, none, .mv (.t 1)⟩, ⟨some 27, none, .call 84 [(.t 25), (.t 26)]⟩] none [0, 1, 6, 7, 8, 9, 27]) (.cond (.t 27) (.reg [⟨some 28, none, .mv (.t 9)⟩, ⟨some 29, none, .bin false .add (.t 28) (.k (.c (.int .i64 1)))⟩, ⟨some 7, none, .mv (.t 29)⟩] none [0, 1, 6, 7, 8]) (.reg [⟨some 30, none, .mv (.t 9)⟩, ⟨some 8, none, .mv (.t 30)⟩] none [0, 1, 6, 7, 8])))))))) (.seq (.reg [⟨some 31, none, .mv (.t 7)⟩, ⟨some 32, none, .mv (.t 7)⟩, ⟨some 33, none, .mv (.t 6)⟩, ⟨some 34, none, .bin false .lss (.t 32) (.t 33)⟩, ⟨some 35, none, .mv (.t 34)⟩, ⟨some 36, some (35, true), .mv (.t 0)⟩, ⟨some 37, some (35, true), .mv (.t 7)⟩, ⟨some 38, some (35, true), .ia (.t 36) (.t 37) 1⟩, ⟨some 39, some (35, true), .load (.t 38) none⟩, ⟨some 40, some (35, true), .mv (.t 1)⟩, ⟨some 41, some (35, true), .bin false .eql (.t 39) (.t 40)⟩, ⟨some 42, some (35, true), .mv (.t 41)⟩, ⟨some 43, some (42, false), .mv (.t 0)⟩, ⟨some 44, some (42, false), .mv (.t 7)⟩, ⟨some 45, some (42, false), .ia (.t 43) (.t 44) 1⟩, ⟨some 46, some (42, false), .load (.t 45) none⟩, ⟨some 47, some (42, false), .call 85 [(.t 46)]⟩, ⟨some 48, some (42, false), .mv (.t 47)⟩, ⟨some 49, some (48, true), .mv (.t 1)⟩, ⟨some 50, some (48, true), .call 85 [(.t 49)]⟩, ⟨some 51, some (42, false), .pick (.t 48) (.t 50) (.k (.c (.bool false)))⟩, ⟨some 52, some (35, true), .pick (.t 42) (.k (.c (.bool true))) (.t 51)⟩, ⟨some 53, none, .pick (.t 35) (.t 52) (.k (.c (.bool false)))⟩, ⟨some 4, none, .mv (.t 31)⟩, ⟨some 5, none, .mv (.t 53)⟩] none [4, 5]) .ret)))))
theorem chk_BinS : chkX Go.Proofs.Try.prog 54 (Go.Proofs.Try.f70.body.getD .skip) x_BinS = true := by kernel_rfl
theorem rs_BinS : okRs Go.Proofs.Try.prog Go.Proofs.Try.f70.results.toList [.tmp 4, .tmp 5] = true := by kernel_rfl
theorem call_BinS : okCallee Go.Proofs.Try.prog 70 = true := by kernel_rfl
def x_put : X := (.seq (.reg [⟨some 3, none, .box (.t 0) (some 5)⟩, ⟨some 5, none, .box (.t 2) (some 5)⟩, ⟨some 6, none, .alloc [(.c (.int .i64 0)), (.c (.int .i64 0)), (.c (.str ⟨#[]⟩)), (.z 1), (.z 5)]⟩] none [1, 3, 5, 6]) (.seq (.mix [⟨some 10, none, .fa (.t 3) 3⟩, ⟨some 11, none, .load (.t 10) none⟩, ⟨some 12, none, .callo 69 [(.t 11)]⟩, ⟨some 13, none, .fa (.t 3) 4⟩, ⟨some 14, none, .load (.t 13) none⟩, ⟨some 15, none, .callo 41 [(.t 14)]⟩, ⟨some 16, none, .build [(.c (.int .i64 0)), (.c (.int .i64 0)), (.c (.str ⟨#[]⟩)), (.z 1), (.z 5)] [(0, (.k (.c (.int .i64 6))), none), (3, (.t 12), none), (4, (.t 15), none)]⟩, ⟨some 7, none, .alloc [(.c (.int .i64 0)), (.c (.int .i64 0)), (.c (.str ⟨#[]⟩)), (.z 1), (.z 5)]⟩] [⟨none, none, .st (.t 7) (.t 16) (some 5)⟩] [[], [], [], [2], [2], [], [], [0, 1, 2, 3, 4, 5, 6]] [1, 5, 6, 7]) (.seq (.reg [⟨some 18, none, .fa (.t 7) 3⟩, ⟨some 19, none, .load (.t 18) none⟩, ⟨some 20, none, .mv (.t 1)⟩, ⟨some 21, none, .callb 70 [(.t 19), (.t 20)]⟩, ⟨some 17, none, .mv (.t 21)⟩, ⟨some 22, none, .ext (.t 17) 0⟩, ⟨some 23, none, .ext (.t 17) 1⟩, ⟨some 8, none, .mv (.t 22)⟩, ⟨some 9, none, .mv (.t 23)⟩] none [1, 5, 6, 7, 8, 9]) (.seq (.seq (.reg [⟨some 24, none, .mv (.t 9)⟩] none [1, 5, 6, 7, 8, 24]) (.cond (.t 24) (.seq (.reg [⟨some 25, none, .fa (.t 7) 4⟩, ⟨some 26, none, .load (.t 25) none⟩, ⟨some 27, none, .mv (.t 8)⟩, ⟨some 28, none, .load (.t 5) (some 5)⟩, ⟨some 29, none, .ia (.t 26) (.t 27) 5⟩, ⟨none, none, .st (.t 29) (.t 28) (some 5)⟩] none [6, 7]) (.seq (.reg [⟨some 30, none, .load (.t 7) (some 5)⟩, ⟨none, none, .st (.t 6) (.t 30) (some 5)⟩] none [6]) .ret)) .skip)) (.seq (.reg [⟨some 31, none, .fa (.t 7) 3⟩, ⟨some 32, none, .load (.t 31) none⟩, ⟨some 33, none, .mv (.t 8)⟩, ⟨some 34, none, .mv (.t 1)⟩, ⟨some 35, none, .bsl 1 [((.t 34), none)]⟩, ⟨some 36, none, .call 71 [(.t 32), (.t 33), (.t 35)]⟩, ⟨some 37, none, .fa (.t 7) 3⟩, ⟨none, none, .st (.t 37) (.t 36) none⟩] none [5, 6, 7, 8]) (.seq (.reg [⟨some 38, none, .fa (.t 7) 4⟩, ⟨some 39, none, .load (.t 38) none⟩, ⟨some 40, none, .mv (.t 8)⟩, ⟨some 41, none, .load (.t 5) (some 5)⟩, ⟨some 42, none, .bsl 5 [((.t 41), (some 5))]⟩, ⟨some 43, none, .call 72 [(.t 39), (.t 40), (.t 42)]⟩, ⟨some 44, none, .fa (.t 7) 4⟩, ⟨none, none, .st (.t 44) (.t 43) none⟩] none [6, 7]) (.seq (.reg [⟨some 45, none, .load (.t 7) (some 5)⟩, ⟨none, none, .st (.t 6) (.t 45) (some 5)⟩] none [6]) .ret)))))))
theorem chk_put : chkX Go.Proofs.Try.prog 46 (Go.Proofs.Try.f40.body.getD .skip) x_put = true := by kernel_rfl
theorem rs_put : okRs Go.Proofs.Try.prog Go.Proofs.Try.f40.results.toList [.cell 6 (some 5)] = true := by kernel_rfl
theorem call_put : okCallee Go.Proofs.Try.prog 40 = true := by kernel_rfl
noncomputable def spCloneS  : Spec := Spec.of (ι := (List ByteArray)) [false] (fun i => [.d (.one (.row 1 (strs i)))]) (fun i => lenB 1000000 i.length) (fun i => [.own 1 (strs i)]) (fun _ => [.gone])
theorem spCloneS_inj : ∀ i j : (List ByteArray), (fun (i : (List ByteArray)) => ([.d (.one (.row 1 (strs i)))] : List AV)) i = (fun (i : (List ByteArray)) => ([.d (.one (.row 1 (strs i)))] : List AV)) j → i = j := by
  intro l l' h
  simpa [strs_eq, T.enc_eq, encL_eq, F.enc_eq, encF_eq, Tk.enc_eq, encTk_eq, Gn.enc_eq, ints_eq, Int.natCast_inj] using h
theorem spCloneS_md  : (spCloneS).md = [false] := rfl
theorem spCloneS_pre  (l : List ByteArray) : (spCloneS).pre [.d (.one (.row 1 (strs l)))] = (lenB 1000000 l.length) := Spec.of_pre' spCloneS_inj l
theorem spCloneS_alts  : (spCloneS).alts = none := rfl
theorem spCloneS_res  (l : List ByteArray) : (spCloneS).res [.d (.one (.row 1 (strs l)))] = [.own 1 (strs l)] := Spec.of_res spCloneS_inj l
theorem spCloneS_out  (l : List ByteArray) : (spCloneS).out [.d (.one (.row 1 (strs l)))] = [.gone] := Spec.of_out spCloneS_inj l
theorem CloneS_sound : Sound Go.Proofs.Try.prog 69 spCloneS := by
  refine sound_fam GOK.nil Go.Proofs.Try.func69 (c := Go.Proofs.Try.f69.body.getD .skip) rfl (n := 8) rfl chk_CloneS rs_CloneS (fun _ => by simp) ?_ ?_
  · exact spCloneS_inj
  · intro l h1
    simp only [lenB] at h1
    simp only [x_CloneS, rg, go_sem, seval, strs_len]
    repeat' (first | with_reducible assumption | with_reducible refine And.intro ?_ ?_ | intro _)
    all_goals first | omega | skip
    rename_i h
    have : l = [] := by cases l <;> simp_all [strs]
    rw [this]; rfl
noncomputable def spNanS2  : Spec := Spec.of (ι := C) [false] (fun i => [.d (.one i)]) (fun i => ∃ a, i = .str a) (fun _ => [.d (.one (.bool false))]) (fun _ => [.gone])
theorem spNanS2_inj : ∀ i j : C, (fun (i : C) => ([.d (.one i)] : List AV)) i = (fun (i : C) => ([.d (.one i)] : List AV)) j → i = j := by
  intro c c' h
  simpa [strs_eq, T.enc_eq, encL_eq, F.enc_eq, encF_eq, Tk.enc_eq, encTk_eq, Gn.enc_eq, ints_eq, Int.natCast_inj] using h
theorem spNanS2_md  : (spNanS2).md = [false] := rfl
theorem spNanS2_pre  (c : C) : (spNanS2).pre [.d (.one c)] = (∃ a, c = .str a) := Spec.of_pre' spNanS2_inj c
theorem spNanS2_alts  : (spNanS2).alts = none := rfl
theorem spNanS2_res  (c : C) : (spNanS2).res [.d (.one c)] = [.d (.one (.bool false))] := Spec.of_res spNanS2_inj c
theorem spNanS2_out  (c : C) : (spNanS2).out [.d (.one c)] = [.gone] := Spec.of_out spNanS2_inj c
theorem nanS2_sound : Sound Go.Proofs.Try.prog 85 spNanS2 := by
  refine sound_fam GOK.nil Go.Proofs.Try.func85 (c := Go.Proofs.Try.f85.body.getD .skip) rfl (n := 6) rfl chk_nanS2 rs_nanS2 (fun _ => by simp) ?_ ?_
  · exact spNanS2_inj
  · rintro c ⟨a, rfl⟩
    simp only [x_nanS2, rg, go_sem, seval]
    repeat' (first | with_reducible assumption | with_reducible refine And.intro ?_ ?_ | intro _)
    all_goals first | omega | skip
noncomputable def spLessS  : Spec := Spec.of (ι := ByteArray × ByteArray) [false, false] (fun i => [.d (.one (.str i.1)), .d (.one (.str i.2))]) (fun _ => True) (fun i => [.d (.one (.bool (decide (sl i.1 i.2))))]) (fun _ => [.gone, .gone])
theorem spLessS_inj : ∀ i j : ByteArray × ByteArray, (fun (i : ByteArray × ByteArray) => ([.d (.one (.str i.1)), .d (.one (.str i.2))] : List AV)) i = (fun (i : ByteArray × ByteArray) => ([.d (.one (.str i.1)), .d (.one (.str i.2))] : List AV)) j → i = j := by
  rintro ⟨a, b⟩ ⟨a', b'⟩ h
  simp only [Prod.mk.injEq]
  simpa [strs_eq, T.enc_eq, encL_eq, F.enc_eq, encF_eq, Tk.enc_eq, encTk_eq, Gn.enc_eq, ints_eq, Int.natCast_inj] using h
theorem spLessS_md  : (spLessS).md = [false, false] := rfl
theorem spLessS_pre  (a : ByteArray) (b : ByteArray) : (spLessS).pre [.d (.one (.str a)), .d (.one (.str b))] = (True) := Spec.of_pre' spLessS_inj (a, b)
theorem spLessS_alts  : (spLessS).alts = none := rfl
theorem spLessS_res  (a : ByteArray) (b : ByteArray) : (spLessS).res [.d (.one (.str a)), .d (.one (.str b))] = [.d (.one (.bool (decide (sl a b))))] := Spec.of_res spLessS_inj (a, b)
theorem spLessS_out  (a : ByteArray) (b : ByteArray) : (spLessS).out [.d (.one (.str a)), .d (.one (.str b))] = [.gone, .gone] := Spec.of_out spLessS_inj (a, b)
theorem lessS_sound : Sound Go.Proofs.Try.prog 84 spLessS := by
  refine sound_fam (GOK.cons (l := []) call_nanS nanS_sound GOK.nil) Go.Proofs.Try.func84 (c := Go.Proofs.Try.f84.body.getD .skip) rfl (n := 17) rfl chk_lessS rs_lessS (fun _ => by simp) ?_ ?_
  · exact spLessS_inj
  · rintro ⟨a, b⟩ _
    simp only [x_lessS, rg, go_sem, seval, spNanS_md, spNanS_pre, spNanS_alts, spNanS_res, spNanS_out]
    repeat' (first | with_reducible assumption | with_reducible refine And.intro ?_ ?_ | intro _)
    all_goals first | omega | skip
open Classical in
noncomputable def spBinS  : Spec := Spec.of (ι := (List ByteArray) × ByteArray) [false, false] (fun i => [.d (.one (.row 1 (strs i.1))), .d (.one (.str i.2))]) (fun i => Asc i.1 ∧ lenB 1000000 i.1.length) (fun i => [.d (.one (.int .i64 (posS i.2 i.1))), .d (.one (.bool (decide (i.1[posS i.2 i.1]? = some i.2))))]) (fun _ => [.gone, .gone])
theorem spBinS_inj : ∀ i j : (List ByteArray) × ByteArray, (fun (i : (List ByteArray) × ByteArray) => ([.d (.one (.row 1 (strs i.1))), .d (.one (.str i.2))] : List AV)) i = (fun (i : (List ByteArray) × ByteArray) => ([.d (.one (.row 1 (strs i.1))), .d (.one (.str i.2))] : List AV)) j → i = j := by
  rintro ⟨ks, key⟩ ⟨ks', key'⟩ h
  simp only [Prod.mk.injEq]
  simpa [strs_eq, T.enc_eq, encL_eq, F.enc_eq, encF_eq, Tk.enc_eq, encTk_eq, Gn.enc_eq, ints_eq, Int.natCast_inj] using h
theorem spBinS_md  : (spBinS).md = [false, false] := rfl
theorem spBinS_pre  (ks : List ByteArray) (key : ByteArray) : (spBinS).pre [.d (.one (.row 1 (strs ks))), .d (.one (.str key))] = (Asc ks ∧ lenB 1000000 ks.length) := Spec.of_pre' spBinS_inj (ks, key)
theorem spBinS_alts  : (spBinS).alts = none := rfl
theorem spBinS_res  (ks : List ByteArray) (key : ByteArray) : (spBinS).res [.d (.one (.row 1 (strs ks))), .d (.one (.str key))] = [.d (.one (.int .i64 (posS key ks))), .d (.one (.bool (decide (ks[posS key ks]? = some key))))] := Spec.of_res spBinS_inj (ks, key)
theorem spBinS_out  (ks : List ByteArray) (key : ByteArray) : (spBinS).out [.d (.one (.row 1 (strs ks))), .d (.one (.str key))] = [.gone, .gone] := Spec.of_out spBinS_inj (ks, key)
theorem BinS_sound : Sound Go.Proofs.Try.prog 70 spBinS := by
  refine sound_fam (GOK.cons (l := [(85, spNanS2)]) call_lessS lessS_sound (GOK.cons call_nanS2 nanS2_sound GOK.nil)) Go.Proofs.Try.func70 (c := Go.Proofs.Try.f70.body.getD .skip) rfl (n := 54) rfl chk_BinS rs_BinS (fun _ => by simp) ?_ ?_
  · exact spBinS_inj
  · rintro ⟨ks, key⟩ ⟨ha, h1⟩
    simp only [lenB] at h1
    simp only at ha
    have hp := posS_le key ks
    simp only [x_BinS, rg, go_sem, seval, Prod.fst, strs_len]
    repeat' (first | with_reducible assumption | with_reducible refine And.intro ?_ ?_ | intro _)
    all_goals first | (show _ ≤ (_ : Int); omega) | (show _ < (_ : Int); omega) | skip
    refine pw_loop (ι := Nat × Nat) (fun i => i.2 - i.1) (fun i => i.1 ≤ posS key ks ∧ posS key ks ≤ i.2 ∧ i.2 ≤ ks.length)
      (fun i => ⟨[(0, .q (.c (.row 1 (strs ks)))), (1, .q (.c (.str key))), (6, .q (.c (.int .i64 ks.length))), (7, .q (.c (.int .i64 i.1))), (8, .q (.c (.int .i64 i.2)))], [], []⟩) (0, ks.length) ⟨Nat.zero_le _, hp, Nat.le_refl _⟩ (Le.refl _) ?_
    rintro ⟨i, j⟩ ⟨g1, g2, g3⟩
    simp only at g1 g2 g3
    rcases Nat.lt_or_ge i j with hlt | hge
    · obtain ⟨h, hh⟩ : ∃ h : Nat, h = (i + j) / 2 := ⟨_, rfl⟩
      obtain ⟨y, hy, _, _⟩ := drop_at (l := ks) (i := h) (by omega)
      have b1 : ((i : Int) < (j : Int)) = True := eq_true (by omega)
      have b2 : ((i : Int) + j) / 2 = (h : Int) := by omega
      have a1 := strs_at hy
      simp only [rg, go_sem, seval, Prod.fst, b1, b2, a1, strs_len, spLessS_md, spLessS_pre, spLessS_alts, spLessS_res, spLessS_out]
      repeat' (first | with_reducible assumption | with_reducible refine And.intro ?_ ?_ | intro _)
      all_goals first | (show _ ≤ (_ : Int); omega) | (show _ < (_ : Int); omega) | (show False; omega) | skip
      · have hs := (posS_lt ha hy).1 (by assumption)
        exact ⟨(h + 1, j), ⟨by show h + 1 ≤ _; omega, g2, g3⟩, by show j - (h + 1) < j - i; omega, Le.refl _⟩
      · have hs : ¬ h < posS key ks := fun k => absurd ((posS_lt ha hy).2 k) (by assumption)
        exact ⟨(i, h), ⟨g1, by show posS key ks ≤ h; omega, by show h ≤ _; omega⟩, by show h - i < j - i; omega, Le.refl _⟩
    · have b1 : ((i : Int) < (j : Int)) = False := eq_false (by omega)
      obtain rfl : i = posS key ks := by omega
      rcases Nat.lt_or_ge (posS key ks) ks.length with hlt | hge'
      · obtain ⟨y, hy, _, _⟩ := drop_at hlt
        have a1 := strs_at hy
        have b2 : ((posS key ks : Int) < (ks.length : Int)) = True := eq_true (by omega)
        by_cases c : y = key
        · have e : (ks[posS key ks]? = some key) = True := eq_true (by rw [hy, c])
          simp only [rg, go_sem, seval, Prod.fst, b1, b2, a1, c, e, strs_len, spNanS2_md, spNanS2_pre, spNanS2_alts, spNanS2_res, spNanS2_out]
          repeat' (first | with_reducible assumption | with_reducible refine And.intro ?_ ?_ | intro _)
          all_goals first | (show _ ≤ (_ : Int); omega) | (show _ < (_ : Int); omega) | (show False; omega) | skip
        · have e : (ks[posS key ks]? = some key) = False := eq_false (by rw [hy]; intro h; exact c (Option.some.inj h))
          simp only [rg, go_sem, seval, Prod.fst, b1, b2, a1, c, e, strs_len, spNanS2_md, spNanS2_pre, spNanS2_alts, spNanS2_res, spNanS2_out]
          repeat' (first | with_reducible assumption | with_reducible refine And.intro ?_ ?_ | intro _)
          all_goals first | (show _ ≤ (_ : Int); omega) | (show _ < (_ : Int); omega) | (show False; omega) | exact ⟨_, rfl⟩ | skip
      · have b2 : ((posS key ks : Int) < (ks.length : Int)) = False := eq_false (by omega)
        have a1 : (strs ks).getD (posS key ks) [] = [] := by rw [List.getD_eq_getElem?_getD, List.getElem?_eq_none (by rw [strs_len]; exact hge')]; rfl
        have e : (ks[posS key ks]? = some key) = False := eq_false (by rw [List.getElem?_eq_none hge']; simp)
        simp only [rg, go_sem, seval, Prod.fst, b1, b2, a1, e, strs_len, spNanS2_md, spNanS2_pre, spNanS2_alts, spNanS2_res, spNanS2_out]
        repeat' (first | with_reducible assumption | with_reducible refine And.intro ?_ ?_ | intro _)
        all_goals first | (show _ ≤ (_ : Int); omega) | (show _ < (_ : Int); omega) | (show False; omega) | skip
noncomputable def spPut  : Spec := Spec.of (ι := T × ByteArray × T) [false, false, false] (fun i => [.d (.agg i.1.enc), .d (.one (.str i.2.1)), .d (.agg i.2.2.enc)]) (fun i => Asc i.1.keys ∧ lenB 1000000 i.1.keys.length ∧ i.1.keys.length = i.1.list.length) (fun i => [.d (.agg (putT i.1 i.2.1 i.2.2).enc)]) (fun _ => [.gone, .gone, .gone])
theorem spPut_inj : ∀ i j : T × ByteArray × T, (fun (i : T × ByteArray × T) => ([.d (.agg i.1.enc), .d (.one (.str i.2.1)), .d (.agg i.2.2.enc)] : List AV)) i = (fun (i : T × ByteArray × T) => ([.d (.agg i.1.enc), .d (.one (.str i.2.1)), .d (.agg i.2.2.enc)] : List AV)) j → i = j := by
  rintro ⟨v, key, x⟩ ⟨v', key', x'⟩ h
  simp only [Prod.mk.injEq]
  simpa [strs_eq, T.enc_eq, encL_eq, F.enc_eq, encF_eq, Tk.enc_eq, encTk_eq, Gn.enc_eq, ints_eq, Int.natCast_inj] using h
theorem spPut_md  : (spPut).md = [false, false, false] := rfl
theorem spPut_pre  (v : T) (key : ByteArray) (x : T) : (spPut).pre [.d (.agg v.enc), .d (.one (.str key)), .d (.agg x.enc)] = (Asc v.keys ∧ lenB 1000000 v.keys.length ∧ v.keys.length = v.list.length) := Spec.of_pre' spPut_inj (v, key, x)
theorem spPut_alts  : (spPut).alts = none := rfl
theorem spPut_res  (v : T) (key : ByteArray) (x : T) : (spPut).res [.d (.agg v.enc), .d (.one (.str key)), .d (.agg x.enc)] = [.d (.agg (putT v key x).enc)] := Spec.of_res spPut_inj (v, key, x)
theorem spPut_out  (v : T) (key : ByteArray) (x : T) : (spPut).out [.d (.agg v.enc), .d (.one (.str key)), .d (.agg x.enc)] = [.gone, .gone, .gone] := Spec.of_out spPut_inj (v, key, x)
set_option maxHeartbeats 4000000 in
theorem put_sound : Sound Go.Proofs.Try.prog 40 spPut := by
  refine sound_fam (GOK.cons (l := [(41, spCloneV), (70, spBinS), (71, spInsS), (72, spInsV)]) call_CloneS CloneS_sound (GOK.cons call_CloneV CloneV_sound (GOK.cons call_BinS BinS_sound (GOK.cons call_InsS InsS_sound (GOK.cons call_InsV InsV_sound GOK.nil))))) Go.Proofs.Try.func40 (c := Go.Proofs.Try.f40.body.getD .skip) rfl (n := 46) rfl chk_put rs_put (fun _ => by simp) ?_ ?_
  · exact spPut_inj
  · rintro ⟨v, key, x⟩ ⟨ha, h1, h2⟩
    obtain ⟨k, n, s, ks, l⟩ := v
    simp only [T.keys, T.list, lenB] at ha h1 h2
    have fx := T.enc_len x
    have hp := posS_le key ks
    have ha' : Asc ks = True := eq_true ha
    by_cases c : ks[posS key ks]? = some key
    · have hlt : posS key ks < l.length := by have := (List.getElem?_eq_some_iff.1 c).1; omega
      have c' : (ks[posS key ks]? = some key) = True := eq_true c
      have hx := List.getElem?_eq_getElem hlt
      have a1 := encL_at hx
      have f1 := T.enc_drop5 l[posS key ks]
      have e : putT (T.mk k n s ks l) key x = .mk 6 0 ⟨#[]⟩ ks (l.set (posS key ks) x) := by
        simp only [putT, T.keys, T.list, putS_in ha h2 c]
      simp only [x_put, rg, go_sem, seval, Prod.fst, e, ha', c', a1, f1, T.enc, fx, strs_len, List.append_nil, encL_set, spCloneS_md, spCloneS_pre, spCloneS_alts, spCloneS_res, spCloneS_out, spCloneV_md, spCloneV_pre, spCloneV_alts, spCloneV_res, spCloneV_out, spBinS_md, spBinS_pre, spBinS_alts, spBinS_res, spBinS_out]
      repeat' (first | with_reducible assumption | with_reducible refine And.intro ?_ ?_ | intro _)
      all_goals first | (show _ ≤ (_ : Int); omega) | (show _ < (_ : Int); omega) | (show _ < (_ : Nat); omega) | assumption | skip
    · have c' : (ks[posS key ks]? = some key) = False := eq_false c
      have e : putT (T.mk k n s ks l) key x = .mk 6 0 ⟨#[]⟩ (ks.take (posS key ks) ++ key :: ks.drop (posS key ks)) (l.take (posS key ks) ++ x :: l.drop (posS key ks)) := by
        simp only [putT, T.keys, T.list, putS_new ha h2 c]
      have k1 : [[C.str key]] = strs [key] := rfl
      simp only [x_put, rg, go_sem, seval, Prod.fst, e, ha', c', T.enc, fx, k1, encL_one, strs_len, spCloneS_md, spCloneS_pre, spCloneS_alts, spCloneS_res, spCloneS_out, spCloneV_md, spCloneV_pre, spCloneV_alts, spCloneV_res, spCloneV_out, spBinS_md, spBinS_pre, spBinS_alts, spBinS_res, spBinS_out, spInsS_md, spInsS_pre, spInsS_alts, spInsS_res, spInsS_out, spInsV_md, spInsV_pre, spInsV_alts, spInsV_res, spInsV_out]
      repeat' (first | with_reducible assumption | with_reducible refine And.intro ?_ ?_ | intro _)
      all_goals first | (show _ ≤ (_ : Int); omega) | (show _ < (_ : Int); omega) | (show _ < (_ : Nat); omega) | (show _ ≤ (_ : Nat); omega) | assumption | skip
end Go.Proofs.Pw
/- A tree that is ok is small. -/
namespace Go.Proofs.Pw
mutual
theorem form_many : ∀ (t : T) (d : Int), formT t d → manyT t d = sizeT t
  | .mk k n s ks l, d, h => by
    simp only [formT] at h
    simp only [manyT, sizeT]
    rw [formL_many l d h.1 h.2.2.2.2.2.2.2.2.2.2.2]
theorem formL_many : ∀ (l : List T) (d : Int), 1 ≤ d → formL l (d - 1) → manyL l d = sizeL l
  | [], d, _, _ => by simp [manyL, sizeL]
  | t :: l, d, hd, h => by
    simp only [formL] at h
    simp only [manyL, sizeL]
    rw [if_pos (by omega), form_many t (d - 1) h.1, formL_many l d hd h.2]
end
theorem okT_size {t : T} (h : okT t) : sizeT t ≤ 60 := by rw [← form_many t 6 h.1]; exact h.2
theorem sizeL_len : ∀ l : List T, (l.length : Int) ≤ sizeL l
  | [] => by simp [sizeL]
  | t :: l => by
    have h1 := sizeL_len l
    have h2 : 1 ≤ sizeT t := by obtain ⟨k, n, s, ks, r⟩ := t; have := manyL_le r 0; simp only [sizeT]; omega
    simp only [sizeL, List.length_cons]; omega
theorem sizeT_pos (t : T) : 1 ≤ sizeT t := by obtain ⟨k, n, s, ks, r⟩ := t; have := manyL_le r 0; simp only [sizeT]; omega
theorem sizeL_nn (l : List T) : 0 ≤ sizeL l := by have := manyL_le l 0; omega
mutual
theorem form_fit : ∀ (t : T) (d : Int), formT t d → sizeT t ≤ 60 → t.fit 60
  | .mk k n s ks l, d, h, hs => by
    simp only [formT] at h
    obtain ⟨h1, h2, h3, h4, h5, h6, h7, h8, h9, h10, h11, h12⟩ := h
    simp only [sizeT] at hs
    have hl := sizeL_len l
    have h13 := h10.2
    refine ⟨by unfold i64; omega, by unfold i64; omega, by unfold lenB; omega, ⟨?_, ?_⟩, by unfold lenB; omega, formL_fit l (d - 1) h12 (by omega)⟩
    · rcases h4 with rfl | rfl
      · have := (h11 rfl).1
        unfold lenB; omega
      · simp [lenB]
    · intro x hx
      rcases h4 with rfl | rfl
      · obtain ⟨i, hi⟩ := List.getElem?_of_mem hx
        have := (okKeys_at (h11 rfl).2 hi).2
        unfold lenB; omega
      · simp at hx
theorem formL_fit : ∀ (l : List T) (d : Int), formL l d → sizeL l ≤ 59 → fitL 60 l
  | [], _, _, _ => trivial
  | t :: l, d, h, hs => by
    simp only [formL] at h
    simp only [sizeL] at hs
    have h1 := sizeT_pos t
    have h2 := sizeL_nn l
    exact ⟨form_fit t d h.1 (by omega), formL_fit l d h.2 (by omega)⟩
end
theorem okT_fit {t : T} (h : okT t) : t.fit 60 := form_fit t 6 h.1 (okT_size h)
end Go.Proofs.Pw
/- Trees added. -/
namespace Go.Proofs.Pw
set_option linter.unusedSectionVars false
variable [Globs]
/-- Keys and trees put one behind the other. -/
noncomputable def foldP : List ByteArray → List T → List ByteArray × List T → List ByteArray × List T
  | k :: ks, t :: l, p => foldP ks l (putS k t false p.1 p.2)
  | _, _, p => p
theorem foldP_succ : ∀ {ks : List ByteArray} {l : List T} {i : Nat} {k : ByteArray} {t : T} (p : List ByteArray × List T), ks[i]? = some k → l[i]? = some t →
    foldP (ks.take (i + 1)) (l.take (i + 1)) p = putS k t false (foldP (ks.take i) (l.take i) p).1 (foldP (ks.take i) (l.take i) p).2
  | [], _, _, _, _, _, h, _ => by simp at h
  | _ :: _, [], _, _, _, _, _, h => by simp at h
  | k0 :: ks, t0 :: l, i, k, t, p, h1, h2 => by
    cases i with
    | zero =>
      simp only [List.getElem?_cons_zero, Option.some.injEq] at h1 h2
      subst h1 h2
      simp [foldP]
    | succ i =>
      simp only [List.getElem?_cons_succ] at h1 h2
      simp only [List.take_succ_cons, foldP]
      exact foldP_succ _ h1 h2
/-- What is kept while keys and trees are put. -/
structure Good (B : Nat) (z : Int) (p : List ByteArray × List T) : Prop where
  asc : Asc p.1
  len : p.1.length = p.2.length
  few : p.1.length ≤ B
  ks : ∀ s ∈ p.1, (s.size : Int) ≤ 60
  fit : fitL 60 p.2
  size : sizeL p.2 ≤ z
theorem fitL_iff {B : Int} {l : List T} : fitL B l ↔ ∀ t ∈ l, t.fit B := ⟨fun h t ht => fitL_in h t ht, fitL_of⟩
theorem Good.put {B : Nat} {z : Int} {p : List ByteArray × List T} (h : Good B z p) {k : ByteArray} {t : T} (hk : (k.size : Int) ≤ 60) (ht : t.fit 60) : Good (B + 1) (z + sizeT t) (putS k t false p.1 p.2) := by
  have h1 := (putS_len k t false p.1 p.2).1
  have h2 := putS_mem k t false p.1 p.2
  have h3 := putS_size k t false p.1 p.2
  have h4 := h.few
  have h5 := h.size
  refine ⟨putS_asc h.asc h.len, putS_len2 h.asc h.len, by simp at h1; omega, fun s hs => ?_, fitL_iff.2 fun x hx => ?_, by simp at h3; omega⟩
  · rcases h2.1 s hs with rfl | h6
    · exact hk
    · exact h.ks s h6
  · rcases h2.2 x hx with rfl | h6
    · exact ht
    · exact fitL_in h.fit x h6
theorem sizeL_take (l : List T) (i : Nat) {t : T} (h : l[i]? = some t) : sizeL (l.take (i + 1)) = sizeL (l.take i) + sizeT t := by
  induction l generalizing i with
  | nil => simp at h
  | cons x l ih =>
    cases i with
    | zero => simp at h; subst h; simp [sizeL]
    | succ i => simp only [List.take_succ_cons, sizeL]; rw [ih i (by simpa using h)]; omega
theorem good_fold {B : Nat} {z : Int} {p : List ByteArray × List T} (h : Good B z p) {ks : List ByteArray} {l : List T} (hk : ∀ s ∈ ks, (s.size : Int) ≤ 60) (hl : fitL 60 l) (he : ks.length = l.length) : ∀ i, i ≤ ks.length → Good (B + i) (z + sizeL (l.take i)) (foldP (ks.take i) (l.take i) p) := by
  intro i
  induction i with
  | zero => intro _; simpa [foldP, sizeL] using h
  | succ i ih =>
    intro hi
    obtain ⟨k, hk1⟩ : ∃ k, ks[i]? = some k := ⟨_, List.getElem?_eq_getElem (by omega)⟩
    obtain ⟨t, ht1⟩ : ∃ t, l[i]? = some t := ⟨_, List.getElem?_eq_getElem (by omega)⟩
    rw [foldP_succ p hk1 ht1, sizeL_take l i ht1]
    have := (ih (by omega)).put (k := k) (t := t) (hk k (List.mem_of_getElem? hk1)) (fitL_in hl t (List.mem_of_getElem? ht1))
    rw [← Int.add_assoc, ← Nat.add_assoc]
    exact this
/-- A map that is ok. -/
theorem okT_map {k n : Int} {s : ByteArray} {ks : List ByteArray} {l : List T} (h : okT (.mk k n s ks l)) (hk : k = 6) : n = 0 ∧ s = ⟨#[]⟩ ∧ ks.length = l.length ∧ okKeys ks := by
  have h1 := h.1
  simp only [formT] at h1
  obtain ⟨h1, h2, h3, h4, h5, h6, h7, h8, h9, h10, h11, h12⟩ := h1
  exact ⟨by omega, h3.resolve_left (by omega), h11 hk⟩
theorem good_map {k n : Int} {s : ByteArray} {ks : List ByteArray} {l : List T} (h : okT (.mk k n s ks l)) (hk : k = 6) : Good 60 60 (ks, l) := by
  obtain ⟨h1, h2, h3, h4⟩ := okT_map h hk
  have h5 := okT_fit h
  simp only [T.fit] at h5
  obtain ⟨_, _, _, h6, h7, h8⟩ := h5
  have h9 := okT_size h
  simp only [sizeT] at h9
  exact ⟨okKeys_asc h4, h3, by have := h6.1; unfold lenB at this; show ks.length ≤ 60; omega, h6.2, h8, by show sizeL l ≤ 60; omega⟩
/-- What is no row and no map has no parts. -/
theorem okT_leaf {k n : Int} {s : ByteArray} {ks : List ByteArray} {l : List T} (h : okT (.mk k n s ks l)) (hk : k < 5) : ks = [] ∧ l = [] := by
  have h1 := h.1
  simp only [formT] at h1
  obtain ⟨h1, h2, h3, h4, h5, h6, h7, h8, h9, h10, h11, h12⟩ := h1
  exact ⟨h4.resolve_left (by omega), h5.resolve_left (by omega)⟩
theorem okT_head {k n : Int} {s : ByteArray} {ks : List ByteArray} {l : List T} (h : okT (.mk k n s ks l)) : (k = 3 ∨ n = 0) ∧ (k = 4 ∨ s = ⟨#[]⟩) ∧ (k = 6 ∨ ks = []) ∧ 0 ≤ k ∧ k ≤ 6 ∧ -1000000 ≤ n ∧ n ≤ 1000000 ∧ s.size ≤ 12 := by
  have h1 := h.1
  simp only [formT] at h1
  obtain ⟨h1, h2, h3, h4, h5, h6, h7, h8, h9, h10, h11, h12⟩ := h1
  exact ⟨h2, h3, h4, h6, h7, h8, h9, h10.2⟩
/-- Two trees that are ok, added: whatever comes of it. -/
noncomputable def addRaw : T → T → Option T
  | .mk k n s ks l, .mk k' n' s' ks' l' =>
    if k = 0 then some (.mk k' n' s' ks' l') else if k' = 0 then some (.mk k n s ks l) else if k ≠ k' then none
    else if k = 3 then some (.mk 3 (n + n') ⟨#[]⟩ [] []) else if k = 4 then some (.mk 4 0 (s ++ s') [] [])
    else if k = 5 then some (.mk 5 0 ⟨#[]⟩ [] (l ++ l')) else if k = 6 then some (.mk 6 0 ⟨#[]⟩ (foldP ks' l' (ks, l)).1 (foldP ks' l' (ks, l)).2) else none
open Classical in
noncomputable def addT (a b : T) : T := if okT a ∧ okT b then (match addRaw a b with | some t => if okT t then t else T.zero | none => T.zero) else T.zero
def addOk (a b : T) : Prop := okT a ∧ okT b ∧ ∃ t, addRaw a b = some t ∧ okT t
noncomputable instance (a b : T) : Decidable (addOk a b) := Classical.propDecidable _
theorem addT_some {a b t : T} (ha : okT a) (hb : okT b) (h : addRaw a b = some t) : addT a b = toldT true t ∧ (addOk a b ↔ okT t) := by
  unfold addT toldT addOk
  rw [if_pos ⟨ha, hb⟩, h]
  simp [ha, hb]
theorem addT_none {a b : T} (ha : okT a) (hb : okT b) (h : addRaw a b = none) : addT a b = T.zero ∧ (addOk a b ↔ False) := by
  unfold addT addOk
  rw [if_pos ⟨ha, hb⟩, h]
  simp
theorem addT_not {a b : T} (h : ¬ (okT a ∧ okT b)) : addT a b = T.zero ∧ (addOk a b ↔ False) := by
  unfold addT addOk
  rw [if_neg h]
  exact ⟨rfl, fun ⟨h1, h2, _⟩ => h ⟨h1, h2⟩, fun h => h.elim⟩
theorem addT_ok (a b : T) : okT (addT a b) := by
  unfold addT
  split
  · split
    · split
      · assumption
      · exact okT_zero'
    · exact okT_zero'
  · exact okT_zero'
end Go.Proofs.Pw
