/- Drawing: rows; the draws of single trees and rows. -/
import Derived.Test.YtiimmibdlhgkfaaPwDr3
set_option linter.unusedSimpArgs false
set_option linter.unusedVariables false
set_option linter.unusedSimpArgs false
set_option maxRecDepth 20000
namespace Go.Proofs.Pw
set_option linter.unusedSectionVars false
variable [Globs]
def x_l11Open : X := (.seq (.reg [⟨some 2, none, .mv (.k .no)⟩] none [0]) (.seq (.seq (.reg [⟨some 3, none, .mv (.t 0)⟩, ⟨some 4, none, .len (.t 3) false⟩, ⟨some 5, none, .bin false .gtr (.t 4) (.k (.c (.int .i64 2000)))⟩] none [0, 5]) (.cond (.t 5) (.reg [⟨some 6, none, .mv (.t 0)⟩, ⟨some 7, none, .sub (.t 6) none (some (.k (.c (.int .i64 2000)))) 1⟩, ⟨some 0, none, .mv (.t 7)⟩] none [0]) .skip)) (.seq (.reg [⟨some 8, none, .mv (.t 0)⟩, ⟨some 9, none, .build [(.z 1), (.c (.int .i64 0))] [(0, (.t 8), none)]⟩, ⟨some 10, none, .box (.t 9) (some 2)⟩, ⟨some 2, none, .mv (.t 10)⟩] none [2]) .ret)))
theorem chk_l11Open : chkX Go.Proofs.Try.prog 11 (Go.Proofs.Try.f51.body.getD .skip) x_l11Open = true := by kernel_rfl
theorem rs_l11Open : okRs Go.Proofs.Try.prog Go.Proofs.Try.f51.results.toList [.tmp 2] = true := by kernel_rfl
theorem call_l11Open : okCallee Go.Proofs.Try.prog 51 = true := by kernel_rfl
def x_l4Of : X := (.seq (.reg [⟨some 2, none, .alloc [(.c (.int .i64 0)), (.c (.int .i64 0)), (.c (.str ⟨#[]⟩)), (.z 1), (.z 5)]⟩] none [0, 2]) (.seq (.reg [⟨some 3, none, .mv (.t 0)⟩, ⟨some 4, none, .build [(.c (.int .i64 0)), (.c (.int .i64 0)), (.c (.str ⟨#[]⟩)), (.z 1), (.z 5)] [(0, (.k (.c (.int .i64 5))), none), (4, (.t 3), none)]⟩, ⟨none, none, .st (.t 2) (.t 4) (some 5)⟩] none [2]) .ret))
theorem chk_l4Of : chkX Go.Proofs.Try.prog 5 (Go.Proofs.Try.f70.body.getD .skip) x_l4Of = true := by kernel_rfl
theorem rs_l4Of : okRs Go.Proofs.Try.prog Go.Proofs.Try.f70.results.toList [.cell 2 (some 5)] = true := by kernel_rfl
theorem call_l4Of : okCallee Go.Proofs.Try.prog 70 = true := by kernel_rfl
def x_l4RowDraw : X := (.seq (.reg [⟨some 2, none, .alloc [(.c (.int .i64 0)), (.c (.int .i64 0)), (.c (.str ⟨#[]⟩)), (.z 1), (.z 5)]⟩] none [0, 2]) (.seq (.seq (.reg [⟨some 6, none, .mv (.t 0)⟩, ⟨some 7, none, .callr 69 [(.t 6), (.k (.c (.int .i64 12)))]⟩, ⟨some 8, none, .bin false .eql (.t 7) (.k (.c (.int .i64 0)))⟩] none [0, 2, 8]) (.cond (.t 8) (.seq (.reg [⟨some 9, none, .mv (.t 0)⟩, ⟨some 10, none, .callr 52 [(.t 9)]⟩, ⟨none, none, .st (.t 2) (.t 10) (some 5)⟩] none [2]) .ret) .skip)) (.seq (.reg [⟨some 11, none, .bsl 5 []⟩, ⟨some 3, none, .mv (.t 11)⟩] none [0, 2, 3]) (.seq (.seq (.reg [⟨some 12, none, .mv (.t 0)⟩, ⟨some 13, none, .callr 69 [(.t 12), (.k (.c (.int .i64 6)))]⟩, ⟨some 4, none, .mv (.t 13)⟩] none [0, 2, 3, 4]) (.block 0 (.loop (.seq (.seq (.reg [⟨some 14, none, .mv (.t 4)⟩, ⟨some 15, none, .bin false .gtr (.t 14) (.k (.c (.int .i64 0)))⟩] none [0, 2, 3, 4, 15]) (.cond (.t 15) .skip (.exit 0))) (.seq (.block 1 (.reg [⟨some 18, none, .mv (.t 3)⟩, ⟨some 19, none, .mv (.t 0)⟩, ⟨some 20, none, .mv (.t 0)⟩, ⟨some 21, none, .callr 69 [(.t 20), (.k (.c (.int .i64 3)))]⟩, ⟨some 22, none, .bin false .add (.k (.c (.int .i64 1))) (.t 21)⟩, ⟨some 23, none, .callr 112 [(.t 19), (.t 22)]⟩, ⟨some 24, none, .bsl 5 [((.t 23), (some 5))]⟩, ⟨some 25, none, .app (.t 18) (.t 24) 5 80 []⟩, ⟨some 3, none, .mv (.t 25)⟩] none [0, 2, 3, 4])) (.reg [⟨some 16, none, .mv (.t 4)⟩, ⟨some 17, none, .bin false .sub (.t 16) (.k (.c (.int .i64 1)))⟩, ⟨some 4, none, .mv (.t 17)⟩] none [0, 2, 3, 4])))))) (.seq (.reg [⟨some 26, none, .mv (.t 3)⟩, ⟨some 27, none, .call 70 [(.t 26)]⟩, ⟨some 5, none, .alloc [(.c (.int .i64 0)), (.c (.int .i64 0)), (.c (.str ⟨#[]⟩)), (.z 1), (.z 5)]⟩, ⟨none, none, .st (.t 5) (.t 27) (some 5)⟩] none [2, 5]) (.seq (.seq (.reg [⟨some 28, none, .load (.t 5) (some 5)⟩, ⟨some 29, none, .callb 94 [(.t 28)]⟩, ⟨some 30, none, .not (.t 29)⟩] none [2, 5, 30]) (.cond (.t 30) (.seq (.reg [⟨some 31, none, .call 70 [(.k (.z 5))]⟩, ⟨none, none, .st (.t 2) (.t 31) (some 5)⟩] none [2]) .ret) .skip)) (.seq (.reg [⟨some 32, none, .load (.t 5) (some 5)⟩, ⟨none, none, .st (.t 2) (.t 32) (some 5)⟩] none [2]) .ret)))))))
theorem chk_l4RowDraw : chkX Go.Proofs.Try.prog 33 (Go.Proofs.Try.f50.body.getD .skip) x_l4RowDraw = true := by kernel_rfl
theorem rs_l4RowDraw : okRs Go.Proofs.Try.prog Go.Proofs.Try.f50.results.toList [.cell 2 (some 5)] = true := by kernel_rfl
theorem call_l4RowDraw : okCallee Go.Proofs.Try.prog 50 = true := by kernel_rfl
noncomputable def spOpen  : Spec := Spec.of (ι := (List Int)) [false] (fun i => [.d (.one (.row 1 (ints .u8 i)))]) (fun i => lenB 140737488355328 i.length) (fun i => [.ref (rdC (i.take 2000) 0)]) (fun _ => [.gone])
theorem spOpen_inj : ∀ i j : (List Int), (fun (i : (List Int)) => ([.d (.one (.row 1 (ints .u8 i)))] : List AV)) i = (fun (i : (List Int)) => ([.d (.one (.row 1 (ints .u8 i)))] : List AV)) j → i = j := by
  intro bs bs' h
  simpa [strs_eq, T.enc_eq, encL_eq, F.enc_eq, encF_eq, Tk.enc_eq, encTk_eq, Gn.enc_eq, ints_eq, rdC_eq, and_assoc] using h
theorem spOpen_md  : (spOpen).md = [false] := rfl
theorem spOpen_pre  (bs : List Int) : (spOpen).pre [.d (.one (.row 1 (ints .u8 bs)))] = (lenB 140737488355328 bs.length) := Spec.of_pre' spOpen_inj bs
theorem spOpen_alts  : (spOpen).alts = none := rfl
theorem spOpen_res  (bs : List Int) : (spOpen).res [.d (.one (.row 1 (ints .u8 bs)))] = [.ref (rdC (bs.take 2000) 0)] := Spec.of_res spOpen_inj bs
theorem spOpen_out  (bs : List Int) : (spOpen).out [.d (.one (.row 1 (ints .u8 bs)))] = [.gone] := Spec.of_out spOpen_inj bs
theorem l11Open_sound : Sound Go.Proofs.Try.prog 51 spOpen := by
  refine sound_fam GOK.nil Go.Proofs.Try.func51 (c := Go.Proofs.Try.f51.body.getD .skip) rfl (n := 11) rfl chk_l11Open rs_l11Open (fun _ => by simp) ?_ ?_
  · exact spOpen_inj
  · intro bs h1
    simp only [lenB] at h1
    by_cases c : (bs.length : Int) > 2000
    · have a1 : ((bs.length : Int) > 2000) = True := eq_true c
      have a2 : ((2000 : Int) < bs.length) = True := eq_true (by omega)
      simp only [x_l11Open, rg, seval, argsB, PV.toDB, Q.toCB, allCB, callB, flatP, flatC, flatS, List.all_nil, List.all_cons, svL, svP, addR, agQ, agR, pid, nodupN, List.contains_nil, List.contains_cons, finG, gIds, idsR, oneI, agI, gOk, oneOk, ptOk, notIn, List.filter_nil, List.filter_cons, pw_mix, ↓runH, ↓one, ↓effC, effR, Updr.app, putO, updL, St.kil, kilQ, kilP, kilL, invC, opKil, excOf, invT, invB, plT, plA, rcOf, wrU, kilI, memK, PV.ids, disj, pairOk, okPast, setP, invU, outB, PV.pl, Q.pl, plL, plL_map, List.all_nil, List.all_cons, List.getD_cons_zero, Prod.fst, List.nil_append, id_eq, List.map_id, Nat.reduceMul, allCB_map, PV.rowB, BASE, ltB, List.isEmpty_nil, delL, St.delO, or_true, List.mem_singleton, ints_len, a1, a2]
      repeat' (first | with_reducible assumption | with_reducible refine And.intro ?_ ?_ | intro _)
      all_goals first | omega | skip
      simp [rdC, ints, List.map_take]
    · have a1 : ((bs.length : Int) > 2000) = False := eq_false c
      have a2 : ((2000 : Int) < bs.length) = False := eq_false (by omega)
      have a3 : bs.take 2000 = bs := List.take_of_length_le (by omega)
      simp only [x_l11Open, rg, seval, argsB, PV.toDB, Q.toCB, allCB, callB, flatP, flatC, flatS, List.all_nil, List.all_cons, svL, svP, addR, agQ, agR, pid, nodupN, List.contains_nil, List.contains_cons, finG, gIds, idsR, oneI, agI, gOk, oneOk, ptOk, notIn, List.filter_nil, List.filter_cons, pw_mix, ↓runH, ↓one, ↓effC, effR, Updr.app, putO, updL, St.kil, kilQ, kilP, kilL, invC, opKil, excOf, invT, invB, plT, plA, rcOf, wrU, kilI, memK, PV.ids, disj, pairOk, okPast, setP, invU, outB, PV.pl, Q.pl, plL, plL_map, List.all_nil, List.all_cons, List.getD_cons_zero, Prod.fst, List.nil_append, id_eq, List.map_id, Nat.reduceMul, allCB_map, PV.rowB, BASE, ltB, List.isEmpty_nil, delL, St.delO, or_true, List.mem_singleton, ints_len, a1, a2, a3]
      rfl
noncomputable def spL4Of  : Spec := Spec.of (ι := (List T)) [false] (fun i => [.d (.one (.row 5 (encL i)))]) (fun _ => True) (fun i => [.d (.agg (T.mk 5 0 ⟨#[]⟩ [] i).enc)]) (fun _ => [.gone])
theorem spL4Of_inj : ∀ i j : (List T), (fun (i : (List T)) => ([.d (.one (.row 5 (encL i)))] : List AV)) i = (fun (i : (List T)) => ([.d (.one (.row 5 (encL i)))] : List AV)) j → i = j := by
  intro l l' h
  simpa [strs_eq, T.enc_eq, encL_eq, F.enc_eq, encF_eq, Tk.enc_eq, encTk_eq, Gn.enc_eq, ints_eq, rdC_eq, and_assoc] using h
theorem spL4Of_md  : (spL4Of).md = [false] := rfl
theorem spL4Of_pre  (l : List T) : (spL4Of).pre [.d (.one (.row 5 (encL l)))] = (True) := Spec.of_pre' spL4Of_inj l
theorem spL4Of_alts  : (spL4Of).alts = none := rfl
theorem spL4Of_res  (l : List T) : (spL4Of).res [.d (.one (.row 5 (encL l)))] = [.d (.agg (T.mk 5 0 ⟨#[]⟩ [] l).enc)] := Spec.of_res spL4Of_inj l
theorem spL4Of_out  (l : List T) : (spL4Of).out [.d (.one (.row 5 (encL l)))] = [.gone] := Spec.of_out spL4Of_inj l
theorem l4Of_sound : Sound Go.Proofs.Try.prog 70 spL4Of := by
  refine sound_fam GOK.nil Go.Proofs.Try.func70 (c := Go.Proofs.Try.f70.body.getD .skip) rfl (n := 5) rfl chk_l4Of rs_l4Of (fun _ => by simp) ?_ ?_
  · exact spL4Of_inj
  · intro l _
    simp only [x_l4Of, rg, seval, T.enc, strs]
def spRowDraw  : Spec := Spec.ofR (ι := (List Int) × Int) (κ := Int × Int × ByteArray × (List ByteArray) × (List T) × Int) [true] (fun i => [.ref (rdC i.1 i.2)]) (fun i => byt i.1 ∧ 0 ≤ i.2 ∧ i.2 + 40000 ≤ 1099511627776) (fun i k => drW 16000 (.mk k.1 k.2.1 k.2.2.1 k.2.2.2.1 k.2.2.2.2.1) ∧ i.2 ≤ k.2.2.2.2.2 ∧ k.2.2.2.2.2 ≤ i.2 + 40000) (fun i k => [.d (.agg (T.mk k.1 k.2.1 k.2.2.1 k.2.2.2.1 k.2.2.2.2.1).enc)]) (fun i k => [.ref (rdC i.1 k.2.2.2.2.2)])
theorem spRowDraw_inj : ∀ i j : (List Int) × Int, (fun (i : (List Int) × Int) => ([.ref (rdC i.1 i.2)] : List AV)) i = (fun (i : (List Int) × Int) => ([.ref (rdC i.1 i.2)] : List AV)) j → i = j := by
  rintro ⟨bs, p⟩ ⟨bs', p'⟩ h
  simp only [Prod.mk.injEq]
  simpa [strs_eq, T.enc_eq, encL_eq, F.enc_eq, encF_eq, Tk.enc_eq, encTk_eq, Gn.enc_eq, ints_eq, rdC_eq, and_assoc] using h
theorem spRowDraw_md  : (spRowDraw).md = [true] := rfl
theorem spRowDraw_pre  (bs : List Int) (p : Int) : (spRowDraw).pre [.ref (rdC bs p)] = (byt bs ∧ 0 ≤ p ∧ p + 40000 ≤ 1099511627776) := Spec.ofR_pre spRowDraw_inj (bs, p)
theorem spRowDraw_ne0  (bs : List Int) (p : Int) : (spRowDraw).ne [.ref (rdC bs p)] = (∃ k : Int × Int × ByteArray × (List ByteArray) × (List T) × Int, drW 16000 (.mk k.1 k.2.1 k.2.2.1 k.2.2.2.1 k.2.2.2.2.1) ∧ p ≤ k.2.2.2.2.2 ∧ k.2.2.2.2.2 ≤ p + 40000) := Spec.ofR_ne spRowDraw_inj (bs, p)
theorem spRowDraw_all  (bs : List Int) (p : Int) (F : List AV → List AV → Prop) : (spRowDraw).all [.ref (rdC bs p)] F = (∀ (k : Int) (n : Int) (s : ByteArray) (ks : List ByteArray) (l : List T) (q : Int), (drW 16000 (.mk k n s ks l) ∧ p ≤ q ∧ q ≤ p + 40000) → F [.d (.agg (T.mk k n s ks l).enc)] [.ref (rdC bs q)]) := by
  refine (Spec.ofR_all spRowDraw_inj (bs, p) F).trans (propext ⟨fun h k n s ks l q hr => h (k, n, s, ks, l, q) hr, fun h k hr => ?_⟩)
  exact h k.1 k.2.1 k.2.2.1 k.2.2.2.1 k.2.2.2.2.1 k.2.2.2.2.2 hr
theorem spRowDraw_ne (bs : List Int) (p : Int) : spRowDraw.ne [.ref (rdC bs p)] = True := by
  rw [spRowDraw_ne0]
  exact eq_true ⟨(0, 0, ⟨#[]⟩, [], [], p), (drT_leaf (k := 0) (n := 0) (s := ⟨#[]⟩) (by unfold i64; omega) (by unfold i64; omega) (by decide)).w.mono (by omega), Int.le_refl _, by show p ≤ p + 40000; omega⟩
theorem row_ex {bs : List Int} {p q k n a : Int} {s : ByteArray} {ks : List ByteArray} {l : List T} (h : drW a (.mk k n s ks l)) (hq : (p ≤ q ∧ q ≤ p + 40000) ∧ a ≤ 16000) : ∃ i : Int × Int × ByteArray × List ByteArray × List T × Int,
    (drW 16000 (T.mk i.1 i.2.1 i.2.2.1 i.2.2.2.1 i.2.2.2.2.1) ∧ p ≤ i.2.2.2.2.2 ∧ i.2.2.2.2.2 ≤ p + 40000) ∧ (T.mk i.1 i.2.1 i.2.2.1 i.2.2.2.1 i.2.2.2.2.1).enc = [C.int .i64 k, C.int .i64 n, C.str s, C.row 1 (strs ks), C.row 5 (encL l)] ∧ rdC bs q = rdC bs i.2.2.2.2.2 :=
  ⟨(k, n, s, ks, l, q), ⟨⟨h.1, Int.le_trans h.2.1 hq.2, h.2.2⟩, hq.1⟩, rfl, rfl⟩
set_option maxHeartbeats 4000000 in
theorem l4RowDraw_sound : Sound Go.Proofs.Try.prog 50 spRowDraw := by
  refine sound_famR (GOK.cons (l := [(112, spValF.weak), (52, spBent), (94, spOkT), (70, spL4Of)]) call_pick pick_sound (GOK.cons call_l1Val (l1Val_all.weak valF_weakable) (GOK.cons call_l1Bent l1Bent_sound (GOK.cons call_ValOk sOkT_sound (GOK.cons call_l4Of l4Of_sound GOK.nil))))) Go.Proofs.Try.func50 (c := Go.Proofs.Try.f50.body.getD .skip) rfl (n := 33) rfl chk_l4RowDraw rs_l4RowDraw (fun _ => by simp) ?_
  · rintro ⟨bs, p⟩ ⟨hb, h1, h2⟩
    change byt bs at hb
    simp only at h1 h2
    have hl : ∀ m : Int, (0 ≤ m ∧ m < 3) → vb (1 + m).toNat ≤ 3120 := fun m hm => vb_le3 (by omega)
    simp only [x_l4RowDraw, rg, seval, argsB, PV.toDB, Q.toCB, allCB, callB, flatP, flatC, flatS, List.all_nil, List.all_cons, svL, svP, addR, agQ, agR, pid, nodupN, List.contains_nil, List.contains_cons, finG, gIds, idsR, oneI, agI, gOk, oneOk, ptOk, notIn, List.filter_nil, List.filter_cons, pw_mix, ↓runH, ↓one, ↓effC, effR, Updr.app, putO, updL, St.kil, kilQ, kilP, kilL, invC, opKil, excOf, invT, invB, plT, plA, rcOf, wrU, kilI, memK, PV.ids, disj, pairOk, okPast, setP, invU, outB, PV.pl, Q.pl, plL, plL_map, List.all_nil, List.all_cons, List.getD_cons_zero, Prod.fst, List.nil_append, id_eq, List.map_id, Nat.reduceMul, allCB_map, PV.rowB, BASE, ltB, List.isEmpty_nil, delL, St.delO, or_true, List.mem_singleton, T.enc_len, spPick_md, spPick_pre, spPick_ne, ↓spPick_all, spPick_all, spBent_md, spBent_pre, spBent_ne, ↓spBent_all, spBent_all]
    repeat' (first | with_reducible assumption | with_reducible refine And.intro ?_ ?_ | intro _)
    all_goals first | omega | skip
    · rename_i k n s ks l q hd
      have h := row_ex (bs := bs) (p := p) (q := q) hd.1 (by omega)
      exact h
    · rename_i m hm
      refine pw_loop (ι := Nat × Nat × Int × List T) (fun i => i.1)
        (fun i => i.1 + i.2.1 ≤ 5 ∧ p + 2 ≤ i.2.2.1 ∧ i.2.2.1 ≤ p + 2 + i.2.1 * 3125 ∧ i.2.2.2.length ≤ i.2.1 ∧ fitL 1000 i.2.2.2 ∧ sizeL i.2.2.2 ≤ i.2.1 * 3125)
        (fun i => ⟨[(0, .q (.box 33 0)), (2, .q (.box 2 0)), (3, .q (.own 25)), (4, .q (.c (.int .i64 i.1)))],
          [(33, (rdC bs i.2.2.1).map .c), (2, [.c (.int .i64 0), .c (.int .i64 0), .c (.str ⟨#[]⟩), .z 1, .z 5])],
          [(25, 5, encL i.2.2.2)]⟩) (m.toNat, 0, p + 1 + 1, []) ⟨by show m.toNat + 0 ≤ 5; omega, by show p + 2 ≤ p + 1 + 1; omega, by show p + 1 + 1 ≤ p + 2 + ((0 : Nat) : Int) * 3125; simp; omega, by simp, trivial, by simp [sizeL]⟩ ?_ ?_
      · have e : ((m.toNat : Nat) : Int) = m := by omega
        refine Le.own (t := 3) (d := 25) (sz := 5) (by decide) (by simp) (by simp [Q.killO, rdC]) ?_
        simp [e, PV.map, Q.killO]
      · rintro ⟨i, j, q, l⟩ ⟨g1, g2, g3, g4, g5, g6⟩
        simp only at g1 g2 g3 g4 g5 g6
        rcases Nat.eq_zero_or_pos i with h0 | hpos
        · have b1 : ((0 : Int) < i) = False := eq_false (by omega)
          have hh : drW 15700 (.mk 5 0 ⟨#[]⟩ [] l) := (drT_mk (m := 15700) (by unfold i64; omega) (by unfold i64; omega) (by decide) (by simp) (by simp) (by omega) g5 (by omega)).w
          have hh0 : drW 15700 (.mk 5 0 ⟨#[]⟩ [] []) := (drT_mk (m := 15700) (by unfold i64; omega) (by unfold i64; omega) (by decide) (by simp) (by simp) (by simp) (l := []) trivial (by simp [sizeL])).w
          have f1 := T.enc_len (.mk 5 0 ⟨#[]⟩ [] l)
          have nilL : C.row 5 ([] : List (List C)) = C.row 5 (encL []) := rfl
          simp only [rg, seval, argsB, PV.toDB, Q.toCB, allCB, callB, flatP, flatC, flatS, List.all_nil, List.all_cons, svL, svP, addR, agQ, agR, pid, nodupN, List.contains_nil, List.contains_cons, finG, gIds, idsR, oneI, agI, gOk, oneOk, ptOk, notIn, List.filter_nil, List.filter_cons, pw_mix, ↓runH, ↓one, ↓effC, effR, Updr.app, putO, updL, St.kil, kilQ, kilP, kilL, invC, opKil, excOf, invT, invB, plT, plA, rcOf, wrU, kilI, memK, PV.ids, disj, pairOk, okPast, setP, invU, outB, PV.pl, Q.pl, plL, plL_map, List.all_nil, List.all_cons, List.getD_cons_zero, Prod.fst, List.nil_append, id_eq, List.map_id, Nat.reduceMul, allCB_map, PV.rowB, BASE, ltB, List.isEmpty_nil, delL, St.delO, or_true, List.mem_singleton, b1, nilL, f1, T.enc_len, spL4Of_md, spL4Of_pre, spL4Of_alts, spL4Of_res, spL4Of_out, spOkT_md, spOkT_pre, spOkT_alts, spOkT_res, spOkT_out]
          repeat' (first | with_reducible assumption | with_reducible refine And.intro ?_ ?_ | intro _)
          all_goals first | omega | exact hh.fit | skip
          · have := hh.2.1
            omega
          · have h := row_ex (bs := bs) (p := p) (q := q) hh0 (by omega)
            simpa [T.enc] using h
          · have h := row_ex (bs := bs) (p := p) (q := q) hh (by omega)
            simpa [T.enc] using h
        · have b1 : ((0 : Int) < i) = True := eq_true (by omega)
          simp only [rg, seval, argsB, PV.toDB, Q.toCB, allCB, callB, flatP, flatC, flatS, List.all_nil, List.all_cons, svL, svP, addR, agQ, agR, pid, nodupN, List.contains_nil, List.contains_cons, finG, gIds, idsR, oneI, agI, gOk, oneOk, ptOk, notIn, List.filter_nil, List.filter_cons, pw_mix, ↓runH, ↓one, ↓effC, effR, Updr.app, putO, updL, St.kil, kilQ, kilP, kilL, invC, opKil, excOf, invT, invB, plT, plA, rcOf, wrU, kilI, memK, PV.ids, disj, pairOk, okPast, setP, invU, outB, PV.pl, Q.pl, plL, plL_map, List.all_nil, List.all_cons, List.getD_cons_zero, Prod.fst, List.nil_append, id_eq, List.map_id, Nat.reduceMul, allCB_map, PV.rowB, BASE, ltB, List.isEmpty_nil, delL, St.delO, or_true, List.mem_singleton, b1, encL_len, spPick_md, spPick_pre, spPick_ne, ↓spPick_all, spPick_all, weak_md, weak_pre, weak_ne, ↓weak_all, AV.weak, Pt.toC, spValF_md, spValF_pre, spValF_ne, ↓spValF_all, spValF_all]
          repeat' (first | with_reducible assumption | with_reducible refine And.intro ?_ ?_ | intro _)
          all_goals first | omega | skip
          all_goals
            have hl' := hl _ (by assumption)
            clear hl
            first | omega | skip
          rename_i k n s ks' l' q' hd _ _
          refine ⟨(i - 1, j + 1, q', l ++ [.mk k n s ks' l']), ⟨by show i - 1 + (j + 1) ≤ 5; omega, by show p + 2 ≤ q'; omega, by show q' ≤ p + 2 + ((j + 1 : Nat) : Int) * 3125; omega, by simp; omega, fitL_app g5 ⟨hd.1.1, trivial⟩, ?_⟩, by show i - 1 < i; omega, ?_⟩
          · show sizeL (l ++ _) ≤ ((j + 1 : Nat) : Int) * 3125
            rw [sizeL_app]
            have := hd.1.2.1
            simp only [sizeL]; omega
          · have : ((i - 1 : Nat) : Int) = i - 1 := by omega
            exact Le.of_eq (by simp [encL_app, encL, T.enc, this])
theorem byt_take {bs : List Int} (h : ∀ b ∈ bs, 0 ≤ b ∧ b ≤ 255) : byt (bs.take 2000) := ⟨fun b hb => h b (List.mem_of_mem_take hb), by simp; omega⟩
def spDRow  : Spec := Spec.ofR (ι := (List Int)) (κ := Int × Int × ByteArray × (List ByteArray) × (List T)) [false] (fun i => [.d (.one (.row 1 (ints .u8 i)))]) (fun i => (∀ b ∈ i, 0 ≤ b ∧ b ≤ 255) ∧ lenB 140737488355328 i.length) (fun i k => drW 16000 (.mk k.1 k.2.1 k.2.2.1 k.2.2.2.1 k.2.2.2.2)) (fun i k => [.d (.agg (T.mk k.1 k.2.1 k.2.2.1 k.2.2.2.1 k.2.2.2.2).enc)]) (fun i k => [.gone])
theorem spDRow_inj : ∀ i j : (List Int), (fun (i : (List Int)) => ([.d (.one (.row 1 (ints .u8 i)))] : List AV)) i = (fun (i : (List Int)) => ([.d (.one (.row 1 (ints .u8 i)))] : List AV)) j → i = j := by
  intro bs bs' h
  simpa [strs_eq, T.enc_eq, encL_eq, F.enc_eq, encF_eq, Tk.enc_eq, encTk_eq, Gn.enc_eq, ints_eq, rdC_eq, and_assoc] using h
theorem spDRow_md  : (spDRow).md = [false] := rfl
theorem spDRow_pre  (bs : List Int) : (spDRow).pre [.d (.one (.row 1 (ints .u8 bs)))] = ((∀ b ∈ bs, 0 ≤ b ∧ b ≤ 255) ∧ lenB 140737488355328 bs.length) := Spec.ofR_pre spDRow_inj bs
theorem spDRow_all  (bs : List Int) (F : List AV → List AV → Prop) : (spDRow).all [.d (.one (.row 1 (ints .u8 bs)))] F = (∀ (k : Int) (n : Int) (s : ByteArray) (ks : List ByteArray) (l : List T), (drW 16000 (.mk k n s ks l)) → F [.d (.agg (T.mk k n s ks l).enc)] [.gone]) := by
  refine (Spec.ofR_all spDRow_inj bs F).trans (propext ⟨fun h k n s ks l hr => h (k, n, s, ks, l) hr, fun h k hr => ?_⟩)
  exact h k.1 k.2.1 k.2.2.1 k.2.2.2.1 k.2.2.2.2 hr
end Go.Proofs.Pw
