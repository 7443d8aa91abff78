/- Drawing: a tree, one in twelve bent. -/
import Derived.Test.YtiimmibdlhgkfaaPwDr2
set_option linter.unusedSimpArgs false
set_option linter.unusedVariables false
set_option linter.unusedSimpArgs false
set_option maxRecDepth 20000
namespace Go.Proofs.Pw
set_option linter.unusedSectionVars false
variable [Globs]
def x_l1Bent : X := (.seq (.reg [⟨some 2, none, .alloc [(.c (.int .i64 0)), (.c (.int .i64 0)), (.c (.str ⟨#[]⟩)), (.z 1), (.z 5)]⟩] none [0, 2]) (.seq (.reg [⟨some 5, none, .mv (.t 0)⟩, ⟨some 6, none, .callr 99 [(.t 5)]⟩, ⟨some 3, none, .alloc [(.c (.int .i64 0)), (.c (.int .i64 0)), (.c (.str ⟨#[]⟩)), (.z 1), (.z 5)]⟩, ⟨none, none, .st (.t 3) (.t 6) (some 5)⟩] none [0, 2, 3]) (.seq (.seq (.reg [⟨some 7, none, .mv (.t 0)⟩, ⟨some 8, none, .callr 69 [(.t 7), (.k (.c (.int .i64 60)))]⟩] none [0, 2, 3, 8]) (.block 0 (.seq (.reg [⟨some 10, none, .bin false .eql (.t 8) (.k (.c (.int .i64 0)))⟩, ⟨some 9, none, .mv (.t 10)⟩] none [0, 2, 3, 8, 9]) (.cond (.t 9) (.reg [⟨some 11, none, .mv (.t 0)⟩, ⟨some 12, none, .bsl 1 [((.k (.c (.int .i64 (-1)))), none), ((.k (.c (.int .i64 7))), none), ((.k (.c (.int .i64 5))), none), ((.k (.c (.int .i64 6))), none), ((.k (.c (.int .i64 3))), none)]⟩, ⟨some 13, none, .callr 113 [(.t 11), (.t 12)]⟩, ⟨some 14, none, .fa (.t 3) 0⟩, ⟨none, none, .st (.t 14) (.t 13) none⟩] none [2, 3]) (.seq (.reg [⟨some 16, none, .bin false .eql (.t 8) (.k (.c (.int .i64 1)))⟩, ⟨some 15, none, .mv (.t 16)⟩] none [0, 2, 3, 8, 15]) (.cond (.t 15) (.reg [⟨some 17, none, .mv (.t 0)⟩, ⟨some 18, none, .bsl 1 [((.k (.c (.int .i64 1))), none), ((.k (.c (.int .i64 1000001))), none), ((.k (.c (.int .i64 (-1000001)))), none)]⟩, ⟨some 19, none, .callr 113 [(.t 17), (.t 18)]⟩, ⟨some 20, none, .fa (.t 3) 1⟩, ⟨none, none, .st (.t 20) (.t 19) none⟩] none [2, 3]) (.seq (.reg [⟨some 22, none, .bin false .eql (.t 8) (.k (.c (.int .i64 2)))⟩, ⟨some 21, none, .mv (.t 22)⟩] none [0, 2, 3, 8, 21]) (.cond (.t 21) (.reg [⟨some 23, none, .mv (.t 0)⟩, ⟨some 24, none, .bsl 1 [((.k (.c (.str ⟨#[65]⟩))), none), ((.k (.c (.str ⟨#[97, 98, 99, 100, 101, 102, 103, 104, 105, 106, 107, 108, 109]⟩))), none), ((.k (.c (.str ⟨#[97]⟩))), none)]⟩, ⟨some 25, none, .callr 85 [(.t 23), (.t 24)]⟩, ⟨some 26, none, .fa (.t 3) 2⟩, ⟨none, none, .st (.t 26) (.t 25) none⟩] none [2, 3]) (.seq (.reg [⟨some 28, none, .bin false .eql (.t 8) (.k (.c (.int .i64 3)))⟩, ⟨some 27, none, .mv (.t 28)⟩] none [2, 3, 8, 27]) (.cond (.t 27) (.reg [⟨some 29, none, .fa (.t 3) 3⟩, ⟨some 30, none, .load (.t 29) none⟩, ⟨some 31, none, .bsl 1 [((.k (.c (.str ⟨#[97]⟩))), none)]⟩, ⟨some 32, none, .app (.t 30) (.t 31) 1 16 []⟩, ⟨some 33, none, .fa (.t 3) 3⟩, ⟨none, none, .st (.t 33) (.t 32) none⟩] none [2, 3]) (.seq (.reg [⟨some 35, none, .bin false .eql (.t 8) (.k (.c (.int .i64 4)))⟩, ⟨some 34, none, .mv (.t 35)⟩] none [2, 3, 34]) (.cond (.t 34) (.seq (.reg [⟨some 4, none, .mv (.k (.c (.int .i64 0)))⟩] none [2, 3, 4]) (.block 1 (.loop (.seq (.seq (.reg [⟨some 36, none, .mv (.t 4)⟩, ⟨some 37, none, .bin false .lss (.t 36) (.k (.c (.int .i64 6)))⟩] none [2, 3, 4, 37]) (.cond (.t 37) .skip (.exit 1))) (.seq (.block 2 (.reg [⟨some 40, none, .load (.t 3) (some 5)⟩, ⟨some 41, none, .bsl 5 [((.t 40), (some 5))]⟩, ⟨some 42, none, .build [(.c (.int .i64 0)), (.c (.int .i64 0)), (.c (.str ⟨#[]⟩)), (.z 1), (.z 5)] [(0, (.k (.c (.int .i64 5))), none), (4, (.t 41), none)]⟩, ⟨none, none, .st (.t 3) (.t 42) (some 5)⟩] none [2, 3, 4])) (.reg [⟨some 38, none, .mv (.t 4)⟩, ⟨some 39, none, .bin false .add (.t 38) (.k (.c (.int .i64 1)))⟩, ⟨some 4, none, .mv (.t 39)⟩] none [2, 3, 4])))))) .skip)))))))))))) (.seq (.reg [⟨some 43, none, .load (.t 3) (some 5)⟩, ⟨none, none, .st (.t 2) (.t 43) (some 5)⟩] none [2]) .ret))))
theorem chk_l1Bent : chkX Go.Proofs.Try.prog 44 (Go.Proofs.Try.f52.body.getD .skip) x_l1Bent = true := by kernel_rfl
theorem rs_l1Bent : okRs Go.Proofs.Try.prog Go.Proofs.Try.f52.results.toList [.cell 2 (some 5)] = true := by kernel_rfl
theorem call_l1Bent : okCallee Go.Proofs.Try.prog 52 = true := by kernel_rfl
/-- A tree of so many parts at most, bent perhaps. -/
def drW (m : Int) (t : T) : Prop := t.fit 100000 ∧ sizeT t ≤ m ∧ topT 7 t
theorem drW.fit {m : Int} {t : T} (h : drW m t) : t.fit 140737488355328 := T.fit_mono (by decide) h.1
theorem drW.mono {m n : Int} (hmn : m ≤ n) {t : T} (h : drW m t) : drW n t := ⟨h.1, Int.le_trans h.2.1 hmn, h.2.2⟩
theorem drT.w {m : Int} {t : T} (h : drT m t) : drW m t := ⟨T.fit_mono (by decide) h.1, h.2.1, by obtain ⟨k, n, s, ks, l⟩ := t; exact ⟨Nat.le_succ_of_le h.2.2.1, Nat.le_succ_of_le h.2.2.2⟩⟩
def spBent  : Spec := Spec.ofR (ι := (List Int) × Int) (κ := Int × Int × ByteArray × (List ByteArray) × (List T) × Int) [true] (fun i => [.ref (rdC i.1 i.2)]) (fun i => byt i.1 ∧ 0 ≤ i.2 ∧ i.2 + 17000 ≤ 1099511627776) (fun i k => drW 15700 (.mk k.1 k.2.1 k.2.2.1 k.2.2.2.1 k.2.2.2.2.1) ∧ i.2 ≤ k.2.2.2.2.2 ∧ k.2.2.2.2.2 ≤ i.2 + 17000) (fun i k => [.d (.agg (T.mk k.1 k.2.1 k.2.2.1 k.2.2.2.1 k.2.2.2.2.1).enc)]) (fun i k => [.ref (rdC i.1 k.2.2.2.2.2)])
theorem spBent_inj : ∀ i j : (List Int) × Int, (fun (i : (List Int) × Int) => ([.ref (rdC i.1 i.2)] : List AV)) i = (fun (i : (List Int) × Int) => ([.ref (rdC i.1 i.2)] : List AV)) j → i = j := by
  rintro ⟨bs, p⟩ ⟨bs', p'⟩ h
  simp only [Prod.mk.injEq]
  simpa [strs_eq, T.enc_eq, encL_eq, F.enc_eq, encF_eq, Tk.enc_eq, encTk_eq, Gn.enc_eq, ints_eq, rdC_eq, and_assoc] using h
theorem spBent_md  : (spBent).md = [true] := rfl
theorem spBent_pre  (bs : List Int) (p : Int) : (spBent).pre [.ref (rdC bs p)] = (byt bs ∧ 0 ≤ p ∧ p + 17000 ≤ 1099511627776) := Spec.ofR_pre spBent_inj (bs, p)
theorem spBent_ne0  (bs : List Int) (p : Int) : (spBent).ne [.ref (rdC bs p)] = (∃ k : Int × Int × ByteArray × (List ByteArray) × (List T) × Int, drW 15700 (.mk k.1 k.2.1 k.2.2.1 k.2.2.2.1 k.2.2.2.2.1) ∧ p ≤ k.2.2.2.2.2 ∧ k.2.2.2.2.2 ≤ p + 17000) := Spec.ofR_ne spBent_inj (bs, p)
theorem spBent_all  (bs : List Int) (p : Int) (F : List AV → List AV → Prop) : (spBent).all [.ref (rdC bs p)] F = (∀ (k : Int) (n : Int) (s : ByteArray) (ks : List ByteArray) (l : List T) (q : Int), (drW 15700 (.mk k n s ks l) ∧ p ≤ q ∧ q ≤ p + 17000) → F [.d (.agg (T.mk k n s ks l).enc)] [.ref (rdC bs q)]) := by
  refine (Spec.ofR_all spBent_inj (bs, p) F).trans (propext ⟨fun h k n s ks l q hr => h (k, n, s, ks, l, q) hr, fun h k hr => ?_⟩)
  exact h k.1 k.2.1 k.2.2.1 k.2.2.2.1 k.2.2.2.2.1 k.2.2.2.2.2 hr
theorem spBent_ne (bs : List Int) (p : Int) : spBent.ne [.ref (rdC bs p)] = True := by
  rw [spBent_ne0]
  exact eq_true ⟨(0, 0, ⟨#[]⟩, [], [], p), (drT_leaf (k := 0) (n := 0) (s := ⟨#[]⟩) (by unfold i64; omega) (by unfold i64; omega) (by decide)).w.mono (by omega), Int.le_refl _, by show p ≤ p + 17000; omega⟩
theorem All2.qrefl : ∀ (l : List Q), All2 QLe l l
  | [] => .nil
  | q :: l => .cons (QLe.refl q) (All2.qrefl l)
theorem bent_ex {bs : List Int} {p q k n a : Int} {s : ByteArray} {ks : List ByteArray} {l : List T} (h : drW a (.mk k n s ks l)) (hq : (p ≤ q ∧ q ≤ p + 17000) ∧ a ≤ 15700) : ∃ i : Int × Int × ByteArray × List ByteArray × List T × Int,
    (drW 15700 (T.mk i.1 i.2.1 i.2.2.1 i.2.2.2.1 i.2.2.2.2.1) ∧ p ≤ i.2.2.2.2.2 ∧ i.2.2.2.2.2 ≤ p + 17000) ∧ (T.mk i.1 i.2.1 i.2.2.1 i.2.2.2.1 i.2.2.2.2.1).enc = [C.int .i64 k, C.int .i64 n, C.str s, C.row 1 (strs ks), C.row 5 (encL l)] ∧ rdC bs q = rdC bs i.2.2.2.2.2 :=
  ⟨(k, n, s, ks, l, q), ⟨⟨h.1, Int.le_trans h.2.1 hq.2, h.2.2⟩, hq.1⟩, rfl, rfl⟩
set_option maxHeartbeats 4000000 in
theorem l1Bent_sound : Sound Go.Proofs.Try.prog 52 spBent := by
  refine sound_famR (GOK.cons (l := [(85, spDof), (113, spDnum), (99, spSome)]) call_pick pick_sound (GOK.cons call_dof dof_sound (GOK.cons call_dnum dnum_sound (GOK.cons call_l1Some l1Some_sound GOK.nil)))) Go.Proofs.Try.func52 (c := Go.Proofs.Try.f52.body.getD .skip) rfl (n := 44) rfl chk_l1Bent rs_l1Bent (fun _ => by simp) ?_
  · rintro ⟨bs, p⟩ ⟨hb, h1, h2⟩
    change byt bs at hb
    simp only at h1 h2
    simp only [x_l1Bent, rg, seval, argsB, PV.toDB, Q.toCB, allCB, callB, flatP, flatC, flatS, List.all_nil, List.all_cons, svL, svP, addR, agQ, agR, pid, nodupN, List.contains_nil, List.contains_cons, finG, gIds, idsR, oneI, agI, gOk, oneOk, ptOk, notIn, List.filter_nil, List.filter_cons, pw_mix, ↓runH, ↓one, ↓effC, effR, Updr.app, putO, updL, St.kil, kilQ, kilP, kilL, invC, opKil, excOf, invT, invB, plT, plA, rcOf, wrU, kilI, memK, PV.ids, disj, pairOk, okPast, setP, invU, outB, PV.pl, Q.pl, plL, plL_map, List.all_nil, List.all_cons, List.getD_cons_zero, Prod.fst, List.nil_append, id_eq, List.map_id, Nat.reduceMul, allCB_map, PV.rowB, BASE, ltB, List.isEmpty_nil, delL, St.delO, or_true, List.mem_singleton, strs3, ints3, ints5, strs_len, spPick_md, spPick_pre, spPick_ne, ↓spPick_all, spPick_all, spDof_md, spDof_pre, spDof_ne, ↓spDof_all, spDof_all, spDnum_md, spDnum_pre, spDnum_ne, ↓spDnum_all, spDnum_all, spSome_md, spSome_pre, spSome_ne, ↓spSome_all, spSome_all]
    repeat' (first | with_reducible assumption | with_reducible refine And.intro ?_ ?_ | intro _)
    all_goals first | omega | skip
    · rename_i k n s ks l q hd m _ _ x hx
      simp only [List.mem_cons, List.not_mem_nil, or_false] at hx
      obtain ⟨⟨_, z2, z3, z4, z5, z6⟩, z7⟩ := hd.1.w
      exact bent_ex ⟨⟨by unfold i64; omega, z2, z3, z4, z5, z6⟩, z7⟩ (by omega)
    · rename_i k n s ks l q hd m _ _ _ x hx
      simp only [List.mem_cons, List.not_mem_nil, or_false] at hx
      obtain ⟨⟨z1, _, z3, z4, z5, z6⟩, z7⟩ := hd.1.w
      exact bent_ex ⟨⟨z1, by unfold i64; omega, z3, z4, z5, z6⟩, z7⟩ (by omega)
    · rename_i k n s ks l q hd m _ _ _ _ x hx
      simp only [List.mem_cons, List.not_mem_nil, or_false] at hx
      obtain ⟨⟨z1, z2, _, z4, z5, z6⟩, z7⟩ := hd.1.w
      exact bent_ex ⟨⟨z1, z2, by unfold lenB; rcases hx with rfl | rfl | rfl <;> decide, z4, z5, z6⟩, z7⟩ (by omega)
    · have z0 := (‹drT _ _ ∧ _›).1
      have z : strsFit 1000 _ := z0.1.2.2.2.1
      have z' := z.1
      unfold lenB at z'
      omega
    · rename_i k n s ks l q hd m _ _ _ _ _ _
      have y4 : strsFit 1000 _ := hd.1.1.2.2.2.1
      obtain ⟨⟨z1, z2, z3, _, z5, z6⟩, z7⟩ := hd.1.w
      have y1 := y4.1
      unfold lenB at y1
      have e : strs ks ++ [[C.str ⟨#[97]⟩]] = strs (ks ++ [⟨#[97]⟩]) := by simp [strs]
      rw [e]
      refine bent_ex (a := 15620) ⟨⟨z1, z2, z3, ⟨by unfold lenB; simp; omega, fun y hy => ?_⟩, z5, z6⟩, z7.1, z7.2.1, by have := hd.1.2.2.2; simp; omega⟩ (by omega)
      rcases List.mem_append.1 hy with hy | hy
      · have := y4.2 y hy
        unfold lenB at this ⊢; omega
      · simp at hy; rw [hy]; unfold lenB; decide
    · rename_i k n s ks l q hd m _ _ _ _ _ _
      refine pw_loop (ι := Nat × Int × Int × ByteArray × List ByteArray × List T) (fun i => 6 - i.1)
        (fun i => i.1 ≤ 6 ∧ drW (15620 + i.1) (.mk i.2.1 i.2.2.1 i.2.2.2.1 i.2.2.2.2.1 i.2.2.2.2.2))
        (fun i => ⟨[(2, .q (.box 2 0)), (3, .q (.box 3 0)), (4, .q (.c (.int .i64 i.1)))],
          [(44, (rdC bs (q + 1)).map .c), (2, [.c (.int .i64 0), .c (.int .i64 0), .c (.str ⟨#[]⟩), .z 1, .z 5]), (3, [.c (.int .i64 i.2.1), .c (.int .i64 i.2.2.1), .c (.str i.2.2.2.1), .c (.row 1 (strs i.2.2.2.2.1)), .c (.row 5 (encL i.2.2.2.2.2))])],
          []⟩) (0, k, n, s, ks, l) ⟨by simp, hd.1.w.mono (by simp)⟩ ?_ ?_
      · exact (Le.pub 700003 _).trans (Le.of_eq (by simp [St.pub, get?, St.map, PV.map, Q.pub, del, rdC]))
      · rintro ⟨i, k, n, s, ks, l⟩ ⟨g1, g2⟩
        simp only at g1 g2
        rcases Nat.lt_or_ge i 6 with hlt | hge
        · have b1 : ((i : Int) < 6) = True := eq_true (by omega)
          simp only [rg, seval, argsB, PV.toDB, Q.toCB, allCB, callB, flatP, flatC, flatS, List.all_nil, List.all_cons, svL, svP, addR, agQ, agR, pid, nodupN, List.contains_nil, List.contains_cons, finG, gIds, idsR, oneI, agI, gOk, oneOk, ptOk, notIn, List.filter_nil, List.filter_cons, pw_mix, ↓runH, ↓one, ↓effC, effR, Updr.app, putO, updL, St.kil, kilQ, kilP, kilL, invC, opKil, excOf, invT, invB, plT, plA, rcOf, wrU, kilI, memK, PV.ids, disj, pairOk, okPast, setP, invU, outB, PV.pl, Q.pl, plL, plL_map, List.all_nil, List.all_cons, List.getD_cons_zero, Prod.fst, List.nil_append, id_eq, List.map_id, Nat.reduceMul, allCB_map, PV.rowB, BASE, ltB, List.isEmpty_nil, delL, St.delO, or_true, List.mem_singleton, b1]
          repeat' (first | with_reducible assumption | with_reducible refine And.intro ?_ ?_ | intro _)
          all_goals first | omega | skip
          have hh : drW (15620 + ((i + 1 : Nat) : Int)) (.mk 5 0 ⟨#[]⟩ [] [.mk k n s ks l]) := by
            refine ⟨⟨by unfold i64; omega, by unfold i64; omega, by unfold lenB; decide, ⟨by unfold lenB; decide, by simp⟩, by unfold lenB; simp, g2.1, trivial⟩, ?_, by simp [topT]⟩
            have := g2.2.1
            simp only [sizeT, sizeL] at this ⊢
            simp only [Int.natCast_add]; omega
          refine ⟨(i + 1, 5, 0, ⟨#[]⟩, [], [.mk k n s ks l]), ⟨by show i + 1 ≤ 6; omega, hh⟩, by show 6 - (i + 1) < 6 - i; omega, Le.bx ?_⟩
          · intro p hp
            simp only [List.mem_cons, List.not_mem_nil, or_false] at hp
            rcases hp with rfl | rfl | rfl
            · exact ⟨_, by simp, All2.qrefl _⟩
            · exact ⟨_, by simp, All2.qrefl _⟩
            · refine ⟨_, List.mem_cons_of_mem _ (List.mem_cons_of_mem _ (List.mem_cons_self ..)), ?_⟩
              exact .cons (QLe.refl _) (.cons (QLe.refl _) (.cons (QLe.refl _) (.cons (QLe.z 1) (.cons (QLe.full _ _) .nil))))
        · have b1 : ((i : Int) < 6) = False := eq_false (by omega)
          simp only [rg, seval, argsB, PV.toDB, Q.toCB, allCB, callB, flatP, flatC, flatS, List.all_nil, List.all_cons, svL, svP, addR, agQ, agR, pid, nodupN, List.contains_nil, List.contains_cons, finG, gIds, idsR, oneI, agI, gOk, oneOk, ptOk, notIn, List.filter_nil, List.filter_cons, pw_mix, ↓runH, ↓one, ↓effC, effR, Updr.app, putO, updL, St.kil, kilQ, kilP, kilL, invC, opKil, excOf, invT, invB, plT, plA, rcOf, wrU, kilI, memK, PV.ids, disj, pairOk, okPast, setP, invU, outB, PV.pl, Q.pl, plL, plL_map, List.all_nil, List.all_cons, List.getD_cons_zero, Prod.fst, List.nil_append, id_eq, List.map_id, Nat.reduceMul, allCB_map, PV.rowB, BASE, ltB, List.isEmpty_nil, delL, St.delO, or_true, List.mem_singleton, b1]
          repeat' (first | with_reducible assumption | with_reducible refine And.intro ?_ ?_ | intro _)
          all_goals first | omega | skip
          exact bent_ex g2 (by omega)
    · rename_i k n s ks l q hd m _ _ _ _ _ _
      exact bent_ex hd.1.w (by omega)
end Go.Proofs.Pw
