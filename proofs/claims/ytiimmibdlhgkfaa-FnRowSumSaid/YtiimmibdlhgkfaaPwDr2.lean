/- Drawing: trees. -/
import Derived.Test.YtiimmibdlhgkfaaPwDr1
import Derived.Test.YtiimmibdlhgkfaaPwOk
set_option linter.unusedSimpArgs false
set_option linter.unusedVariables false
set_option linter.unusedSimpArgs false
set_option maxRecDepth 20000
namespace Go.Proofs.Pw
set_option linter.unusedSectionVars false
variable [Globs]
def x_l1Val : X := (.seq (.reg [⟨some 4, none, .alloc [(.c (.int .i64 0)), (.c (.int .i64 0)), (.c (.str ⟨#[]⟩)), (.z 1), (.z 5)]⟩] none [0, 1, 4]) (.seq (.seq (.reg [⟨some 8, none, .mv (.t 1)⟩, ⟨some 9, none, .bin false .leq (.t 8) (.k (.c (.int .i64 1)))⟩, ⟨some 10, none, .mv (.t 9)⟩, ⟨some 11, some (10, false), .mv (.t 0)⟩, ⟨some 12, some (10, false), .callr 69 [(.t 11), (.k (.c (.int .i64 4)))]⟩, ⟨some 13, some (10, false), .bin false .eql (.t 12) (.k (.c (.int .i64 0)))⟩, ⟨some 14, none, .pick (.t 10) (.k (.c (.bool true))) (.t 13)⟩] none [0, 1, 4, 14]) (.cond (.t 14) (.seq (.reg [⟨some 15, none, .mv (.t 0)⟩, ⟨some 16, none, .callr 84 [(.t 15)]⟩, ⟨none, none, .st (.t 4) (.t 16) (some 5)⟩] none [4]) .ret) .skip)) (.seq (.reg [⟨some 17, none, .build [(.c (.int .i64 0)), (.c (.int .i64 0)), (.c (.str ⟨#[]⟩)), (.z 1), (.z 5)] [(0, (.k (.c (.int .i64 5))), none)]⟩, ⟨some 5, none, .alloc [(.c (.int .i64 0)), (.c (.int .i64 0)), (.c (.str ⟨#[]⟩)), (.z 1), (.z 5)]⟩, ⟨none, none, .st (.t 5) (.t 17) (some 5)⟩] none [0, 1, 4, 5]) (.seq (.seq (.reg [⟨some 18, none, .mv (.t 0)⟩, ⟨some 19, none, .callr 69 [(.t 18), (.k (.c (.int .i64 2)))]⟩, ⟨some 20, none, .bin false .eql (.t 19) (.k (.c (.int .i64 0)))⟩] none [0, 1, 4, 5, 20]) (.cond (.t 20) (.seq (.reg [⟨some 21, none, .fa (.t 5) 0⟩, ⟨none, none, .st (.t 21) (.k (.c (.int .i64 6))) none⟩] none [0, 1, 4, 5]) (.seq (.seq (.reg [⟨some 6, none, .mv (.k (.c (.int .i64 0)))⟩] none [0, 1, 4, 5, 6]) (.block 0 (.loop (.seq (.seq (.reg [⟨some 22, none, .mv (.t 6)⟩, ⟨some 23, none, .bin false .lss (.t 22) (.k (.c (.int .i64 4)))⟩] none [0, 1, 4, 5, 6, 23]) (.cond (.t 23) .skip (.exit 0))) (.seq (.block 1 (.seq (.reg [⟨some 26, none, .mv (.t 0)⟩, ⟨some 27, none, .callr 69 [(.t 26), (.k (.c (.int .i64 2)))]⟩, ⟨some 28, none, .bin false .eql (.t 27) (.k (.c (.int .i64 0)))⟩] none [0, 1, 4, 5, 6, 28]) (.cond (.t 28) (.seq (.reg [⟨some 29, none, .fa (.t 5) 3⟩, ⟨some 30, none, .load (.t 29) none⟩, ⟨some 31, none, .bsl 1 [((.k (.c (.str ⟨#[97]⟩))), none), ((.k (.c (.str ⟨#[98]⟩))), none), ((.k (.c (.str ⟨#[99]⟩))), none), ((.k (.c (.str ⟨#[100]⟩))), none)]⟩, ⟨some 32, none, .mv (.t 6)⟩, ⟨some 33, none, .ia (.t 31) (.t 32) 1⟩, ⟨some 34, none, .load (.t 33) none⟩, ⟨some 35, none, .bsl 1 [((.t 34), none)]⟩, ⟨some 36, none, .app (.t 30) (.t 35) 1 16 []⟩, ⟨some 37, none, .fa (.t 5) 3⟩, ⟨none, none, .st (.t 37) (.t 36) none⟩] (some 7) [0, 1, 4, 5, 6]) (.mix [⟨some 38, none, .fa (.t 5) 4⟩, ⟨some 39, none, .load (.t 38) none⟩, ⟨some 40, none, .mv (.t 0)⟩, ⟨some 41, none, .mv (.t 1)⟩, ⟨some 42, none, .bin false .sub (.t 41) (.k (.c (.int .i64 1)))⟩, ⟨some 43, none, .callr 112 [(.t 40), (.t 42)]⟩, ⟨some 44, none, .bsl 5 [((.t 43), (some 5))]⟩] [⟨some 45, none, .app (.t 39) (.t 44) 5 80 []⟩, ⟨some 46, none, .fa (.t 5) 4⟩, ⟨none, none, .st (.t 46) (.t 45) none⟩] [[], [], [], [], [], [1], []] [0, 1, 4, 5, 6])) .skip))) (.reg [⟨some 24, none, .mv (.t 6)⟩, ⟨some 25, none, .bin false .add (.t 24) (.k (.c (.int .i64 1)))⟩, ⟨some 6, none, .mv (.t 25)⟩] none [0, 1, 4, 5, 6])))))) (.seq (.reg [⟨some 47, none, .load (.t 5) (some 5)⟩, ⟨none, none, .st (.t 4) (.t 47) (some 5)⟩] none [4]) .ret))) .skip)) (.seq (.seq (.reg [⟨some 48, none, .mv (.t 0)⟩, ⟨some 49, none, .callr 69 [(.t 48), (.k (.c (.int .i64 4)))]⟩, ⟨some 7, none, .mv (.t 49)⟩] none [0, 1, 4, 5, 7]) (.block 2 (.loop (.seq (.seq (.reg [⟨some 50, none, .mv (.t 7)⟩, ⟨some 51, none, .bin false .gtr (.t 50) (.k (.c (.int .i64 0)))⟩] none [0, 1, 4, 5, 7, 51]) (.cond (.t 51) .skip (.exit 2))) (.seq (.block 3 (.mix [⟨some 54, none, .fa (.t 5) 4⟩, ⟨some 55, none, .load (.t 54) none⟩, ⟨some 56, none, .mv (.t 0)⟩, ⟨some 57, none, .mv (.t 1)⟩, ⟨some 58, none, .bin false .sub (.t 57) (.k (.c (.int .i64 1)))⟩, ⟨some 59, none, .callr 112 [(.t 56), (.t 58)]⟩, ⟨some 60, none, .bsl 5 [((.t 59), (some 5))]⟩] [⟨some 61, none, .app (.t 55) (.t 60) 5 80 []⟩, ⟨some 62, none, .fa (.t 5) 4⟩, ⟨none, none, .st (.t 62) (.t 61) none⟩] [[], [], [], [], [], [1], []] [0, 1, 4, 5, 7])) (.reg [⟨some 52, none, .mv (.t 7)⟩, ⟨some 53, none, .bin false .sub (.t 52) (.k (.c (.int .i64 1)))⟩, ⟨some 7, none, .mv (.t 53)⟩] none [0, 1, 4, 5, 7])))))) (.seq (.reg [⟨some 63, none, .load (.t 5) (some 5)⟩, ⟨none, none, .st (.t 4) (.t 63) (some 5)⟩] none [4]) .ret))))))
theorem chk_l1Val : chkX Go.Proofs.Try.prog 64 (Go.Proofs.Try.f112.body.getD .skip) x_l1Val = true := by kernel_rfl
theorem rs_l1Val : okRs Go.Proofs.Try.prog Go.Proofs.Try.f112.results.toList [.cell 4 (some 5)] = true := by kernel_rfl
theorem call_l1Val : okCallee Go.Proofs.Try.prog 112 = true := by kernel_rfl
theorem drT_mk {m k n : Int} {s : ByteArray} {ks : List ByteArray} {l : List T} (hk : i64 k) (hn : i64 n) (hs : (s.size : Int) ≤ 1000) (h1 : ks.length ≤ 6) (h2 : ∀ s ∈ ks, (s.size : Int) ≤ 1000) (h3 : l.length ≤ 6) (h4 : fitL 1000 l) (h5 : 1 + sizeL l ≤ m) : drT m (.mk k n s ks l) :=
  ⟨⟨hk, hn, hs, ⟨by unfold lenB; omega, h2⟩, by unfold lenB; omega, h4⟩, h5, h3, h1⟩
def spVal (m:Nat) : Spec := Spec.ofR (ι := (List Int) × Int × Int) (κ := Int × Int × ByteArray × (List ByteArray) × (List T) × Int) [true, false] (fun i => [.ref (rdC i.1 i.2.1), .d (.one (.int .i64 i.2.2))]) (fun i => (byt i.1 ∧ 0 ≤ i.2.1 ∧ i.2.1 + vb i.2.2.toNat ≤ 1099511627776 ∧ -1 ≤ i.2.2 ∧ i.2.2 ≤ 5) ∧ i.2.2.toNat < m) (fun i k => drT (vb i.2.2.toNat) (.mk k.1 k.2.1 k.2.2.1 k.2.2.2.1 k.2.2.2.2.1) ∧ i.2.1 ≤ k.2.2.2.2.2 ∧ k.2.2.2.2.2 ≤ i.2.1 + vb i.2.2.toNat) (fun i k => [.ag [.c (.int .i64 k.1), .c (.int .i64 k.2.1), .c (.str k.2.2.1), .o 1 (strs k.2.2.2.1), .c (.row 5 (encL k.2.2.2.2.1))]]) (fun i k => [.ref (rdC i.1 k.2.2.2.2.2), .gone])
theorem spVal_inj : ∀ i j : (List Int) × Int × Int, (fun (i : (List Int) × Int × Int) => ([.ref (rdC i.1 i.2.1), .d (.one (.int .i64 i.2.2))] : List AV)) i = (fun (i : (List Int) × Int × Int) => ([.ref (rdC i.1 i.2.1), .d (.one (.int .i64 i.2.2))] : List AV)) j → i = j := by
  rintro ⟨bs, p, d⟩ ⟨bs', p', d'⟩ h
  simp only [Prod.mk.injEq]
  simpa [strs_eq, T.enc_eq, encL_eq, F.enc_eq, encF_eq, Tk.enc_eq, encTk_eq, Gn.enc_eq, ints_eq, rdC_eq, and_assoc] using h
theorem spVal_md (m:Nat) : (spVal m).md = [true, false] := rfl
theorem spVal_pre (m:Nat) (bs : List Int) (p : Int) (d : Int) : (spVal m).pre [.ref (rdC bs p), .d (.one (.int .i64 d))] = ((byt bs ∧ 0 ≤ p ∧ p + vb d.toNat ≤ 1099511627776 ∧ -1 ≤ d ∧ d ≤ 5) ∧ d.toNat < m) := Spec.ofR_pre spVal_inj (bs, p, d)
theorem spVal_ne0 (m:Nat) (bs : List Int) (p : Int) (d : Int) : (spVal m).ne [.ref (rdC bs p), .d (.one (.int .i64 d))] = (∃ k : Int × Int × ByteArray × (List ByteArray) × (List T) × Int, drT (vb d.toNat) (.mk k.1 k.2.1 k.2.2.1 k.2.2.2.1 k.2.2.2.2.1) ∧ p ≤ k.2.2.2.2.2 ∧ k.2.2.2.2.2 ≤ p + vb d.toNat) := Spec.ofR_ne spVal_inj (bs, p, d)
theorem spVal_all (m:Nat) (bs : List Int) (p : Int) (d : Int) (F : List AV → List AV → Prop) : (spVal m).all [.ref (rdC bs p), .d (.one (.int .i64 d))] F = (∀ (k : Int) (n : Int) (s : ByteArray) (ks : List ByteArray) (l : List T) (q : Int), (drT (vb d.toNat) (.mk k n s ks l) ∧ p ≤ q ∧ q ≤ p + vb d.toNat) → F [.ag [.c (.int .i64 k), .c (.int .i64 n), .c (.str s), .o 1 (strs ks), .c (.row 5 (encL l))]] [.ref (rdC bs q), .gone]) := by
  refine (Spec.ofR_all spVal_inj (bs, p, d) F).trans (propext ⟨fun h k n s ks l q hr => h (k, n, s, ks, l, q) hr, fun h k hr => ?_⟩)
  exact h k.1 k.2.1 k.2.2.1 k.2.2.2.1 k.2.2.2.2.1 k.2.2.2.2.2 hr
theorem spVal_ne (m : Nat) (bs : List Int) (p d : Int) : (spVal m).ne [.ref (rdC bs p), .d (.one (.int .i64 d))] = True := by
  rw [spVal_ne0]
  have := vb_pos d.toNat
  exact eq_true ⟨(0, 0, ⟨#[]⟩, [], [], p), (drT_leaf (k := 0) (n := 0) (s := ⟨#[]⟩) (by unfold i64; omega) (by unfold i64; omega) (by decide)).mono (by omega), Int.le_refl _, by show p ≤ p + vb d.toNat; omega⟩
set_option maxHeartbeats 4000000 in
theorem l1Val_sound (m : Nat) (hS : Sound Go.Proofs.Try.prog 112 (spVal m)) : Sound Go.Proofs.Try.prog 112 (spVal (m + 1)) := by
  have hW : Sound Go.Proofs.Try.prog 112 (spVal m).weak := hS.weak (by
    rintro ds r o _ ⟨i, k, _, _, rfl, _⟩ x hx cs rfl
    simp at hx)
  refine sound_famR (GOK.cons (l := [(84, spLeaf), (112, (spVal m).weak)]) call_pick pick_sound (GOK.cons call_l1Leaf l1Leaf_sound (GOK.cons call_l1Val hW GOK.nil))) Go.Proofs.Try.func112 (c := Go.Proofs.Try.f112.body.getD .skip) rfl (n := 64) rfl chk_l1Val rs_l1Val (fun _ => by simp) ?_
  · rintro ⟨bs, p, d⟩ ⟨⟨hb, h1, h2, h3, h4⟩, h5⟩
    change byt bs at hb
    simp only at h1 h2 h3 h4 h5
    by_cases c1 : d ≤ 1
    · have a1 : (d ≤ 1) = True := eq_true c1
      have hv := vb_pos d.toNat
      simp only [x_l1Val, rg, seval, argsB, PV.toDB, Q.toCB, allCB, callB, flatP, flatC, flatS, List.all_nil, List.all_cons, svL, svP, addR, agQ, agR, pid, nodupN, List.contains_nil, List.contains_cons, finG, gIds, idsR, oneI, agI, gOk, oneOk, ptOk, notIn, List.filter_nil, List.filter_cons, pw_mix, ↓runH, ↓one, ↓effC, effR, Updr.app, putO, updL, St.kil, kilQ, kilP, kilL, invC, opKil, excOf, invT, invB, plT, plA, rcOf, wrU, kilI, memK, PV.ids, disj, pairOk, okPast, setP, invU, outB, PV.pl, Q.pl, plL, plL_map, List.all_nil, List.all_cons, List.getD_cons_zero, Prod.fst, List.nil_append, id_eq, List.map_id, Nat.reduceMul, allCB_map, PV.rowB, BASE, ltB, List.isEmpty_nil, delL, St.delO, or_true, List.mem_singleton, a1, spPick_md, spPick_pre, spPick_ne, ↓spPick_all, spPick_all, spLeaf_md, spLeaf_pre, spLeaf_ne, ↓spLeaf_all, spLeaf_all]
      repeat' (first | with_reducible assumption | with_reducible refine And.intro ?_ ?_ | intro _)
      all_goals first | omega | skip
      rename_i k n s ks l q hq
      exact ⟨(k, n, s, ks, l, q), ⟨hq.1.mono (by omega), hq.2.1, by show q ≤ p + vb d.toNat; omega⟩, ⟨rfl, rfl, rfl, rfl, rfl⟩, rfl⟩
    · have a1 : (d ≤ 1) = False := eq_false c1
      obtain ⟨e, he⟩ : ∃ e, d.toNat = e + 1 := ⟨d.toNat - 1, by omega⟩
      have he' : (d - 1).toNat = e := by omega
      rw [he] at h2 h5
      have hv := vb_pos e
      have hv' : vb (e + 1) = 20 + 5 * vb e := rfl
      rw [hv'] at h2
      simp only [x_l1Val, rg, seval, argsB, PV.toDB, Q.toCB, allCB, callB, flatP, flatC, flatS, List.all_nil, List.all_cons, svL, svP, addR, agQ, agR, pid, nodupN, List.contains_nil, List.contains_cons, finG, gIds, idsR, oneI, agI, gOk, oneOk, ptOk, notIn, List.filter_nil, List.filter_cons, pw_mix, ↓runH, ↓one, ↓effC, effR, Updr.app, putO, updL, St.kil, kilQ, kilP, kilL, invC, opKil, excOf, invT, invB, plT, plA, rcOf, wrU, kilI, memK, PV.ids, disj, pairOk, okPast, setP, invU, outB, PV.pl, Q.pl, plL, plL_map, List.all_nil, List.all_cons, List.getD_cons_zero, Prod.fst, List.nil_append, id_eq, List.map_id, Nat.reduceMul, allCB_map, PV.rowB, BASE, ltB, List.isEmpty_nil, delL, St.delO, or_true, List.mem_singleton, a1, spPick_md, spPick_pre, spPick_ne, ↓spPick_all, spPick_all, spLeaf_md, spLeaf_pre, spLeaf_ne, ↓spLeaf_all, spLeaf_all]
      repeat' (first | with_reducible assumption | with_reducible refine And.intro ?_ ?_ | intro _)
      all_goals first | omega | skip
      · rename_i k n s ks l q hq
        exact ⟨(k, n, s, ks, l, q), ⟨hq.1.mono (by rw [he]; omega), by show p ≤ q; omega, by show q ≤ p + vb d.toNat; rw [he]; omega⟩, ⟨rfl, rfl, rfl, rfl, rfl⟩, rfl⟩
      · refine pw_loop (ι := Nat × Int × List ByteArray × List T) (fun i => 4 - i.1)
          (fun i => i.1 ≤ 4 ∧ p + 2 ≤ i.2.1 ∧ i.2.1 ≤ p + 2 + i.1 + i.1 * vb e ∧ i.2.2.1.length ≤ i.1 ∧ (∀ s ∈ i.2.2.1, (s.size : Int) ≤ 1000) ∧ i.2.2.2.length ≤ i.1 ∧ fitL 1000 i.2.2.2 ∧ sizeL i.2.2.2 ≤ i.1 * vb e)
          (fun i => ⟨[(0, .q (.box 64 0)), (1, .q (.c (.int .i64 d))), (4, .q (.box 4 0)), (5, .q (.box 5 0)), (6, .q (.c (.int .i64 i.1)))],
            [(64, (rdC bs i.2.1).map .c), (4, [.c (.int .i64 0), .c (.int .i64 0), .c (.str ⟨#[]⟩), .z 1, .z 5]), (5, [.c (.int .i64 6), .c (.int .i64 0), .c (.str ⟨#[]⟩), .own 36, .own 45])],
            [(36, 1, strs i.2.2.1), (45, 5, encL i.2.2.2)]⟩) (0, p + 1 + 1, [], []) ⟨by simp, by show p + 2 ≤ p + 1 + 1; omega, by show p + 1 + 1 ≤ p + 2 + ((0 : Nat) : Int) + ((0 : Nat) : Int) * vb e; simp; omega, by simp, by simp, by simp, trivial, by simp [sizeL]⟩ ?_ ?_
        · refine (Le.ownB (b := 5) (j := 3) (d := 36) (sz := 1) (qs := [.c (.int .i64 6), .c (.int .i64 0), .c (.str ⟨#[]⟩), .z 1, .z 5]) (by decide) (by simp) rfl (by simp [Q.killO, rdC]) (by simp [PV.map, Q.killO])).trans
            ((Le.ownB (b := 5) (j := 4) (d := 45) (sz := 5) (qs := [.c (.int .i64 6), .c (.int .i64 0), .c (.str ⟨#[]⟩), .own 36, .z 5]) (by decide) (by simp [upd]) rfl (by simp [upd, del, Q.killO, rdC]) (by simp [PV.map, Q.killO])).trans (Le.of_eq (by simp [upd, del, strs, encL])))
        · rintro ⟨i, q, ks, l⟩ ⟨g1, g2, g3, g4, g5, g6, g7, g8⟩
          simp only at g1 g2 g3 g4 g5 g6 g7 g8
          rcases Nat.lt_or_ge i 4 with hlt | hge
          · have b1 : ((i : Int) < 4) = True := eq_true (by omega)
            have b2 : (i : Int) * vb e ≤ 3 * vb e := Int.mul_le_mul_of_nonneg_right (by omega) (by omega)
            have b3 : ((i + 1 : Nat) : Int) * vb e = i * vb e + vb e := by rw [Int.natCast_add, Int.add_mul]; simp
            obtain ⟨x, b4, b5⟩ : ∃ x, (strs [⟨#[97]⟩, ⟨#[98]⟩, ⟨#[99]⟩, ⟨#[100]⟩]).getD i [] = [C.str x] ∧ (x.size : Int) ≤ 1000 := by
              rcases i with _ | _ | _ | _ | i
              · exact ⟨_, rfl, by decide⟩
              · exact ⟨_, rfl, by decide⟩
              · exact ⟨_, rfl, by decide⟩
              · exact ⟨_, rfl, by decide⟩
              · omega
            simp only [rg, seval, argsB, PV.toDB, Q.toCB, allCB, callB, flatP, flatC, flatS, List.all_nil, List.all_cons, svL, svP, addR, agQ, agR, pid, nodupN, List.contains_nil, List.contains_cons, finG, gIds, idsR, oneI, agI, gOk, oneOk, ptOk, notIn, List.filter_nil, List.filter_cons, pw_mix, ↓runH, ↓one, ↓effC, effR, Updr.app, putO, updL, St.kil, kilQ, kilP, kilL, invC, opKil, excOf, invT, invB, plT, plA, rcOf, wrU, kilI, memK, PV.ids, disj, pairOk, okPast, setP, invU, outB, PV.pl, Q.pl, plL, plL_map, List.all_nil, List.all_cons, List.getD_cons_zero, Prod.fst, List.nil_append, id_eq, List.map_id, Nat.reduceMul, allCB_map, PV.rowB, BASE, ltB, List.isEmpty_nil, delL, St.delO, or_true, List.mem_singleton, b1, b4, strs4l, strs_len, encL_len, spPick_md, spPick_pre, spPick_ne, ↓spPick_all, spPick_all, weak_md, weak_pre, weak_ne, ↓weak_all, AV.weak, Pt.toC, spVal_md, spVal_pre, spVal_ne, ↓spVal_all, spVal_all, he']
            repeat' (first | with_reducible assumption | with_reducible refine And.intro ?_ ?_ | intro _)
            all_goals first | omega | skip
            · rename_i k n s ks' l' q' hd _ _
              refine ⟨(i + 1, q', ks ++ [x], l ++ [.mk k n s ks' l']), ⟨by show i + 1 ≤ 4; omega, by show p + 2 ≤ q'; omega, by show q' ≤ p + 2 + ((i + 1 : Nat) : Int) + ((i + 1 : Nat) : Int) * vb e; omega, by simp; omega, ?_, by simp; omega, fitL_app g7 ⟨hd.1.1, trivial⟩, ?_⟩, by show 4 - (i + 1) < 4 - i; omega, ?_⟩
              · intro y hy
                rcases List.mem_append.1 hy with hy | hy
                · exact g5 y hy
                · simp at hy; rw [hy]; exact b5
              · show sizeL (l ++ _) ≤ ((i + 1 : Nat) : Int) * vb e
                rw [sizeL_app]
                have := hd.1.2
                simp only [sizeL]; omega
              · exact Le.of_eq (by simp [strs_app, encL_app, strs, encL, T.enc])
            · refine ⟨(i + 1, q + 1, ks, l), ⟨by show i + 1 ≤ 4; omega, by show p + 2 ≤ q + 1; omega, by show q + 1 ≤ p + 2 + ((i + 1 : Nat) : Int) + ((i + 1 : Nat) : Int) * vb e; omega, by show ks.length ≤ i + 1; omega, g5, by show l.length ≤ i + 1; omega, g7, by show sizeL l ≤ ((i + 1 : Nat) : Int) * vb e; omega⟩, by show 4 - (i + 1) < 4 - i; omega, Le.of_eq (by simp)⟩
          · have b1 : ((i : Int) < 4) = False := eq_false (by omega)
            have b2 : (i : Int) * vb e ≤ 4 * vb e := Int.mul_le_mul_of_nonneg_right (by omega) (by omega)
            simp only [rg, seval, argsB, PV.toDB, Q.toCB, allCB, callB, flatP, flatC, flatS, List.all_nil, List.all_cons, svL, svP, addR, agQ, agR, pid, nodupN, List.contains_nil, List.contains_cons, finG, gIds, idsR, oneI, agI, gOk, oneOk, ptOk, notIn, List.filter_nil, List.filter_cons, pw_mix, ↓runH, ↓one, ↓effC, effR, Updr.app, putO, updL, St.kil, kilQ, kilP, kilL, invC, opKil, excOf, invT, invB, plT, plA, rcOf, wrU, kilI, memK, PV.ids, disj, pairOk, okPast, setP, invU, outB, PV.pl, Q.pl, plL, plL_map, List.all_nil, List.all_cons, List.getD_cons_zero, Prod.fst, List.nil_append, id_eq, List.map_id, Nat.reduceMul, allCB_map, PV.rowB, BASE, ltB, List.isEmpty_nil, delL, St.delO, or_true, List.mem_singleton, b1]
            repeat' (first | with_reducible assumption | with_reducible refine And.intro ?_ ?_ | intro _)
            all_goals first | omega | skip
            have hh : drT (vb d.toNat) (.mk 6 0 ⟨#[]⟩ ks l) := drT_mk (by unfold i64; omega) (by unfold i64; omega) (by decide) (by omega) g5 (by omega) g7 (by rw [he]; omega)
            exact ⟨(6, 0, ⟨#[]⟩, ks, l, q), ⟨hh, by show p ≤ q; omega, by show q ≤ p + vb d.toNat; rw [he]; omega⟩, ⟨rfl, rfl, rfl, rfl, rfl⟩, rfl⟩
      · rename_i r hr
        refine pw_loop (ι := Nat × Nat × Int × List T) (fun i => i.1)
          (fun i => i.1 + i.2.1 ≤ 3 ∧ p + 3 ≤ i.2.2.1 ∧ i.2.2.1 ≤ p + 3 + i.2.1 * vb e ∧ i.2.2.2.length ≤ i.2.1 ∧ fitL 1000 i.2.2.2 ∧ sizeL i.2.2.2 ≤ i.2.1 * vb e)
          (fun i => ⟨[(0, .q (.box 64 0)), (1, .q (.c (.int .i64 d))), (4, .q (.box 4 0)), (5, .q (.box 5 0)), (7, .q (.c (.int .i64 i.1)))],
            [(64, (rdC bs i.2.2.1).map .c), (4, [.c (.int .i64 0), .c (.int .i64 0), .c (.str ⟨#[]⟩), .z 1, .z 5]), (5, [.c (.int .i64 5), .c (.int .i64 0), .c (.str ⟨#[]⟩), .z 1, .own 61])],
            [(61, 5, encL i.2.2.2)]⟩) (r.toNat, 0, p + 1 + 1 + 1, []) ⟨by show r.toNat + 0 ≤ 3; omega, by show p + 3 ≤ p + 1 + 1 + 1; omega, by show p + 1 + 1 + 1 ≤ p + 3 + ((0 : Nat) : Int) * vb e; simp; omega, by simp, trivial, by simp [sizeL]⟩ ?_ ?_
        · refine (Le.ownB (b := 5) (j := 4) (d := 61) (sz := 5) (qs := [.c (.int .i64 5), .c (.int .i64 0), .c (.str ⟨#[]⟩), .z 1, .z 5]) (by decide) (by simp) rfl (by simp [Q.killO, rdC]) (by simp [PV.map, Q.killO])).trans (Le.of_eq ?_)
          have : ((r.toNat : Nat) : Int) = r := by omega
          simp [upd, del, encL, this]
        · rintro ⟨i, j, q, l⟩ ⟨g1, g2, g3, g4, g5, g6⟩
          simp only at g1 g2 g3 g4 g5 g6
          rcases Nat.eq_zero_or_pos i with h0 | hpos
          · have b1 : ((i : Int) > 0) = False := eq_false (by omega)
            have b2 : (j : Int) * vb e ≤ 3 * vb e := Int.mul_le_mul_of_nonneg_right (by omega) (by omega)
            have b1' : ((0 : Int) < i) = False := eq_false (by omega)
            simp only [rg, seval, argsB, PV.toDB, Q.toCB, allCB, callB, flatP, flatC, flatS, List.all_nil, List.all_cons, svL, svP, addR, agQ, agR, pid, nodupN, List.contains_nil, List.contains_cons, finG, gIds, idsR, oneI, agI, gOk, oneOk, ptOk, notIn, List.filter_nil, List.filter_cons, pw_mix, ↓runH, ↓one, ↓effC, effR, Updr.app, putO, updL, St.kil, kilQ, kilP, kilL, invC, opKil, excOf, invT, invB, plT, plA, rcOf, wrU, kilI, memK, PV.ids, disj, pairOk, okPast, setP, invU, outB, PV.pl, Q.pl, plL, plL_map, List.all_nil, List.all_cons, List.getD_cons_zero, Prod.fst, List.nil_append, id_eq, List.map_id, Nat.reduceMul, allCB_map, PV.rowB, BASE, ltB, List.isEmpty_nil, delL, St.delO, or_true, List.mem_singleton, b1, b1']
            repeat' (first | with_reducible assumption | with_reducible refine And.intro ?_ ?_ | intro _)
            all_goals first | omega | skip
            have hh : drT (vb d.toNat) (.mk 5 0 ⟨#[]⟩ [] l) := drT_mk (by unfold i64; omega) (by unfold i64; omega) (by decide) (by simp) (by simp) (by omega) g5 (by rw [he]; omega)
            exact ⟨(5, 0, ⟨#[]⟩, [], l, q), ⟨hh, by show p ≤ q; omega, by show q ≤ p + vb d.toNat; rw [he]; omega⟩, ⟨rfl, rfl, rfl, rfl, rfl⟩, rfl⟩
          · have b1 : ((0 : Int) < i) = True := eq_true (by omega)
            have b2 : (j : Int) * vb e ≤ 2 * vb e := Int.mul_le_mul_of_nonneg_right (by omega) (by omega)
            have b3 : ((j + 1 : Nat) : Int) * vb e = j * vb e + vb e := by rw [Int.natCast_add, Int.add_mul]; simp
            simp only [rg, seval, argsB, PV.toDB, Q.toCB, allCB, callB, flatP, flatC, flatS, List.all_nil, List.all_cons, svL, svP, addR, agQ, agR, pid, nodupN, List.contains_nil, List.contains_cons, finG, gIds, idsR, oneI, agI, gOk, oneOk, ptOk, notIn, List.filter_nil, List.filter_cons, pw_mix, ↓runH, ↓one, ↓effC, effR, Updr.app, putO, updL, St.kil, kilQ, kilP, kilL, invC, opKil, excOf, invT, invB, plT, plA, rcOf, wrU, kilI, memK, PV.ids, disj, pairOk, okPast, setP, invU, outB, PV.pl, Q.pl, plL, plL_map, List.all_nil, List.all_cons, List.getD_cons_zero, Prod.fst, List.nil_append, id_eq, List.map_id, Nat.reduceMul, allCB_map, PV.rowB, BASE, ltB, List.isEmpty_nil, delL, St.delO, or_true, List.mem_singleton, b1, encL_len, spPick_md, spPick_pre, spPick_ne, ↓spPick_all, spPick_all, weak_md, weak_pre, weak_ne, ↓weak_all, AV.weak, Pt.toC, spVal_md, spVal_pre, spVal_ne, ↓spVal_all, spVal_all, he']
            repeat' (first | with_reducible assumption | with_reducible refine And.intro ?_ ?_ | intro _)
            all_goals first | omega | skip
            · rename_i k n s ks' l' q' hd _ _
              refine ⟨(i - 1, j + 1, q', l ++ [.mk k n s ks' l']), ⟨by show i - 1 + (j + 1) ≤ 3; omega, by show p + 3 ≤ q'; omega, by show q' ≤ p + 3 + ((j + 1 : Nat) : Int) * vb e; omega, by simp; omega, fitL_app g5 ⟨hd.1.1, trivial⟩, ?_⟩, by show i - 1 < i; omega, ?_⟩
              · show sizeL (l ++ _) ≤ ((j + 1 : Nat) : Int) * vb e
                rw [sizeL_app]
                have := hd.1.2
                simp only [sizeL]; omega
              · have : ((i - 1 : Nat) : Int) = i - 1 := by omega
                exact Le.of_eq (by simp [encL_app, encL, T.enc, this])
def spValF  : Spec := Spec.ofR (ι := (List Int) × Int × Int) (κ := Int × Int × ByteArray × (List ByteArray) × (List T) × Int) [true, false] (fun i => [.ref (rdC i.1 i.2.1), .d (.one (.int .i64 i.2.2))]) (fun i => byt i.1 ∧ 0 ≤ i.2.1 ∧ i.2.1 + vb i.2.2.toNat ≤ 1099511627776 ∧ -1 ≤ i.2.2 ∧ i.2.2 ≤ 5) (fun i k => drT (vb i.2.2.toNat) (.mk k.1 k.2.1 k.2.2.1 k.2.2.2.1 k.2.2.2.2.1) ∧ i.2.1 ≤ k.2.2.2.2.2 ∧ k.2.2.2.2.2 ≤ i.2.1 + vb i.2.2.toNat) (fun i k => [.ag [.c (.int .i64 k.1), .c (.int .i64 k.2.1), .c (.str k.2.2.1), .o 1 (strs k.2.2.2.1), .c (.row 5 (encL k.2.2.2.2.1))]]) (fun i k => [.ref (rdC i.1 k.2.2.2.2.2), .gone])
theorem spValF_inj : ∀ i j : (List Int) × Int × Int, (fun (i : (List Int) × Int × Int) => ([.ref (rdC i.1 i.2.1), .d (.one (.int .i64 i.2.2))] : List AV)) i = (fun (i : (List Int) × Int × Int) => ([.ref (rdC i.1 i.2.1), .d (.one (.int .i64 i.2.2))] : List AV)) j → i = j := by
  rintro ⟨bs, p, d⟩ ⟨bs', p', d'⟩ h
  simp only [Prod.mk.injEq]
  simpa [strs_eq, T.enc_eq, encL_eq, F.enc_eq, encF_eq, Tk.enc_eq, encTk_eq, Gn.enc_eq, ints_eq, rdC_eq, and_assoc] using h
theorem spValF_md  : (spValF).md = [true, false] := rfl
theorem spValF_pre  (bs : List Int) (p : Int) (d : Int) : (spValF).pre [.ref (rdC bs p), .d (.one (.int .i64 d))] = (byt bs ∧ 0 ≤ p ∧ p + vb d.toNat ≤ 1099511627776 ∧ -1 ≤ d ∧ d ≤ 5) := Spec.ofR_pre spValF_inj (bs, p, d)
theorem spValF_ne0  (bs : List Int) (p : Int) (d : Int) : (spValF).ne [.ref (rdC bs p), .d (.one (.int .i64 d))] = (∃ k : Int × Int × ByteArray × (List ByteArray) × (List T) × Int, drT (vb d.toNat) (.mk k.1 k.2.1 k.2.2.1 k.2.2.2.1 k.2.2.2.2.1) ∧ p ≤ k.2.2.2.2.2 ∧ k.2.2.2.2.2 ≤ p + vb d.toNat) := Spec.ofR_ne spValF_inj (bs, p, d)
theorem spValF_all  (bs : List Int) (p : Int) (d : Int) (F : List AV → List AV → Prop) : (spValF).all [.ref (rdC bs p), .d (.one (.int .i64 d))] F = (∀ (k : Int) (n : Int) (s : ByteArray) (ks : List ByteArray) (l : List T) (q : Int), (drT (vb d.toNat) (.mk k n s ks l) ∧ p ≤ q ∧ q ≤ p + vb d.toNat) → F [.ag [.c (.int .i64 k), .c (.int .i64 n), .c (.str s), .o 1 (strs ks), .c (.row 5 (encL l))]] [.ref (rdC bs q), .gone]) := by
  refine (Spec.ofR_all spValF_inj (bs, p, d) F).trans (propext ⟨fun h k n s ks l q hr => h (k, n, s, ks, l, q) hr, fun h k hr => ?_⟩)
  exact h k.1 k.2.1 k.2.2.1 k.2.2.2.1 k.2.2.2.2.1 k.2.2.2.2.2 hr
theorem spValF_ne (bs : List Int) (p d : Int) : spValF.ne [.ref (rdC bs p), .d (.one (.int .i64 d))] = True := by
  rw [spValF_ne0]
  have := vb_pos d.toNat
  exact eq_true ⟨(0, 0, ⟨#[]⟩, [], [], p), (drT_leaf (k := 0) (n := 0) (s := ⟨#[]⟩) (by unfold i64; omega) (by unfold i64; omega) (by decide)).mono (by omega), Int.le_refl _, by show p ≤ p + vb d.toNat; omega⟩
theorem l1Val_all : Sound Go.Proofs.Try.prog 112 spValF := Sound.allR (fun i => i.2.2.toNat) (fun k => by
  induction k with
  | zero => exact Sound.noneR
  | succ k ih => exact l1Val_sound k ih)
def x_l1Some : X := (.seq (.reg [⟨some 2, none, .alloc [(.c (.int .i64 0)), (.c (.int .i64 0)), (.c (.str ⟨#[]⟩)), (.z 1), (.z 5)]⟩] none [0, 2]) (.seq (.reg [⟨some 4, none, .mv (.t 0)⟩, ⟨some 5, none, .mv (.t 0)⟩, ⟨some 6, none, .callr 69 [(.t 5), (.k (.c (.int .i64 4)))]⟩, ⟨some 7, none, .bin false .add (.k (.c (.int .i64 1))) (.t 6)⟩, ⟨some 8, none, .callr 112 [(.t 4), (.t 7)]⟩, ⟨some 3, none, .alloc [(.c (.int .i64 0)), (.c (.int .i64 0)), (.c (.str ⟨#[]⟩)), (.z 1), (.z 5)]⟩, ⟨none, none, .st (.t 3) (.t 8) (some 5)⟩] none [0, 2, 3]) (.seq (.seq (.reg [⟨some 9, none, .load (.t 3) (some 5)⟩, ⟨some 10, none, .callb 94 [(.t 9)]⟩, ⟨some 11, none, .not (.t 10)⟩] none [0, 2, 3, 11]) (.cond (.t 11) (.seq (.reg [⟨some 12, none, .mv (.t 0)⟩, ⟨some 13, none, .callr 84 [(.t 12)]⟩, ⟨none, none, .st (.t 2) (.t 13) (some 5)⟩] none [2]) .ret) .skip)) (.seq (.reg [⟨some 14, none, .load (.t 3) (some 5)⟩, ⟨none, none, .st (.t 2) (.t 14) (some 5)⟩] none [2]) .ret))))
theorem chk_l1Some : chkX Go.Proofs.Try.prog 15 (Go.Proofs.Try.f99.body.getD .skip) x_l1Some = true := by kernel_rfl
theorem rs_l1Some : okRs Go.Proofs.Try.prog Go.Proofs.Try.f99.results.toList [.cell 2 (some 5)] = true := by kernel_rfl
theorem call_l1Some : okCallee Go.Proofs.Try.prog 99 = true := by kernel_rfl
theorem vb_le {d : Nat} (h : d ≤ 4) : vb d ≤ 15620 := by
  rcases d with _ | _ | _ | _ | _ | d
  · decide
  · decide
  · decide
  · decide
  · decide
  · omega
theorem vb_le3 {d : Nat} (h : d ≤ 3) : vb d ≤ 3120 := by
  rcases d with _ | _ | _ | _ | d
  · decide
  · decide
  · decide
  · decide
  · omega
theorem valF_weakable : ∀ ds r o, spValF.pre ds → spValF.may ds r o → ∀ x ∈ r, ∀ cs, x ≠ .ref cs := by
  rintro ds r o _ ⟨i, k, _, _, rfl, _⟩ x hx cs rfl
  simp at hx
def spSome  : Spec := Spec.ofR (ι := (List Int) × Int) (κ := Int × Int × ByteArray × (List ByteArray) × (List T) × Int) [true] (fun i => [.ref (rdC i.1 i.2)]) (fun i => byt i.1 ∧ 0 ≤ i.2 ∧ i.2 + 16000 ≤ 1099511627776) (fun i k => drT 15620 (.mk k.1 k.2.1 k.2.2.1 k.2.2.2.1 k.2.2.2.2.1) ∧ i.2 ≤ k.2.2.2.2.2 ∧ k.2.2.2.2.2 ≤ i.2 + 16000) (fun i k => [.ag [.c (.int .i64 k.1), .c (.int .i64 k.2.1), .c (.str k.2.2.1), .o 1 (strs k.2.2.2.1), .c (.row 5 (encL k.2.2.2.2.1))]]) (fun i k => [.ref (rdC i.1 k.2.2.2.2.2)])
theorem spSome_inj : ∀ i j : (List Int) × Int, (fun (i : (List Int) × Int) => ([.ref (rdC i.1 i.2)] : List AV)) i = (fun (i : (List Int) × Int) => ([.ref (rdC i.1 i.2)] : List AV)) j → i = j := by
  rintro ⟨bs, p⟩ ⟨bs', p'⟩ h
  simp only [Prod.mk.injEq]
  simpa [strs_eq, T.enc_eq, encL_eq, F.enc_eq, encF_eq, Tk.enc_eq, encTk_eq, Gn.enc_eq, ints_eq, rdC_eq, and_assoc] using h
theorem spSome_md  : (spSome).md = [true] := rfl
theorem spSome_pre  (bs : List Int) (p : Int) : (spSome).pre [.ref (rdC bs p)] = (byt bs ∧ 0 ≤ p ∧ p + 16000 ≤ 1099511627776) := Spec.ofR_pre spSome_inj (bs, p)
theorem spSome_ne0  (bs : List Int) (p : Int) : (spSome).ne [.ref (rdC bs p)] = (∃ k : Int × Int × ByteArray × (List ByteArray) × (List T) × Int, drT 15620 (.mk k.1 k.2.1 k.2.2.1 k.2.2.2.1 k.2.2.2.2.1) ∧ p ≤ k.2.2.2.2.2 ∧ k.2.2.2.2.2 ≤ p + 16000) := Spec.ofR_ne spSome_inj (bs, p)
theorem spSome_all  (bs : List Int) (p : Int) (F : List AV → List AV → Prop) : (spSome).all [.ref (rdC bs p)] F = (∀ (k : Int) (n : Int) (s : ByteArray) (ks : List ByteArray) (l : List T) (q : Int), (drT 15620 (.mk k n s ks l) ∧ p ≤ q ∧ q ≤ p + 16000) → F [.ag [.c (.int .i64 k), .c (.int .i64 n), .c (.str s), .o 1 (strs ks), .c (.row 5 (encL l))]] [.ref (rdC bs q)]) := by
  refine (Spec.ofR_all spSome_inj (bs, p) F).trans (propext ⟨fun h k n s ks l q hr => h (k, n, s, ks, l, q) hr, fun h k hr => ?_⟩)
  exact h k.1 k.2.1 k.2.2.1 k.2.2.2.1 k.2.2.2.2.1 k.2.2.2.2.2 hr
theorem spSome_ne (bs : List Int) (p : Int) : spSome.ne [.ref (rdC bs p)] = True := by
  rw [spSome_ne0]
  exact eq_true ⟨(0, 0, ⟨#[]⟩, [], [], p), (drT_leaf (k := 0) (n := 0) (s := ⟨#[]⟩) (by unfold i64; omega) (by unfold i64; omega) (by decide)).mono (by omega), Int.le_refl _, by show p ≤ p + 16000; omega⟩
theorem foldT (k n : Int) (s : ByteArray) (ks : List ByteArray) (l : List T) : DV.agg [C.int .i64 k, C.int .i64 n, C.str s, C.row 1 (strs ks), C.row 5 (encL l)] = DV.agg (T.mk k n s ks l).enc := rfl
set_option maxHeartbeats 4000000 in
theorem l1Some_sound : Sound Go.Proofs.Try.prog 99 spSome := by
  refine sound_famR (GOK.cons (l := [(84, spLeaf), (112, spValF), (94, spOkT)]) call_pick pick_sound (GOK.cons call_l1Leaf l1Leaf_sound (GOK.cons call_l1Val l1Val_all (GOK.cons call_ValOk sOkT_sound GOK.nil)))) Go.Proofs.Try.func99 (c := Go.Proofs.Try.f99.body.getD .skip) rfl (n := 15) rfl chk_l1Some rs_l1Some (fun _ => by simp) ?_
  · rintro ⟨bs, p⟩ ⟨hb, h1, h2⟩
    change byt bs at hb
    simp only at h1 h2
    have hl : ∀ m : Int, (0 ≤ m ∧ m < 4) → vb (1 + m).toNat ≤ 15620 := fun m hm => vb_le (by omega)
    simp only [x_l1Some, rg, seval, argsB, PV.toDB, Q.toCB, allCB, callB, flatP, flatC, flatS, List.all_nil, List.all_cons, svL, svP, addR, agQ, agR, pid, nodupN, List.contains_nil, List.contains_cons, finG, gIds, idsR, oneI, agI, gOk, oneOk, ptOk, notIn, List.filter_nil, List.filter_cons, pw_mix, ↓runH, ↓one, ↓effC, effR, Updr.app, putO, updL, St.kil, kilQ, kilP, kilL, invC, opKil, excOf, invT, invB, plT, plA, rcOf, wrU, kilI, memK, PV.ids, disj, pairOk, okPast, setP, invU, outB, PV.pl, Q.pl, plL, plL_map, List.all_nil, List.all_cons, List.getD_cons_zero, Prod.fst, List.nil_append, id_eq, List.map_id, Nat.reduceMul, allCB_map, PV.rowB, BASE, ltB, List.isEmpty_nil, delL, St.delO, or_true, List.mem_singleton, spPick_md, spPick_pre, spPick_ne, ↓spPick_all, spPick_all, spLeaf_md, spLeaf_pre, spLeaf_ne, ↓spLeaf_all, spLeaf_all, spValF_md, spValF_pre, spValF_ne, ↓spValF_all, spValF_all, spOkT_md, spOkT_pre, spOkT_alts, spOkT_res, spOkT_out, foldT]
    repeat' (first | with_reducible assumption | with_reducible refine And.intro ?_ ?_ | intro _)
    all_goals first | omega | skip
    all_goals
      have hl' := hl _ (by assumption)
      clear hl
      first | omega | exact (‹drT _ _ ∧ _›).1.fit | skip
    · have := (‹drT _ _ ∧ _›).1.2.1
      omega
    · rename_i k n s ks l q hd
      exact ⟨(k, n, s, ks, l, q), ⟨hd.1.mono (by omega), by show p ≤ q; omega, by show q ≤ p + 16000; omega⟩, ⟨rfl, rfl, rfl, rfl, rfl⟩, rfl⟩
    · rename_i k n s ks l q hd _ _
      exact ⟨(k, n, s, ks, l, q), ⟨hd.1.mono (by omega), by show p ≤ q; omega, by show q ≤ p + 16000; omega⟩, ⟨rfl, rfl, rfl, rfl, rfl⟩, rfl⟩
end Go.Proofs.Pw
