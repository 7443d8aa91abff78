/- FnRowBy: the law, run. -/
import Derived.Test.YtaldfcjengfibaaPwT16
import Derived.Test.YtaldfcjengfibaaPwT9
import Derived.ProofKit
import Derived.ChangeOld
import Derived.Below
import Derived.Carry
import Derived.SizedLaws
import Derived.ChangeArms
import Derived.ChangeVars
import Derived.WalkSmall
import Derived.ChangeSlices
set_option linter.unusedSimpArgs false
set_option linter.unusedVariables false
set_option linter.unusedSimpArgs false
set_option maxRecDepth 20000
namespace Go.Proofs.Pw
set_option linter.unusedSectionVars false
variable [Globs]
def x_lawRY : X := (.seq (.reg [⟨some 2, none, .mv (.k (.c (.bool false)))⟩] none [0]) (.seq (.seq (.reg [⟨some 17, none, .mv (.t 0)⟩, ⟨some 18, none, .len (.t 17) false⟩, ⟨some 19, none, .bin false .gtr (.t 18) (.k (.c (.int .i64 1048576)))⟩] none [0, 19]) (.cond (.t 19) (.seq (.reg [⟨some 2, none, .mv (.k (.c (.bool true)))⟩] none [2]) .ret) .skip)) (.seq (.reg [⟨some 21, none, .mv (.t 0)⟩, ⟨some 22, none, .callr 18 [(.t 21)]⟩, ⟨some 20, none, .mv (.t 22)⟩, ⟨some 23, none, .ext (.t 20) 0⟩, ⟨some 24, none, .ext (.t 20) 1⟩, ⟨some 3, none, .alloc [(.c (.int .i64 0)), (.c (.int .i64 0)), (.c (.str ⟨#[]⟩)), (.z 1), (.z 5)]⟩, ⟨none, none, .st (.t 3) (.t 23) (some 5)⟩, ⟨some 4, none, .mv (.t 24)⟩] none [3, 4]) (.seq (.reg [⟨some 26, none, .load (.t 3) (some 5)⟩, ⟨some 27, none, .mv (.t 4)⟩, ⟨some 28, none, .call 19 [(.t 26), (.t 27)]⟩, ⟨some 25, none, .mv (.t 28)⟩, ⟨some 29, none, .ext (.t 25) 0⟩, ⟨some 30, none, .ext (.t 25) 1⟩, ⟨some 5, none, .alloc [(.c (.int .i64 0)), (.c (.int .i64 0)), (.c (.str ⟨#[]⟩)), (.z 1), (.z 5)]⟩, ⟨none, none, .st (.t 5) (.t 29) (some 5)⟩, ⟨some 6, none, .mv (.t 30)⟩] none [3, 4, 5, 6]) (.seq (.reg [⟨some 32, none, .load (.t 3) (some 5)⟩, ⟨some 33, none, .mv (.t 4)⟩, ⟨some 34, none, .call 20 [(.t 32), (.t 33)]⟩, ⟨some 31, none, .mv (.t 34)⟩, ⟨some 35, none, .ext (.t 31) 0⟩, ⟨some 36, none, .ext (.t 31) 1⟩, ⟨some 7, none, .alloc [(.c (.int .i64 0)), (.c (.int .i64 0)), (.c (.str ⟨#[]⟩)), (.z 1), (.z 5)]⟩, ⟨none, none, .st (.t 7) (.t 35) (some 5)⟩, ⟨some 8, none, .mv (.t 36)⟩] none [3, 4, 5, 6, 7, 8]) (.seq (.seq (.reg [⟨some 37, none, .mv (.t 6)⟩, ⟨some 38, none, .mv (.t 8)⟩, ⟨some 39, none, .bin true .neq (.t 37) (.t 38)⟩, ⟨some 40, none, .mv (.t 39)⟩, ⟨some 41, some (40, false), .load (.t 5) (some 5)⟩, ⟨some 42, some (40, false), .load (.t 7) (some 5)⟩, ⟨some 43, some (40, false), .call 11 [(.t 41), (.t 42)]⟩, ⟨some 44, some (40, false), .not (.t 43)⟩, ⟨some 45, none, .pick (.t 40) (.k (.c (.bool true))) (.t 44)⟩] none [3, 4, 5, 6, 45]) (.cond (.t 45) (.seq (.reg [⟨some 2, none, .mv (.k (.c (.bool false)))⟩] none [2]) .ret) .skip)) (.seq (.seq (.reg [⟨some 46, none, .mv (.t 6)⟩, ⟨some 47, none, .not (.t 46)⟩] none [3, 4, 5, 47]) (.cond (.t 47) (.seq (.reg [⟨some 48, none, .fa (.t 5) 0⟩, ⟨some 49, none, .load (.t 48) none⟩, ⟨some 50, none, .bin false .eql (.t 49) (.k (.c (.int .i64 0)))⟩, ⟨some 2, none, .mv (.t 50)⟩] none [2]) .ret) .skip)) (.seq (.reg [⟨some 9, none, .mv (.k (.c (.int .i64 0)))⟩] none [3, 4, 5, 9]) (.seq (.reg [⟨some 51, none, .build [(.c (.int .i64 0)), (.c (.int .i64 0)), (.c (.str ⟨#[]⟩)), (.z 1), (.z 5)] []⟩, ⟨some 10, none, .alloc [(.c (.int .i64 0)), (.c (.int .i64 0)), (.c (.str ⟨#[]⟩)), (.z 1), (.z 5)]⟩, ⟨none, none, .st (.t 10) (.t 51) (some 5)⟩] none [3, 4, 5, 9, 10]) (.seq (.seq (.reg [⟨some 11, none, .mv (.k (.c (.int .i64 0)))⟩] none [3, 4, 5, 9, 10, 11]) (.block 0 (.loop (.seq (.seq (.reg [⟨some 52, none, .mv (.t 11)⟩, ⟨some 53, none, .fa (.t 5) 4⟩, ⟨some 54, none, .load (.t 53) none⟩, ⟨some 55, none, .len (.t 54) false⟩, ⟨some 56, none, .bin false .lss (.t 52) (.t 55)⟩] none [3, 4, 5, 9, 10, 11, 56]) (.cond (.t 56) .skip (.exit 0))) (.seq (.block 1 (.seq (.reg [⟨some 59, none, .mv (.t 9)⟩, ⟨some 60, none, .fa (.t 5) 4⟩, ⟨some 61, none, .load (.t 60) none⟩, ⟨some 62, none, .mv (.t 11)⟩, ⟨some 63, none, .ia (.t 61) (.t 62) 5⟩, ⟨some 64, none, .fa (.t 63) 4⟩, ⟨some 65, none, .load (.t 64) none⟩, ⟨some 66, none, .len (.t 65) false⟩, ⟨some 67, none, .bin false .add (.t 59) (.t 66)⟩, ⟨some 9, none, .mv (.t 67)⟩] none [3, 4, 5, 9, 10, 11]) (.seq (.seq (.reg [⟨some 12, none, .mv (.k (.c (.int .i64 0)))⟩] none [3, 4, 5, 9, 10, 11, 12]) (.block 2 (.loop (.seq (.seq (.reg [⟨some 68, none, .mv (.t 12)⟩, ⟨some 69, none, .fa (.t 5) 4⟩, ⟨some 70, none, .load (.t 69) none⟩, ⟨some 71, none, .mv (.t 11)⟩, ⟨some 72, none, .ia (.t 70) (.t 71) 5⟩, ⟨some 73, none, .fa (.t 72) 4⟩, ⟨some 74, none, .load (.t 73) none⟩, ⟨some 75, none, .len (.t 74) false⟩, ⟨some 76, none, .bin false .lss (.t 68) (.t 75)⟩] none [3, 4, 5, 9, 10, 11, 12, 76]) (.cond (.t 76) .skip (.exit 2))) (.seq (.block 3 (.seq (.reg [⟨some 80, none, .fa (.t 5) 4⟩, ⟨some 81, none, .load (.t 80) none⟩, ⟨some 82, none, .mv (.t 11)⟩, ⟨some 83, none, .ia (.t 81) (.t 82) 5⟩, ⟨some 84, none, .fa (.t 83) 4⟩, ⟨some 85, none, .load (.t 84) none⟩, ⟨some 86, none, .mv (.t 12)⟩, ⟨some 87, none, .ia (.t 85) (.t 86) 5⟩, ⟨some 88, none, .load (.t 87) (some 5)⟩, ⟨some 89, none, .mv (.t 4)⟩, ⟨some 90, none, .call 21 [(.t 88), (.t 89)]⟩, ⟨some 79, none, .mv (.t 90)⟩, ⟨some 91, none, .ext (.t 79) 0⟩, ⟨some 92, none, .ext (.t 79) 1⟩, ⟨some 13, none, .alloc [(.c (.int .i64 0)), (.c (.int .i64 0)), (.c (.str ⟨#[]⟩)), (.z 1), (.z 5)]⟩, ⟨none, none, .st (.t 13) (.t 91) (some 5)⟩, ⟨some 14, none, .mv (.t 92)⟩] none [3, 4, 5, 9, 10, 11, 12, 13, 14]) (.seq (.seq (.reg [⟨some 93, none, .mv (.t 14)⟩, ⟨some 94, none, .not (.t 93)⟩, ⟨some 95, none, .mv (.t 94)⟩, ⟨some 96, some (95, false), .mv (.t 12)⟩, ⟨some 97, some (95, false), .bin false .gtr (.t 96) (.k (.c (.int .i64 0)))⟩, ⟨some 98, some (95, false), .mv (.t 97)⟩, ⟨some 99, some (98, true), .load (.t 13) (some 5)⟩, ⟨some 100, some (98, true), .load (.t 10) (some 5)⟩, ⟨some 101, some (98, true), .call 11 [(.t 99), (.t 100)]⟩, ⟨some 102, some (98, true), .not (.t 101)⟩, ⟨some 103, some (95, false), .pick (.t 98) (.t 102) (.k (.c (.bool false)))⟩, ⟨some 104, none, .pick (.t 95) (.k (.c (.bool true))) (.t 103)⟩, ⟨some 105, none, .mv (.t 104)⟩, ⟨some 106, some (105, false), .mv (.t 12)⟩, ⟨some 107, some (105, false), .bin false .eql (.t 106) (.k (.c (.int .i64 0)))⟩, ⟨some 108, some (105, false), .mv (.t 107)⟩, ⟨some 109, some (108, true), .mv (.t 11)⟩, ⟨some 110, some (108, true), .bin false .gtr (.t 109) (.k (.c (.int .i64 0)))⟩, ⟨some 111, some (105, false), .pick (.t 108) (.t 110) (.k (.c (.bool false)))⟩, ⟨some 112, some (105, false), .mv (.t 111)⟩, ⟨some 113, some (112, true), .load (.t 10) (some 5)⟩, ⟨some 114, some (112, true), .load (.t 13) (some 5)⟩, ⟨some 115, some (112, true), .call 22 [(.t 113), (.t 114)]⟩, ⟨some 116, some (112, true), .bin false .geq (.t 115) (.k (.c (.int .i64 0)))⟩, ⟨some 117, some (105, false), .pick (.t 112) (.t 116) (.k (.c (.bool false)))⟩, ⟨some 118, none, .pick (.t 105) (.k (.c (.bool true))) (.t 117)⟩] none [3, 4, 5, 9, 10, 11, 12, 13, 118]) (.cond (.t 118) (.seq (.reg [⟨some 2, none, .mv (.k (.c (.bool false)))⟩] none [2]) .ret) .skip)) (.reg [⟨some 119, none, .load (.t 13) (some 5)⟩, ⟨none, none, .st (.t 10) (.t 119) (some 5)⟩] none [3, 4, 5, 9, 10, 11, 12])))) (.reg [⟨some 77, none, .mv (.t 12)⟩, ⟨some 78, none, .bin false .add (.t 77) (.k (.c (.int .i64 1)))⟩, ⟨some 12, none, .mv (.t 78)⟩] none [3, 4, 5, 9, 10, 11, 12])))))) (.seq (.reg [⟨some 120, none, .fa (.t 5) 4⟩, ⟨some 121, none, .load (.t 120) none⟩, ⟨some 122, none, .mv (.t 11)⟩, ⟨some 123, none, .ia (.t 121) (.t 122) 5⟩, ⟨some 124, none, .fa (.t 123) 4⟩, ⟨some 125, none, .load (.t 124) none⟩, ⟨some 126, none, .len (.t 125) false⟩, ⟨some 127, none, .bin false .eql (.t 126) (.k (.c (.int .i64 0)))⟩] none [3, 4, 5, 9, 10, 11, 127]) (.cond (.t 127) (.seq (.reg [⟨some 2, none, .mv (.k (.c (.bool false)))⟩] none [2]) .ret) .skip))))) (.reg [⟨some 57, none, .mv (.t 11)⟩, ⟨some 58, none, .bin false .add (.t 57) (.k (.c (.int .i64 1)))⟩, ⟨some 11, none, .mv (.t 58)⟩] none [3, 4, 5, 9, 10, 11])))))) (.seq (.reg [⟨some 129, none, .load (.t 5) (some 5)⟩, ⟨some 130, none, .call 9 [(.t 129)]⟩, ⟨some 128, none, .mv (.t 130)⟩, ⟨some 131, none, .ext (.t 128) 0⟩, ⟨some 132, none, .ext (.t 128) 1⟩, ⟨some 15, none, .alloc [(.c (.int .i64 0)), (.c (.int .i64 0)), (.c (.str ⟨#[]⟩)), (.z 1), (.z 5)]⟩, ⟨none, none, .st (.t 15) (.t 131) (some 5)⟩, ⟨some 16, none, .mv (.t 132)⟩] none [3, 9, 15, 16]) (.seq (.reg [⟨some 133, none, .mv (.t 9)⟩, ⟨some 134, none, .fa (.t 3) 4⟩, ⟨some 135, none, .load (.t 134) none⟩, ⟨some 136, none, .len (.t 135) false⟩, ⟨some 137, none, .bin false .eql (.t 133) (.t 136)⟩, ⟨some 138, none, .mv (.t 137)⟩, ⟨some 139, some (138, true), .mv (.t 16)⟩, ⟨some 140, some (138, true), .not (.t 139)⟩, ⟨some 141, some (138, true), .mv (.t 140)⟩, ⟨some 142, some (141, false), .fa (.t 15) 4⟩, ⟨some 143, some (141, false), .load (.t 142) none⟩, ⟨some 144, some (141, false), .len (.t 143) false⟩, ⟨some 145, some (141, false), .mv (.t 9)⟩, ⟨some 146, some (141, false), .bin false .eql (.t 144) (.t 145)⟩, ⟨some 147, some (138, true), .pick (.t 141) (.k (.c (.bool true))) (.t 146)⟩, ⟨some 148, none, .pick (.t 138) (.t 147) (.k (.c (.bool false)))⟩, ⟨some 2, none, .mv (.t 148)⟩] none [2]) .ret))))))))))))
theorem chk_lawRY : chkX Go.Proofs.Try.prog 149 (Go.Proofs.Try.f5.body.getD .skip) x_lawRY = true := by kernel_rfl
theorem rs_lawRY : okRs Go.Proofs.Try.prog Go.Proofs.Try.f5.results.toList [.tmp 2] = true := by kernel_rfl
/-- The sum of the lengths of the first groups. -/
def lenS (l : List T) : Nat := (l.map fun g => g.list.length).sum
theorem lenS_take {l : List T} {i : Nat} {x : T} (h : l[i]? = some x) : lenS (l.take (i + 1)) = lenS (l.take i) + x.list.length := by
  unfold lenS; rw [take_snoc h]; simp
theorem lenS_le (l : List T) (i : Nat) : lenS (l.take i) ≤ lenS l := by
  have : lenS l = lenS (l.take i) + lenS (l.drop i) := by
    unfold lenS; rw [← List.sum_append, ← List.map_append, List.take_append_drop]
  omega
theorem byL_at {key : ByteArray} {l : List T} {i : Nat} {g : T} (h : (byL key l)[i]? = some g) : ∃ y, (onceL (marks key l))[i]? = some y ∧ g = .mk 5 0 ⟨#[]⟩ [] (pickL key l y) := by
  unfold byL at h
  rw [List.getElem?_map, Option.map_eq_some_iff] at h
  obtain ⟨y, h1, h2⟩ := h
  exact ⟨y, h1, h2.symm⟩
noncomputable def spLawRY  : Spec := Spec.of (ι := (List Int)) [false] (fun i => [.d (.one (.row 1 (ints .u8 i)))]) (fun i => bytes i) (fun _ => [.d (.one (.bool true))]) (fun _ => [.gone])
theorem spLawRY_inj : ∀ i j : (List Int), (fun (i : (List Int)) => ([.d (.one (.row 1 (ints .u8 i)))] : List AV)) i = (fun (i : (List Int)) => ([.d (.one (.row 1 (ints .u8 i)))] : List AV)) j → i = j := by
  intro a a' h
  simpa [strs_eq, T.enc_eq, encL_eq, F.enc_eq, encF_eq, Tk.enc_eq, encTk_eq, Gn.enc_eq, ints_eq] using h
theorem spLawRY_pre  (a : List Int) : (spLawRY).pre [.d (.one (.row 1 (ints .u8 a)))] = (bytes a) := Spec.of_pre' spLawRY_inj a
theorem spLawRY_res  (a : List Int) : (spLawRY).res [.d (.one (.row 1 (ints .u8 a)))] = [.d (.one (.bool true))] := Spec.of_res spLawRY_inj a
set_option maxHeartbeats 4000000 in
theorem lawRY_sound : Sound Go.Proofs.Try.prog 5 spLawRY := by
  refine sound_fam (GOK.cons (l := [(19, spByI), (20, spBy), (21, spPartGet), (9, spFlat), (11, spSameIV), (22, spOrdIV)]) call_DrawRowBy DrawRowBy_sound (GOK.cons call_RowByI RowByI_sound (GOK.cons call_RowBy RowBy_sound (GOK.cons call_PartGet PartGet_sound (GOK.cons call_RowFlat RowFlat_sound (GOK.cons call_ValSameI sameIV_sound (GOK.cons call_ValOrderI ordIV_sound GOK.nil))))))) Go.Proofs.Try.func5 (c := Go.Proofs.Try.f5.body.getD .skip) rfl (n := 149) rfl chk_lawRY rs_lawRY (fun _ => by simp) ?_ ?_
  · exact spLawRY_inj
  · rintro a h1
    simp only [bytes, lenB] at h1
    simp only [x_lawRY, rg, go_sem, seval, Prod.fst, ints_len, T.enc_len, spDRowBy_md, spDRowBy_pre, ↓spDRowBy_all, spDRowBy_all]
    repeat' (first | with_reducible assumption | with_reducible refine And.intro ?_ ?_ | intro _)
    all_goals first | omega | skip
    · exact (h1.1 _ (by assumption)).1
    · exact (h1.1 _ (by assumption)).2
    · unfold lenB; omega
    rename_i k n s ks l key hv
    obtain ⟨hv, hk⟩ := hv
    generalize hve : (T.mk k n s ks l) = v at *
    clear hve
    have f1 := T.enc_len v
    have f2 := T.enc_len (byT v key)
    have f3 := T.enc_len T.zero
    have v1 : v.fit 1000000 := T.fit_mono (by decide) hv.1
    have v2 : v.fit 140737488355328 := hv.fit
    have v3 := hv.2.1
    have v4 : v.list.length < 20 := by obtain ⟨k, n, s, ks, l⟩ := v; have := hv.2.2.1; simp only [T.list]; omega
    have k1 : lenB 1000000 key.size := by unfold lenB; omega
    by_cases c : byOk v key ∧ okT (.mk 5 0 ⟨#[]⟩ [] (byL key v.list))
    · obtain ⟨c, o2⟩ := c
      obtain ⟨l, rfl⟩ : ∃ l, v = .mk 5 0 ⟨#[]⟩ [] l := ⟨_, rowT_is c.1⟩
      change okT (.mk 5 0 ⟨#[]⟩ [] (byL key l)) at o2
      have o1 := c.1.1
      have e1 : byT (.mk 5 0 ⟨#[]⟩ [] l) key = .mk 5 0 ⟨#[]⟩ [] (byL key l) := (byT_row c).trans (toldT_ok o2)
      have c' : byOk (.mk 5 0 ⟨#[]⟩ [] l) key = True := eq_true c
      have o2' : okT (.mk 5 0 ⟨#[]⟩ [] (byL key l)) = True := eq_true o2
      simp only [T.list] at v4
      have l1 : (l.length : Int) ≤ 1000000 := (T.fit_list v1).1
      have l3 := byL_len key l
      have g1 : fitL 1000000 (byL key l) := byL_fit (by omega) (T.fit_list v1).1 (T.fit_list v1).2
      have g2 : (T.mk 5 0 ⟨#[]⟩ [] (byL key l)).fit 1000000 := rowT_fit (by omega) (by unfold lenB; omega) g1
      have g3 : (T.mk 5 0 ⟨#[]⟩ [] (byL key l)).fit 140737488355328 := T.fit_mono (by decide) g2
      have f4 := T.enc_len (.mk 5 0 ⟨#[]⟩ [] (byL key l))
      simp only [rg, go_sem, seval, Prod.fst, f1, f2, f4, e1, c', o2', T.enc, foldT, foldT0, T.list, encL_len, spByI_md, spByI_pre, spByI_alts, spByI_res, spByI_out, spBy_md, spBy_pre, spBy_alts, spBy_res, spBy_out, spSameIV_md, spSameIV_pre, spSameIV_alts, spSameIV_res, spSameIV_out]
      repeat' (first | with_reducible assumption | with_reducible refine And.intro ?_ ?_ | intro _)
      all_goals first | (show _ ≤ (_ : Int); omega) | assumption | omega | skip
      have G5 : ∀ x ∈ byL key l, x.kind = 5 := fun x hx => by
        obtain ⟨i, hi⟩ := List.getElem?_of_mem hx
        obtain ⟨y, _, rfl⟩ := byL_at hi; rfl
      have cnt : lenS (byL key l) = l.length := byL_count key l
      have fl : (flatL (byL key l)).length = l.length := (flatL_len G5).trans cnt
      have ml : fitL 140737488355328 (onceL (marks key l)) := onceL_fit (marks_fit (by omega) (fun x hx => okT_elem o1 hx) (T.fit_list v2).2)
      have at_ := fun (i : Nat) (g : T) (h : (byL key l)[i]? = some g) => byL_at h
      generalize hG : byL key l = G at *
      refine pw_loop (ι := Nat × T) (fun i => G.length - i.1) (fun i => i.1 ≤ G.length ∧ i.2.fit 140737488355328 ∧ (i.1 = 0 ∨ (onceL (marks key l))[i.1 - 1]? = some i.2))
        (fun i => ⟨[(3, .q (.box 3 0)), (4, .q (.c (.str key))), (5, .q (.box 5 0)), (9, .q (.c (.int .i64 (lenS (G.take i.1))))), (10, .q (.box 10 0)), (11, .q (.c (.int .i64 i.1)))],
          [(3, [.c (.int .i64 5), .c (.int .i64 0), .c (.str ⟨#[]⟩), .c (.row 1 (strs [])), .c (.row 5 (encL l))]), (5, [.c (.int .i64 5), .c (.int .i64 0), .c (.str ⟨#[]⟩), .c (.row 1 (strs [])), .c (.row 5 (encL G))]), (10, i.2.enc.map .c)], []⟩) (0, T.zero) ⟨Nat.zero_le _, T.zero_fit, .inl rfl⟩ ?_ ?_
      · refine Le.bx ?_
        intro p hp
        simp only [List.mem_cons, List.not_mem_nil, or_false] at hp
        rcases hp with rfl | rfl | rfl
        · exact ⟨_, by simp, All2.qrefl _⟩
        · exact ⟨_, by simp, All2.qrefl _⟩
        · refine ⟨_, List.mem_cons_of_mem _ (List.mem_cons_of_mem _ (List.mem_cons_of_mem _ (List.mem_singleton.2 rfl))), ?_⟩
          exact .cons (.refl _) (.cons (.refl _) (.cons (.refl _) (.cons (.z _) (.cons (.z _) .nil))))
      · rintro ⟨i, la⟩ ⟨hi, hf, hla⟩
        simp only at hi hf hla
        have fla := T.enc_len la
        rcases Nat.lt_or_ge i G.length with hlt | hge
        · obtain ⟨g, hg, _, hgm⟩ := drop_at hlt
          obtain ⟨y, hy, rfl⟩ := at_ i g hg
          have b1 : ((i : Int) < (G.length : Int)) = True := eq_true (by omega)
          have a1 : (encL G).getD i [] = [.int .i64 5, .int .i64 0, .str ⟨#[]⟩, .row 1 (strs []), .row 5 (encL (pickL key l y))] := encL_at hg
          have ls := lenS_take hg
          have ls2 := lenS_le G (i + 1)
          have ls3 := lenS_le G i
          simp only [T.list] at ls
          have yf := fitL_in ml y (List.mem_of_getElem? hy)
          have pn : pickL key l y ≠ [] := pickL_ne ((onceL_mem _ _).1 (List.mem_of_getElem? hy))
          have pm := fun x (hx : x ∈ pickL key l y) => pickL_mem.1 hx
          have hord : 0 < i → cmpT la y < 0 := fun h => by
            rcases hla with e | e
            · omega
            · exact onceL_lt (marks key l) e (by rw [show i - 1 + 1 = i by omega]; exact hy)
          generalize pickL key l y = P at *
          have fy := T.enc_len y
          have pl : 0 < P.length := List.length_pos_iff.2 pn
          have b0 : ((P.length : Int) = 0) = False := eq_false (by omega)
          simp only [rg, go_sem, seval, Prod.fst, b1, a1, encL_len]
          repeat' (first | with_reducible assumption | with_reducible refine And.intro ?_ ?_ | intro _)
          all_goals first | (show _ ≤ (_ : Int); omega) | (show _ < (_ : Int); omega) | (show _ < (_ : Nat); omega) | skip
          refine pw_loop (ι := Nat × T) (fun m => P.length - m.1) (fun m => m.1 ≤ P.length ∧ m.2.fit 140737488355328 ∧ (m.1 = 0 ∧ m.2 = la ∨ 0 < m.1 ∧ m.2 = y))
            (fun m => ⟨[(3, .q (.box 3 0)), (4, .q (.c (.str key))), (5, .q (.box 5 0)), (9, .q (.c (.int .i64 (lenS (G.take i) + P.length)))), (10, .q (.box 10 0)), (11, .q (.c (.int .i64 i))), (12, .q (.c (.int .i64 m.1)))],
              [(3, [.c (.int .i64 5), .c (.int .i64 0), .c (.str ⟨#[]⟩), .c (.row 1 (strs [])), .c (.row 5 (encL l))]), (5, [.c (.int .i64 5), .c (.int .i64 0), .c (.str ⟨#[]⟩), .c (.row 1 (strs [])), .c (.row 5 (encL G))]), (10, m.2.enc.map .c)], []⟩) (0, la) ⟨Nat.zero_le _, hf, .inl ⟨rfl, rfl⟩⟩ (Le.refl _) ?_
          rintro ⟨m, lb⟩ ⟨hm, hf', hlb⟩
          simp only at hm hf' hlb
          have flb := T.enc_len lb
          rcases Nat.lt_or_ge m P.length with hml | hmg
          · obtain ⟨x, hx, _, hxm⟩ := drop_at hml
            have b2 : ((m : Int) < (P.length : Int)) = True := eq_true (by omega)
            have a2 := encL_at hx
            have fx := T.enc_len x
            obtain ⟨hxl, hxy⟩ := pm x hxm
            have x1 : x.fit 1000000 := fitL_in (T.fit_list v1).2 x hxl
            have x2 : okT x := okT_elem o1 hxl
            have x3 : getOk x = True := eq_true (c.2.2 x hxl)
            have x4 : okS key := c.2.1
            rcases hlb with ⟨h0, rfl⟩ | ⟨h0, rfl⟩
            · have b3 : ((m : Int) > 0) = False := eq_false (by omega)
              have b4 : ((m : Int) = 0) = True := eq_true (by omega)
              by_cases hi0 : 0 < i
              · have b5 : ((i : Int) > 0) = True := eq_true (by omega)
                have b6 : (cmpT lb y ≥ 0) = False := eq_false (by have := hord hi0; omega)
                simp only [rg, go_sem, seval, Prod.fst, b1, b2, b3, b4, b5, b6, a1, a2, fx, fy, flb, hxy, x3, T.enc_dropQ, encL_len, spPartGet_md, spPartGet_pre, spPartGet_alts, spPartGet_res, spPartGet_out, spSameIV_md, spSameIV_pre, spSameIV_alts, spSameIV_res, spSameIV_out, spOrdIV_md, spOrdIV_pre, spOrdIV_alts, spOrdIV_res, spOrdIV_out]
                repeat' (first | with_reducible assumption | with_reducible refine And.intro ?_ ?_ | intro _)
                all_goals first | (show _ ≤ (_ : Int); omega) | (show _ < (_ : Int); omega) | (show _ < (_ : Nat); omega) | assumption | skip
                exact ⟨(m + 1, y), ⟨by show m + 1 ≤ _; omega, yf, .inr ⟨by show 0 < m + 1; omega, rfl⟩⟩, by show P.length - (m + 1) < _; omega, Le.sub (by simp) (by simp) (by simp)⟩
              · have b5 : ((i : Int) > 0) = False := eq_false (by omega)
                simp only [rg, go_sem, seval, Prod.fst, b1, b2, b3, b4, b5, a1, a2, fx, fy, flb, hxy, x3, T.enc_dropQ, encL_len, spPartGet_md, spPartGet_pre, spPartGet_alts, spPartGet_res, spPartGet_out, spSameIV_md, spSameIV_pre, spSameIV_alts, spSameIV_res, spSameIV_out, spOrdIV_md, spOrdIV_pre, spOrdIV_alts, spOrdIV_res, spOrdIV_out]
                repeat' (first | with_reducible assumption | with_reducible refine And.intro ?_ ?_ | intro _)
                all_goals first | (show _ ≤ (_ : Int); omega) | (show _ < (_ : Int); omega) | (show _ < (_ : Nat); omega) | assumption | skip
                exact ⟨(m + 1, y), ⟨by show m + 1 ≤ _; omega, yf, .inr ⟨by show 0 < m + 1; omega, rfl⟩⟩, by show P.length - (m + 1) < _; omega, Le.sub (by simp) (by simp) (by simp)⟩
            · have b3 : ((m : Int) > 0) = True := eq_true (by omega)
              have b4 : ((m : Int) = 0) = False := eq_false (by omega)
              simp only [rg, go_sem, seval, Prod.fst, b1, b2, b3, b4, a1, a2, fx, fy, flb, hxy, x3, T.enc_dropQ, encL_len, spPartGet_md, spPartGet_pre, spPartGet_alts, spPartGet_res, spPartGet_out, spSameIV_md, spSameIV_pre, spSameIV_alts, spSameIV_res, spSameIV_out, spOrdIV_md, spOrdIV_pre, spOrdIV_alts, spOrdIV_res, spOrdIV_out]
              repeat' (first | with_reducible assumption | with_reducible refine And.intro ?_ ?_ | intro _)
              all_goals first | (show _ ≤ (_ : Int); omega) | (show _ < (_ : Int); omega) | (show _ < (_ : Nat); omega) | assumption | skip
              exact ⟨(m + 1, lb), ⟨by show m + 1 ≤ _; omega, yf, .inr ⟨by show 0 < m + 1; omega, rfl⟩⟩, by show P.length - (m + 1) < _; omega, Le.sub (by simp) (by simp) (by simp)⟩
          · obtain rfl : m = P.length := by omega
            have b2 : ((P.length : Int) < (P.length : Int)) = False := eq_false (by omega)
            have hlb' : lb = y := by
              rcases hlb with h | h
              · omega
              · exact h.2
            subst hlb'
            simp only [rg, go_sem, seval, Prod.fst, b0, b1, b2, a1, encL_len]
            repeat' (first | with_reducible assumption | with_reducible refine And.intro ?_ ?_ | intro _)
            all_goals first | (show _ ≤ (_ : Int); omega) | (show _ < (_ : Int); omega) | (show _ < (_ : Nat); omega) | assumption | skip
            refine ⟨(i + 1, lb), ⟨by show i + 1 ≤ _; omega, yf, .inr (by simpa using hy)⟩, by show G.length - (i + 1) < _; omega, ?_⟩
            rw [ls]
            refine Le.sub ?_ ?_ ?_ <;> simp
        · obtain rfl : i = G.length := by omega
          have b1 : ((G.length : Int) < (G.length : Int)) = False := eq_false (by omega)
          have e5 : lenS (G.take G.length) = l.length := by rw [List.take_length, cnt]
          have r1 : lenB 1000000 (flatL G).length := by unfold lenB; omega
          have f5 := T.enc_len (flatT (.mk 5 0 ⟨#[]⟩ [] G))
          have r2 := flatT_row o2
          have r3 : rowT (T.mk 5 0 ⟨#[]⟩ [] G) = True := eq_true (rowT_row.2 o2)
          by_cases d : okT (.mk 5 0 ⟨#[]⟩ [] (flatL G))
          · rw [toldT_ok d] at r2
            have d' : okT (.mk 5 0 ⟨#[]⟩ [] (flatL G)) = True := eq_true d
            have f6 := T.enc_len (.mk 5 0 ⟨#[]⟩ [] (flatL G))
            simp only [rg, go_sem, seval, Prod.fst, b1, e5, f4, f6, r2, r3, d', fl, T.enc, foldT, foldT0, T.list, encL_len, spFlat_md, spFlat_pre, spFlat_alts, spFlat_res, spFlat_out, spFlat_md, spFlat_pre, spFlat_ne, ↓spFlat_all, spFlat_all]
            repeat' (first | with_reducible assumption | with_reducible refine And.intro ?_ ?_ | intro _)
            all_goals first | (show _ ≤ (_ : Int); omega) | (show _ < (_ : Int); omega) | assumption | rfl | skip
          · have d' : okT (.mk 5 0 ⟨#[]⟩ [] (flatL G)) = False := eq_false d
            have r4 : flatT (.mk 5 0 ⟨#[]⟩ [] G) = T.zero := r2.trans (if_neg (fun h => d h.2))
            have z4 : (T.zero.enc.map Q.c).getD 4 .no = .c (.row 5 []) := rfl
            simp only [rg, go_sem, seval, Prod.fst, b1, e5, f4, f3, r4, z4, r3, d', fl, T.enc, foldT, foldT0, T.list, encL_len, spFlat_md, spFlat_pre, spFlat_alts, spFlat_res, spFlat_out, spFlat_md, spFlat_pre, spFlat_ne, ↓spFlat_all, spFlat_all]
            repeat' (first | with_reducible assumption | with_reducible refine And.intro ?_ ?_ | intro _)
            all_goals first | (show _ ≤ (_ : Int); omega) | (show _ < (_ : Int); omega) | assumption | rfl | skip
    · have e2 : byT v key = T.zero := by
        by_cases d : byOk v key
        · unfold byT; rw [if_pos d]; unfold toldT; rw [if_neg (fun h => c ⟨d, h.2⟩)]
        · unfold byT; rw [if_neg d]
      have e3 : (byOk v key ∧ okT (.mk 5 0 ⟨#[]⟩ [] (byL key v.list))) = False := eq_false c
      have z0 : (T.zero.enc.map Q.c).getD 0 .no = .c (.int .i64 0) := rfl
      simp only [rg, go_sem, seval, Prod.fst, f1, f3, e2, e3, z0, spByI_md, spByI_pre, spByI_alts, spByI_res, spByI_out, spBy_md, spBy_pre, spBy_alts, spBy_res, spBy_out, spSameIV_md, spSameIV_pre, spSameIV_alts, spSameIV_res, spSameIV_out]
      repeat' (first | with_reducible assumption | with_reducible refine And.intro ?_ ?_ | intro _)
      all_goals first | omega | assumption | exact T.zero_fit | skip
end Go.Proofs.Pw
/- From what a law's arguments are told to be, to what is shown of its run. -/
namespace Go.Proofs.Pw
open Go.RowKit
set_option linter.unusedSectionVars false
/-- All blocks that are there. -/
def Old (w : World) (g : Nat) : Prop := g < w.heap.size
theorem cell_lt {w : World} {a : Addr} {v : Value} (h : w.cell? a = some v) : a.block < w.heap.size := by
  unfold World.cell? at h
  rcases Nat.lt_or_ge a.block w.heap.size with hlt | hge
  · exact hlt
  · rw [Array.getElem?_eq_none hge] at h; simp at h
theorem rep_ints {k : IntKind} {w : World} {a : Option Addr} {len cap : Nat} {zs : List Int}
    (h : (a = none ∧ len = 0 ∧ cap = 0 ∧ zs = []) ∨ ∃ x, a = some x ∧ len ≤ cap ∧ cap ≤ maxLen ∧ zs.length = cap ∧ (∀ i, i < zs.length → w.cell? (x.add i) = some (.int k (zs.getD i 0))) ∧ ∀ n ∈ zs, (Lit.int k n).wf = true) :
    Rep w (Old w) (.row 1 (ints k (zs.take len))) (.slice a len cap) ∧ (zs.take len).length = len ∧ ∀ n ∈ zs.take len, (Lit.int k n).wf = true := by
  rcases h with ⟨rfl, rfl, rfl, rfl⟩ | ⟨x, rfl, hl, hm, hz, hc, hw⟩
  · exact ⟨.nil .., rfl, by simp⟩
  · have hlen : (zs.take len).length = len := by simp; omega
    refine ⟨?_, hlen, fun n hn => hw n (List.mem_of_mem_take hn)⟩
    rcases Nat.eq_zero_or_pos len with h0 | h0
    · subst h0; exact .nil ..
    · have key : ∀ (i j : Nat) e c, (ints k (zs.take len))[i]? = some e → e[j]? = some c → j = 0 ∧ i < zs.length ∧ c = .int k (zs.getD i 0) := fun i j e c he hj => by
        simp only [ints, List.getElem?_map, Option.map_eq_some_iff] at he
        obtain ⟨n, hn, rfl⟩ := he
        rw [List.getElem?_take] at hn
        split at hn
        · cases j with
          | zero => simp at hj; subst hj; exact ⟨rfl, (List.getElem?_eq_some_iff.1 hn).1, by simp [hn]⟩
          | succ j => simp at hj
        · cases hn
      have hel : (ints k (zs.take len)).length = len := by rw [ints_len, hlen]
      have := Rep.row (w := w) (S := Old w) 1 (ints k (zs.take len)) x cap (fun i => .int k (zs.getD i 0)) (by omega) (by
        have := cell_lt (hc 0 (by omega)); rwa [add_block] at this) (fun i e he => by
          simp only [ints, List.getElem?_map, Option.map_eq_some_iff] at he
          obtain ⟨n, _, rfl⟩ := he; rfl) (fun i j e c he hj => by
          obtain ⟨rfl, h1, _⟩ := key i j e c he hj
          simpa using hc i h1) (fun i j e c he hj => by
          obtain ⟨rfl, h1, rfl⟩ := key i j e c he hj
          simpa using Rep.int k (zs.getD i 0))
      rwa [hel] at this
/-- A law that holds of what it is handed, run in whatever world. -/
theorem law_calls [Globs] {P : Program} {f : FuncId} {sp : Spec} (h : Sound P f sp) {args : List AV} (hp : sp.pre args) (ha : sp.alts = none) (hr : sp.res args = [.d (.one (.bool true))]) {W : World} {vs : List Value} (hG : Gl W (Old W))
    (hA : All3 (RepA W (Old W)) args vs (args.map fun _ => fun _ => False)) : Calls P f vs.toArray W fun e w' => e = .returned (.bool true) ∧ Below W.heap.size W w' := by
  refine (h args hp W (Old W) vs _ hG (fun _ h => h) (fun g hg => absurd hg Any_false) Apart_false hA).mono ?_
  rintro e w' ⟨r, o, hro, v, S', rfs, fps', rfl, g1, _, _, _, _, _, g8⟩
  obtain ⟨rfl, rfl⟩ := (Spec.may_none ha).1 hro
  rw [hr] at g1
  refine ⟨?_, ⟨g8.os, g8.tape, g8.output, g8.size, fun k hk => g8.block k hk Any_false⟩⟩
  cases rfs with
  | nil => exact absurd rfl g1.1
  | cons fp r => cases r with
    | nil =>
      obtain ⟨g1, _⟩ := g1
      cases g1; rfl
    | cons _ _ => exact absurd rfl g1.1
end Go.Proofs.Pw
/- Arguments with depth: what they read as, and that they read so still. -/
namespace Go.Proofs.Pw
open Go.RowKit Go.ChangeShapes Go.WideShapes
set_option linter.unusedSectionVars false
section
variable {H : Type} {enc : TypeId × Value → H} {P : Program} {W W' : World} {spare : Nat → Bool} {held : Bool}
theorem trodAll_below (hl : laidOutB P = true) (hb : Below W.heap.size W W') : ∀ {ts : List TypeId} {vs : List Value} {ds : List (DataW H)} {p : List MemPlace}, DataW.TrodAll enc P W 0 (fun _ => true) true ts vs ds p →
    (ts.all fun t => P.readableRec t && decide (t < P.types.size)) = true → (∀ x ∈ p, x.block < W.heap.size) → DataW.TrodAll enc P W' 0 (fun b => decide (b < W.heap.size)) true ts vs ds p := by
  intro ts
  induction ts with
  | nil =>
    intro vs ds p h _ _
    cases vs <;> cases ds <;> first | exact h | exact h.elim
  | cons t ts ih =>
    intro vs ds p h hr hp
    obtain ⟨v, vs', d, ds', p1, q, rfl, rfl, rfl, h1, h2⟩ := trodAll_cons h
    simp only [List.all_cons, Bool.and_eq_true, decide_eq_true_eq] at hr
    exact ⟨p1, q, Below.trod hl hr.1.1 hr.1.2 h1 hb (fun x hx => hp x (by simp [hx])), ih h2 hr.2 (fun x hx => hp x (by simp [hx])), rfl⟩
theorem trodVars_below (hl : laidOutB P = true) (hb : Below W.heap.size W W') : ∀ {ns : List String} {gs : List (DataW H)} {p : List MemPlace}, DataW.TrodVars enc P W (fun _ => true) ns gs p →
    (ns.all fun n => match P.globalNamed n with | some g => (match P.globals[g]? with | some x => P.readableRec x.type && decide (x.type < P.types.size) | none => false) | none => false) = true → (∀ x ∈ p, x.block < W.heap.size) →
    DataW.TrodVars enc P W' (fun b => decide (b < W.heap.size)) ns gs p := by
  intro ns
  induction ns with
  | nil =>
    intro gs p h _ _
    cases gs <;> first | exact h | exact h.elim
  | cons n ns ih =>
    intro gs p h hr hp
    cases gs with
    | nil => exact h.elim
    | cons d gs =>
      obtain ⟨g, t, cs, fuel, p1, q, hg, ht, hv, hd, h2, rfl⟩ := h
      simp only [List.all_cons, Bool.and_eq_true, hg] at hr
      obtain ⟨hr2, hr3⟩ := hr
      have hr1 : g < W.heap.size := by
        unfold World.var? at hv
        simp only [hg, Option.bind_some] at hv
        split at hv
        · rename_i h1; exact (Array.getElem?_eq_some_iff.1 h1).1
        · cases hv
      simp only [Option.map_eq_some_iff] at ht
      obtain ⟨x, hx, rfl⟩ := ht
      simp only [hx, Bool.and_eq_true, decide_eq_true_eq] at hr2
      have hk : DataW.Trod enc P W 0 (fun _ => true) true x.type (.agg cs) d p1 := ⟨fuel, hd⟩
      obtain ⟨fuel', hd'⟩ := Below.trod hl hr2.1 hr2.2 hk hb (fun y hy => hp y (by simp [hy]))
      exact ⟨g, x.type, cs, fuel', p1, q, hg, by rw [hx]; rfl, var?_below hb hg hr1 hv, hd', ih h2 hr3 (fun y hy => hp y (by simp [hy])), rfl⟩
/-- What is left behind a law that gives true, and has turned nothing that was there. -/
theorem law_post {f : Func} {s : ChangeSpec} {args : Array Value} {ds gs : List (DataW H)} {before : List MemPlace} {rt : TypeId} (hl : laidOutB P = true)
    (hW : DataW.Whole enc P f.params.toList s.vars false W args.toList ds gs before) (hrt : f.resultTypes.toList = [rt]) (hrb : P.underlying rt = some .bool) (hsz : f.resultTypes.size = 1)
    (hfn : s.fn H (ds ++ gs) = { results := [.lit (.bool true)], args := ds, vars := gs })
    (hp : (f.params.toList.all fun t => P.readableRec t && decide (t < P.types.size)) = true)
    (hv : (s.vars.all fun n => match P.globalNamed n with | some g => (match P.globals[g]? with | some x => P.readableRec x.type && decide (x.type < P.types.size) | none => false) | none => false) = true)
    (hb : Below W.heap.size W W') : s.post enc P f false true false false W args (.bool true) W' := by
  have hlt := hW.lt
  have hW' := hW
  obtain ⟨p, q, hA, hV, rfl, hfz, hnd⟩ := hW
  refine ⟨ds, gs, _, [], p, q, hW', ?_, ?_, ?_, hb.frame _, fun h => by cases h⟩
  · rw [hfn, hrt, hsz]
    exact trodAll_mk1 (shut_bool hrb _)
  · rw [hfn]; exact trodAll_below hl hb hA hp (fun x hx => hlt x (by simp [hx]))
  · rw [hfn]; exact trodVars_below hl hb hV hv (fun x hx => hlt x (by simp [hx]))
end
end Go.Proofs.Pw
/- A row of octets handed over. -/
namespace Go.Proofs.Pw
open Go.RowKit Go.ChangeShapes Go.WideShapes
set_option linter.unusedSectionVars false
section
variable {H : Type} {enc : TypeId × Value → H} {P : Program} {W : World}
theorem wf_u8 {n : Int} (h : (Lit.int .u8 n).wf = true) : 0 ≤ n ∧ n ≤ 255 := by
  simp only [Lit.wf, Bool.and_eq_true, decide_eq_true_eq] at h
  simp only [IntKind.min, IntKind.max, IntKind.signed, IntKind.bits] at h
  simp at h; omega
theorem read_bytes {held : Bool} {r : Reach} {base : Nat} {ts : List TypeId} {ds : List (DataW H)} {j : Nat} {t e : TypeId} {v : Value} {d : DataW H} {p : List MemPlace} (hu : P.underlying t = some (.slice e)) (he : P.underlying e = some (.int .u8)) (hc : P.cellsOf e = 1) (hby : 0 < P.bytesOf e)
    (hval : Value.okWide P W r base t v) (h : DataW.Trod enc P W 0 (fun _ => true) held t v d p) (hz : (DataW.weightsEach P ts ds).all (· ≤ reachBytes) = true) (ht : ts[j]? = some t) (hd : ds[j]? = some d) :
    ∃ l : List Int, RepA W (Old W) (.d (.one (.row 1 (ints .u8 l)))) v (fun _ => False) ∧ bytes l := by
  obtain ⟨a, len, cap, rfl⟩ := okWide_slice hu hval
  obtain ⟨fuel, h⟩ := h
  rcases open_ints hu he hc h with ⟨h1, h2⟩ | ⟨x, l, c, zs, hcs, _, hl, hm, hz', hx, hcell, hwz⟩
  · simp only [Value.cells, List.cons.injEq, and_true] at h1
    cases h1
    refine ⟨[], ⟨.nil .., fun _ h => h⟩, by simp, by unfold lenB; simp⟩
  · simp only [Value.cells, List.cons.injEq, and_true] at hcs
    cases hcs
    simp only [Prod.mk.injEq] at hx
    obtain ⟨rfl, rfl⟩ := hx
    obtain ⟨k1, k2, k3⟩ := rep_ints (k := .u8) (w := W) (a := some x) (len := len) (cap := cap) (zs := zs) (.inr ⟨x, rfl, hl, hm, by simpa using hz', hcell, hwz⟩)
    refine ⟨zs.take len, ⟨k1, fun _ h => h⟩, fun b hb => wf_u8 (k3 b hb), ?_⟩
    have k4 := sized_slice hz ht hd hu
    have k5 : (lits (H := H) .u8 (zs.take len)).length ≤ reachBytes := by
      refine Nat.le_trans (Nat.le_trans (Nat.le_add_right _ (lits (H := H) .u8 (zs.drop len)).length) ?_) k4
      exact Nat.le_mul_of_pos_right _ hby
    have := reachBytes_lt
    simp only [lits, List.length_map] at k5
    unfold lenB; omega
end
end Go.Proofs.Pw
