/- Ways: drawn ones. -/
import Derived.Test.YtlgalkdnikfmkaaPwT17
import Derived.Test.YtlgalkdnikfmkaaPwT15
import Derived.Test.YtlgalkdnikfmkaaPwT11
import Derived.Test.YtlgalkdnikfmkaaPwT10
import Derived.Test.YtlgalkdnikfmkaaPwT12
import Derived.Test.YtlgalkdnikfmkaaPwT9
import Derived.ProofKit
import Derived.ChangeOld
import Derived.Below
import Derived.Carry
import Derived.SizedLaws
import Derived.ChangeArms
import Derived.ChangeVars
import Derived.WalkSmall
import Derived.ChangeSlices
set_option linter.unusedSimpArgs false
set_option linter.unusedVariables false
set_option linter.unusedSimpArgs false
set_option maxRecDepth 20000
namespace Go.Proofs.Pw
set_option linter.unusedSectionVars false
variable [Globs]
mutual
theorem allT_dr : ∀ (t : T) (a : List Stp) (m : Int), drP m a → t.fit 60 → sizeT t ≤ 60 → ∀ w ∈ allT t a, drP (m + sizeT t - 1) w
  | .mk k n s ks l, a, m, ha, hf, hz, w, hw => by
    have h0 := sizeL_nn l
    simp only [sizeT] at hz ⊢
    simp only [allT, List.mem_cons] at hw
    rcases hw with rfl | hw
    · exact ha.mono (by omega)
    · exact (allLs_dr k ks l 0 a m ha hf.2.2.2.2.2 (fun s hs => hf.2.2.2.1.2 s hs) (by omega) w hw).mono (by omega)
theorem allLs_dr (k : Int) (ks : List ByteArray) : ∀ (l : List T) (i : Nat) (a : List Stp) (m : Int), drP m a → fitL 60 l → (∀ s ∈ ks, (s.size : Int) ≤ 60) → (i : Int) + sizeL l ≤ 60 → ∀ w ∈ allLs k ks l i a, drP (m + sizeL l) w
  | [], i, a, m, ha, hf, hk, hi, w, hw => by simp [allLs] at hw
  | t :: l, i, a, m, ha, hf, hk, hi, w, hw => by
    have h0 := sizeL_nn l
    have h1 := sizeT_pos t
    simp only [sizeL] at hi ⊢
    simp only [allLs, List.mem_append] at hw
    rcases hw with hw | hw
    · have hs : ((stepAt k ks i).key.size : Int) ≤ 60 ∧ -100 ≤ (stepAt k ks i).at' ∧ (stepAt k ks i).at' ≤ 100 := by
        unfold stepAt; split
        · refine ⟨?_, by simp, by simp⟩
          rw [List.getD_eq_getElem?_getD]
          cases hg : ks[i]? with
          | none => decide
          | some x => exact hk x (List.mem_of_getElem? hg)
        · exact ⟨(by decide : (((⟨#[]⟩ : ByteArray).size : Nat) : Int) ≤ 60), by show -100 ≤ (i : Int); omega, by show (i : Int) ≤ 100; omega⟩
      exact (allT_dr t (a ++ [stepAt k ks i]) (m + 1) (ha.snoc hs.1 hs.2.1 hs.2.2) hf.1 (by omega) w hw).mono (by omega)
    · exact (allLs_dr k ks l (i + 1) a m ha hf.2 hk (by push_cast; omega) w hw).mono (by omega)
end
theorem waysT_dr {v : T} {w : List Stp} (h : w ∈ waysT v) : drP 60 w := by
  unfold waysT at h; split at h
  · rename_i hv
    have hz := okT_size hv
    exact (allT_dr v [] 0 drP_nil (okT_fit hv) hz w h).mono (by omega)
  · cases h
theorem waysT_len (v : T) : ((waysT v).length : Int) ≤ 60 := by
  unfold waysT; split
  · rename_i hv; rw [allT_len]; exact okT_size hv
  · simp
theorem strs2 (a b : ByteArray) : C.row 1 [[C.str a], [C.str b]] = C.row 1 (strs [a, b]) := rfl
theorem ints4 (a b c d : Int) : C.row 1 [[C.int .i64 a], [C.int .i64 b], [C.int .i64 c], [C.int .i64 d]] = C.row 1 (ints .i64 [a, b, c, d]) := rfl
theorem ints2 (a b : Int) : C.row 1 [[C.int .i64 a], [C.int .i64 b]] = C.row 1 (ints .i64 [a, b]) := rfl
def x_l3Path : X := (.seq (.reg [⟨some 3, none, .box (.t 1) (some 5)⟩, ⟨some 4, none, .mv (.k (.z 3))⟩] none [0, 3]) (.seq (.reg [⟨some 9, none, .load (.t 3) (some 5)⟩, ⟨some 10, none, .callx 47 [(.t 9)]⟩, ⟨some 5, none, .mv (.t 10)⟩] none [0, 5]) (.seq (.seq (.reg [⟨some 11, none, .mv (.t 5)⟩, ⟨some 12, none, .len (.t 11) false⟩, ⟨some 13, none, .bin false .gtr (.t 12) (.k (.c (.int .i64 0)))⟩, ⟨some 14, none, .mv (.t 13)⟩, ⟨some 15, some (14, true), .mv (.t 0)⟩, ⟨some 16, some (14, true), .callr 27 [(.t 15), (.k (.c (.int .i64 3)))]⟩, ⟨some 17, some (14, true), .bin false .gtr (.t 16) (.k (.c (.int .i64 0)))⟩, ⟨some 18, none, .pick (.t 14) (.t 17) (.k (.c (.bool false)))⟩] none [0, 5, 18]) (.cond (.t 18) (.seq (.reg [⟨some 19, none, .mv (.t 5)⟩, ⟨some 20, none, .mv (.t 0)⟩, ⟨some 21, none, .mv (.t 5)⟩, ⟨some 22, none, .len (.t 21) false⟩, ⟨some 23, none, .callr 27 [(.t 20), (.t 22)]⟩, ⟨some 24, none, .ia (.t 19) (.t 23) 1⟩, ⟨some 25, none, .ldx (.t 24)⟩, ⟨some 6, none, .mv (.t 25)⟩] none [0, 6]) (.seq (.seq (.reg [⟨some 26, none, .mv (.t 0)⟩, ⟨some 27, none, .callr 27 [(.t 26), (.k (.c (.int .i64 3)))]⟩, ⟨some 28, none, .bin false .eql (.t 27) (.k (.c (.int .i64 0)))⟩, ⟨some 29, none, .mv (.t 28)⟩, ⟨some 30, some (29, true), .mv (.t 6)⟩, ⟨some 31, some (29, true), .len (.t 30) false⟩, ⟨some 32, some (29, true), .bin false .lss (.t 31) (.k (.c (.int .i64 6)))⟩, ⟨some 33, none, .pick (.t 29) (.t 32) (.k (.c (.bool false)))⟩] none [0, 6, 33]) (.cond (.t 33) (.reg [⟨some 34, none, .mv (.t 6)⟩, ⟨some 35, none, .mv (.t 0)⟩, ⟨some 36, none, .bsl 1 [((.k (.c (.str ⟨#[97]⟩))), none), ((.k (.c (.str ⟨#[122]⟩))), none)]⟩, ⟨some 37, none, .callr 29 [(.t 35), (.t 36)]⟩, ⟨some 38, none, .build [(.c (.bool false)), (.c (.str ⟨#[]⟩)), (.c (.int .i64 0))] [(0, (.k (.c (.bool true))), none), (1, (.t 37), none)]⟩, ⟨some 39, none, .bsl 3 [((.t 38), (some 3))]⟩, ⟨some 40, none, .app (.t 34) (.t 39) 3 32 []⟩, ⟨some 6, none, .mv (.t 40)⟩] none [6]) .skip)) (.seq (.reg [⟨some 41, none, .mv (.t 6)⟩, ⟨some 4, none, .mv (.t 41)⟩] none [4]) .ret))) .skip)) (.seq (.reg [⟨some 42, none, .bsl 3 []⟩, ⟨some 7, none, .mv (.t 42)⟩] none [0, 7]) (.seq (.seq (.reg [⟨some 43, none, .mv (.t 0)⟩, ⟨some 44, none, .callr 27 [(.t 43), (.k (.c (.int .i64 4)))]⟩, ⟨some 8, none, .mv (.t 44)⟩] none [0, 7, 8]) (.block 0 (.loop (.seq (.seq (.reg [⟨some 45, none, .mv (.t 8)⟩, ⟨some 46, none, .bin false .gtr (.t 45) (.k (.c (.int .i64 0)))⟩] none [0, 7, 8, 46]) (.cond (.t 46) .skip (.exit 0))) (.seq (.block 1 (.seq (.reg [⟨some 49, none, .mv (.t 0)⟩, ⟨some 50, none, .callr 27 [(.t 49), (.k (.c (.int .i64 2)))]⟩, ⟨some 51, none, .bin false .eql (.t 50) (.k (.c (.int .i64 0)))⟩] none [0, 7, 8, 51]) (.cond (.t 51) (.reg [⟨some 52, none, .mv (.t 7)⟩, ⟨some 53, none, .mv (.t 0)⟩, ⟨some 54, none, .bsl 1 [((.k (.c (.str ⟨#[97]⟩))), none), ((.k (.c (.str ⟨#[98]⟩))), none), ((.k (.c (.str ⟨#[99]⟩))), none), ((.k (.c (.str ⟨#[100]⟩))), none)]⟩, ⟨some 55, none, .callr 29 [(.t 53), (.t 54)]⟩, ⟨some 56, none, .build [(.c (.bool false)), (.c (.str ⟨#[]⟩)), (.c (.int .i64 0))] [(0, (.k (.c (.bool true))), none), (1, (.t 55), none)]⟩, ⟨some 57, none, .bsl 3 [((.t 56), (some 3))]⟩, ⟨some 58, none, .app (.t 52) (.t 57) 3 32 []⟩, ⟨some 7, none, .mv (.t 58)⟩] none [0, 7, 8]) (.reg [⟨some 59, none, .mv (.t 7)⟩, ⟨some 60, none, .mv (.t 0)⟩, ⟨some 61, none, .bsl 1 [((.k (.c (.int .i64 0))), none), ((.k (.c (.int .i64 1))), none), ((.k (.c (.int .i64 (-1)))), none), ((.k (.c (.int .i64 2))), none)]⟩, ⟨some 62, none, .callr 28 [(.t 60), (.t 61)]⟩, ⟨some 63, none, .build [(.c (.bool false)), (.c (.str ⟨#[]⟩)), (.c (.int .i64 0))] [(2, (.t 62), none)]⟩, ⟨some 64, none, .bsl 3 [((.t 63), (some 3))]⟩, ⟨some 65, none, .app (.t 59) (.t 64) 3 32 []⟩, ⟨some 7, none, .mv (.t 65)⟩] none [0, 7, 8])))) (.reg [⟨some 47, none, .mv (.t 8)⟩, ⟨some 48, none, .bin false .sub (.t 47) (.k (.c (.int .i64 1)))⟩, ⟨some 8, none, .mv (.t 48)⟩] none [0, 7, 8])))))) (.seq (.reg [⟨some 66, none, .mv (.t 7)⟩, ⟨some 4, none, .mv (.t 66)⟩] none [4]) .ret))))))
theorem chk_l3Path : chkX Go.Proofs.Try.prog 67 (Go.Proofs.Try.f30.body.getD .skip) x_l3Path = true := by kernel_rfl
theorem rs_l3Path : okRs Go.Proofs.Try.prog Go.Proofs.Try.f30.results.toList [.tmp 4] = true := by kernel_rfl
theorem call_l3Path : okCallee Go.Proofs.Try.prog 30 = true := by kernel_rfl
def spPath  : Spec := Spec.ofR (ι := (List Int) × Int × T) (κ := (List Stp) × Int) [true, false] (fun i => [.ref (rdC i.1 i.2.1), .d (.agg i.2.2.enc)]) (fun i => byt i.1 ∧ 0 ≤ i.2.1 ∧ i.2.1 + 20 ≤ 1099511627776 ∧ i.2.2.fit 2000000 ∧ sizeT i.2.2 ≤ 1048577) (fun i k => drP 61 k.1 ∧ i.2.1 ≤ k.2 ∧ k.2 ≤ i.2.1 + 20) (fun i k => [.own 3 (encS k.1)]) (fun i k => [.ref (rdC i.1 k.2), .gone])
theorem spPath_inj : ∀ i j : (List Int) × Int × T, (fun (i : (List Int) × Int × T) => ([.ref (rdC i.1 i.2.1), .d (.agg i.2.2.enc)] : List AV)) i = (fun (i : (List Int) × Int × T) => ([.ref (rdC i.1 i.2.1), .d (.agg i.2.2.enc)] : List AV)) j → i = j := by
  rintro ⟨bs, p, v⟩ ⟨bs', p', v'⟩ h
  simp only [Prod.mk.injEq]
  simpa [strs_eq, T.enc_eq, encL_eq, F.enc_eq, encF_eq, Tk.enc_eq, encTk_eq, Gn.enc_eq, ints_eq, rdC_eq, and_assoc, encS_eq] using h
theorem spPath_md  : (spPath).md = [true, false] := rfl
theorem spPath_pre  (bs : List Int) (p : Int) (v : T) : (spPath).pre [.ref (rdC bs p), .d (.agg v.enc)] = (byt bs ∧ 0 ≤ p ∧ p + 20 ≤ 1099511627776 ∧ v.fit 2000000 ∧ sizeT v ≤ 1048577) := Spec.ofR_pre spPath_inj (bs, p, v)
theorem spPath_ne0  (bs : List Int) (p : Int) (v : T) : (spPath).ne [.ref (rdC bs p), .d (.agg v.enc)] = (∃ k : (List Stp) × Int, drP 61 k.1 ∧ p ≤ k.2 ∧ k.2 ≤ p + 20) := Spec.ofR_ne spPath_inj (bs, p, v)
theorem spPath_all  (bs : List Int) (p : Int) (v : T) (F : List AV → List AV → Prop) : (spPath).all [.ref (rdC bs p), .d (.agg v.enc)] F = (∀ (w : List Stp) (q : Int), (drP 61 w ∧ p ≤ q ∧ q ≤ p + 20) → F [.own 3 (encS w)] [.ref (rdC bs q), .gone]) := by
  refine (Spec.ofR_all spPath_inj (bs, p, v) F).trans (propext ⟨fun h w q hr => h (w, q) hr, fun h k hr => ?_⟩)
  exact h k.1 k.2 hr
theorem spPath_ne (bs : List Int) (p : Int) (v : T) : spPath.ne [.ref (rdC bs p), .d (.agg v.enc)] = True := by
  rw [spPath_ne0]
  exact eq_true ⟨([], p), drP_nil.mono (by omega), Int.le_refl _, by show p ≤ p + 20; omega⟩
set_option maxHeartbeats 4000000 in
theorem l3Path_sound : Sound Go.Proofs.Try.prog 30 spPath := by
  refine sound_famR (GOK.cons (l := [(29, spDof), (28, spDnum), (47, spPathAll)]) call_pick pick_sound (GOK.cons call_dof dof_sound (GOK.cons call_dnum dnum_sound (GOK.cons call_PathAll PathAll_sound GOK.nil)))) Go.Proofs.Try.func30 (c := Go.Proofs.Try.f30.body.getD .skip) rfl (n := 67) rfl chk_l3Path rs_l3Path (fun _ => by simp) ?_
  · rintro ⟨bs, p, v⟩ ⟨hb, h1, h2, h3, h4⟩
    change byt bs at hb
    simp only at h1 h2 h3 h4
    have f0 := T.enc_len v
    have wl := waysT_len v
    by_cases c : 0 < (waysT v).length
    · have c' : (0 < ((waysT v).length : Int)) = True := eq_true (by omega)
      simp only [x_l3Path, rg, go_sem, seval, Prod.fst, f0, c', encSX_len, spPathAll_md, spPathAll_pre, spPathAll_alts, spPathAll_res, spPathAll_out, spPick_md, spPick_pre, spPick_ne, ↓spPick_all, spPick_all, spPick_md, spPick_pre, spPick_ne, ↓spPick_all, spPick_all]
      repeat' (first | with_reducible assumption | with_reducible refine And.intro ?_ ?_ | intro _)
      all_goals first | omega | skip
      · rename_i m1 hm1 hm2 m hm hm3
        obtain ⟨w, hw, _, hmem⟩ := drop_at (l := waysT v) (i := m.toNat) (by omega)
        have a1 := encSX_at hw
        have dw := waysT_dr hmem
        simp only [rg, go_sem, seval, Prod.fst, a1, strs2, foldS, encS_len, encSX_len, spPick_md, spPick_pre, spPick_ne, ↓spPick_all, spPick_all, spDof_md, spDof_pre, spDof_ne, ↓spDof_all, spDof_all, spPick_md, spPick_pre, spPick_ne, ↓spPick_all, spPick_all]
        repeat' (first | with_reducible assumption | with_reducible refine And.intro ?_ ?_ | intro _)
        all_goals first | omega | skip
        · rename_i k _ _ s hs _
          have hk : (s.size : Int) ≤ 60 := by
            simp only [List.mem_cons, List.not_mem_nil, or_false, reduceCtorEq] at hs
            rcases hs with rfl | rfl <;> decide
          exact ⟨(w ++ [⟨true, s, 0⟩], p + 1 + 1 + 1 + 1), ⟨dw.snoc hk (by simp) (by simp), by show p ≤ p + 1 + 1 + 1 + 1; omega, by show p + 1 + 1 + 1 + 1 ≤ p + 20; omega⟩, rfl, rfl⟩
        · exact ⟨(w, p + 1 + 1 + 1), ⟨dw.mono (by omega), by show p ≤ p + 1 + 1 + 1; omega, by show p + 1 + 1 + 1 ≤ p + 20; omega⟩, rfl, rfl⟩
      · rename_i m hm
        refine pw_loop (ι := Nat × Nat × Int × List Stp) (fun i => i.1)
          (fun i => i.1 + i.2.1 ≤ 3 ∧ p + 1 ≤ i.2.2.1 ∧ i.2.2.1 ≤ p + 2 + i.2.1 * 2 ∧ drP i.2.1 i.2.2.2)
          (fun i => ⟨[(0, .q (.box 67 0)), (7, .q (.own 301)), (8, .q (.c (.int .i64 i.1)))],
            [(67, (rdC bs i.2.2.1).map .c), (3, v.enc.map .c)],
            [(10, 1, encSX (waysT v)), (301, 3, encS i.2.2.2)]⟩) (m.toNat, 0, p + 1 + 1, []) ⟨by show m.toNat + 0 ≤ 3; omega, by show p + 1 ≤ p + 1 + 1; omega, by show p + 1 + 1 ≤ p + 2 + ((0 : Nat) : Int) * 2; omega, drP_nil⟩ ?_ ?_
        · have e : ((m.toNat : Nat) : Int) = m := by omega
          refine Le.own (t := 7) (d := 301) (sz := 3) (by decide) (by simp) (by simp [Q.killO, rdC]) ?_
          simp [e, PV.map, Q.killO, encS]
        · rintro ⟨i, j, q, w⟩ ⟨g1, g2, g3, g4⟩
          simp only at g1 g2 g3 g4
          have g5 := g4.1
          rcases Nat.eq_zero_or_pos i with h0 | hpos
          · subst h0
            have b1 : ((0 : Int) < ((0 : Nat) : Int)) = False := eq_false (by omega)
            simp only [rg, go_sem, seval, Prod.fst, b1, encS_len]
            repeat' (first | with_reducible assumption | with_reducible refine And.intro ?_ ?_ | intro _)
            all_goals first | omega | skip
            exact ⟨(w, q), ⟨g4.mono (by omega), by show p ≤ q; omega, by show q ≤ p + 20; omega⟩, rfl, rfl⟩
          · have e1 : ((i - 1 : Nat) : Int) = i - 1 := by omega
            have b1 : ((0 : Int) < (i : Int)) = True := eq_true (by omega)
            simp only [rg, go_sem, seval, Prod.fst, b1, strs4, ints4, foldS, encS_len, spPick_md, spPick_pre, spPick_ne, ↓spPick_all, spPick_all, spDof_md, spDof_pre, spDof_ne, ↓spDof_all, spDof_all, spDnum_md, spDnum_pre, spDnum_ne, ↓spDnum_all, spDnum_all]
            repeat' (first | with_reducible assumption | with_reducible refine And.intro ?_ ?_ | intro _)
            all_goals first | omega | skip
            · rename_i hs _ _
              have hk : ∀ s : ByteArray, s ∈ [⟨#[97]⟩, ⟨#[98]⟩, ⟨#[99]⟩, ⟨#[100]⟩] ∨ False → (s.size : Int) ≤ 60 := fun s hs => by
                simp only [List.mem_cons, List.not_mem_nil, or_false, reduceCtorEq] at hs
                rcases hs with rfl | rfl | rfl | rfl <;> decide
              exact ⟨(i - 1, j + 1, q + 1 + 1, w ++ [⟨true, _, 0⟩]), ⟨by show i - 1 + (j + 1) ≤ 3; omega, by show p + 1 ≤ q + 1 + 1; omega, by show q + 1 + 1 ≤ p + 2 + ((j + 1 : Nat) : Int) * 2; omega, (g4.snoc (s := ⟨true, _, 0⟩) (hk _ hs) (by simp) (by simp)).mono (by show (j : Int) + 1 ≤ ((j + 1 : Nat) : Int); omega)⟩, by show i - 1 < i; omega, Le.of_eq (by simp [e1])⟩
            · rename_i hs _ _
              have hk : ∀ a : Int, a ∈ [0, 1, -1, 2] ∨ False → -100 ≤ a ∧ a ≤ 100 := fun a hs => by
                simp only [List.mem_cons, List.not_mem_nil, or_false, reduceCtorEq] at hs
                rcases hs with rfl | rfl | rfl | rfl <;> decide
              exact ⟨(i - 1, j + 1, q + 1 + 1, w ++ [⟨false, ⟨#[]⟩, _⟩]), ⟨by show i - 1 + (j + 1) ≤ 3; omega, by show p + 1 ≤ q + 1 + 1; omega, by show q + 1 + 1 ≤ p + 2 + ((j + 1 : Nat) : Int) * 2; omega, (g4.snoc (s := ⟨false, ⟨#[]⟩, _⟩) (show (((⟨#[]⟩ : ByteArray).size : Nat) : Int) ≤ 60 by decide) (hk _ hs).1 (hk _ hs).2).mono (by show (j : Int) + 1 ≤ ((j + 1 : Nat) : Int); omega)⟩, by show i - 1 < i; omega, Le.of_eq (by simp [e1])⟩
    · have c' : (0 < ((waysT v).length : Int)) = False := eq_false (by omega)
      simp only [x_l3Path, rg, go_sem, seval, Prod.fst, f0, c', encSX_len, spPathAll_md, spPathAll_pre, spPathAll_alts, spPathAll_res, spPathAll_out, spPick_md, spPick_pre, spPick_ne, ↓spPick_all, spPick_all, spPick_md, spPick_pre, spPick_ne, ↓spPick_all, spPick_all]
      repeat' (first | with_reducible assumption | with_reducible refine And.intro ?_ ?_ | intro _)
      all_goals first | omega | skip
      rename_i m hm
      refine pw_loop (ι := Nat × Nat × Int × List Stp) (fun i => i.1)
        (fun i => i.1 + i.2.1 ≤ 3 ∧ p + 1 ≤ i.2.2.1 ∧ i.2.2.1 ≤ p + 2 + i.2.1 * 2 ∧ drP i.2.1 i.2.2.2)
        (fun i => ⟨[(0, .q (.box 67 0)), (7, .q (.own 301)), (8, .q (.c (.int .i64 i.1)))],
          [(67, (rdC bs i.2.2.1).map .c), (3, v.enc.map .c)],
          [(10, 1, encSX (waysT v)), (301, 3, encS i.2.2.2)]⟩) (m.toNat, 0, p + 1, []) ⟨by show m.toNat + 0 ≤ 3; omega, by show p + 1 ≤ p + 1; omega, by show p + 1 ≤ p + 2 + ((0 : Nat) : Int) * 2; omega, drP_nil⟩ ?_ ?_
      · have e : ((m.toNat : Nat) : Int) = m := by omega
        refine Le.own (t := 7) (d := 301) (sz := 3) (by decide) (by simp) (by simp [Q.killO, rdC]) ?_
        simp [e, PV.map, Q.killO, encS]
      · rintro ⟨i, j, q, w⟩ ⟨g1, g2, g3, g4⟩
        simp only at g1 g2 g3 g4
        have g5 := g4.1
        rcases Nat.eq_zero_or_pos i with h0 | hpos
        · subst h0
          have b1 : ((0 : Int) < ((0 : Nat) : Int)) = False := eq_false (by omega)
          simp only [rg, go_sem, seval, Prod.fst, b1, encS_len]
          repeat' (first | with_reducible assumption | with_reducible refine And.intro ?_ ?_ | intro _)
          all_goals first | omega | skip
          exact ⟨(w, q), ⟨g4.mono (by omega), by show p ≤ q; omega, by show q ≤ p + 20; omega⟩, rfl, rfl⟩
        · have e1 : ((i - 1 : Nat) : Int) = i - 1 := by omega
          have b1 : ((0 : Int) < (i : Int)) = True := eq_true (by omega)
          simp only [rg, go_sem, seval, Prod.fst, b1, strs4, ints4, foldS, encS_len, spPick_md, spPick_pre, spPick_ne, ↓spPick_all, spPick_all, spDof_md, spDof_pre, spDof_ne, ↓spDof_all, spDof_all, spDnum_md, spDnum_pre, spDnum_ne, ↓spDnum_all, spDnum_all]
          repeat' (first | with_reducible assumption | with_reducible refine And.intro ?_ ?_ | intro _)
          all_goals first | omega | skip
          · rename_i hs _ _
            have hk : ∀ s : ByteArray, s ∈ [⟨#[97]⟩, ⟨#[98]⟩, ⟨#[99]⟩, ⟨#[100]⟩] ∨ False → (s.size : Int) ≤ 60 := fun s hs => by
              simp only [List.mem_cons, List.not_mem_nil, or_false, reduceCtorEq] at hs
              rcases hs with rfl | rfl | rfl | rfl <;> decide
            exact ⟨(i - 1, j + 1, q + 1 + 1, w ++ [⟨true, _, 0⟩]), ⟨by show i - 1 + (j + 1) ≤ 3; omega, by show p + 1 ≤ q + 1 + 1; omega, by show q + 1 + 1 ≤ p + 2 + ((j + 1 : Nat) : Int) * 2; omega, (g4.snoc (s := ⟨true, _, 0⟩) (hk _ hs) (by simp) (by simp)).mono (by show (j : Int) + 1 ≤ ((j + 1 : Nat) : Int); omega)⟩, by show i - 1 < i; omega, Le.of_eq (by simp [e1])⟩
          · rename_i hs _ _
            have hk : ∀ a : Int, a ∈ [0, 1, -1, 2] ∨ False → -100 ≤ a ∧ a ≤ 100 := fun a hs => by
              simp only [List.mem_cons, List.not_mem_nil, or_false, reduceCtorEq] at hs
              rcases hs with rfl | rfl | rfl | rfl <;> decide
            exact ⟨(i - 1, j + 1, q + 1 + 1, w ++ [⟨false, ⟨#[]⟩, _⟩]), ⟨by show i - 1 + (j + 1) ≤ 3; omega, by show p + 1 ≤ q + 1 + 1; omega, by show q + 1 + 1 ≤ p + 2 + ((j + 1 : Nat) : Int) * 2; omega, (g4.snoc (s := ⟨false, ⟨#[]⟩, _⟩) (show (((⟨#[]⟩ : ByteArray).size : Nat) : Int) ≤ 60 by decide) (hk _ hs).1 (hk _ hs).2).mono (by show (j : Int) + 1 ≤ ((j + 1 : Nat) : Int); omega)⟩, by show i - 1 < i; omega, Le.of_eq (by simp [e1])⟩
end Go.Proofs.Pw
/- Ways: drawn ones, one in ten bent; the draw of the laws of ways. -/
set_option linter.unusedSimpArgs false
set_option maxRecDepth 20000
namespace Go.Proofs.Pw
set_option linter.unusedSectionVars false
variable [Globs]
def x_l3Bent : X := (.seq (.reg [⟨some 3, none, .box (.t 1) (some 5)⟩, ⟨some 4, none, .mv (.k (.z 3))⟩] none [0, 3]) (.seq (.reg [⟨some 6, none, .mv (.t 0)⟩, ⟨some 7, none, .load (.t 3) (some 5)⟩, ⟨some 8, none, .callr 30 [(.t 6), (.t 7)]⟩, ⟨some 5, none, .mv (.t 8)⟩] none [0, 5]) (.seq (.seq (.reg [⟨some 9, none, .mv (.t 0)⟩, ⟨some 10, none, .callr 27 [(.t 9), (.k (.c (.int .i64 30)))]⟩] none [0, 5, 10]) (.block 0 (.seq (.reg [⟨some 12, none, .bin false .eql (.t 10) (.k (.c (.int .i64 0)))⟩, ⟨some 11, none, .mv (.t 12)⟩] none [0, 5, 10, 11]) (.cond (.t 11) (.seq (.reg [⟨some 13, none, .mv (.t 5)⟩, ⟨some 14, none, .build [(.c (.bool false)), (.c (.str ⟨#[]⟩)), (.c (.int .i64 0))] [(0, (.k (.c (.bool true))), none), (1, (.k (.c (.str ⟨#[65]⟩))), none)]⟩, ⟨some 15, none, .bsl 3 [((.t 14), (some 3))]⟩, ⟨some 16, none, .app (.t 13) (.t 15) 3 32 []⟩, ⟨some 4, none, .mv (.t 16)⟩] none [4]) .ret) (.seq (.reg [⟨some 18, none, .bin false .eql (.t 10) (.k (.c (.int .i64 1)))⟩, ⟨some 17, none, .mv (.t 18)⟩] none [0, 5, 10, 17]) (.cond (.t 17) (.seq (.reg [⟨some 19, none, .mv (.t 5)⟩, ⟨some 20, none, .mv (.t 0)⟩, ⟨some 21, none, .bsl 1 [((.k (.c (.int .i64 60))), none), ((.k (.c (.int .i64 (-61)))), none)]⟩, ⟨some 22, none, .callr 28 [(.t 20), (.t 21)]⟩, ⟨some 23, none, .build [(.c (.bool false)), (.c (.str ⟨#[]⟩)), (.c (.int .i64 0))] [(2, (.t 22), none)]⟩, ⟨some 24, none, .bsl 3 [((.t 23), (some 3))]⟩, ⟨some 25, none, .app (.t 19) (.t 24) 3 32 []⟩, ⟨some 4, none, .mv (.t 25)⟩] none [4]) .ret) (.seq (.reg [⟨some 27, none, .bin false .eql (.t 10) (.k (.c (.int .i64 2)))⟩, ⟨some 26, none, .mv (.t 27)⟩] none [5, 26]) (.cond (.t 26) (.block 1 (.loop (.seq (.seq (.reg [⟨some 28, none, .mv (.t 5)⟩, ⟨some 29, none, .len (.t 28) false⟩, ⟨some 30, none, .bin false .leq (.t 29) (.k (.c (.int .i64 6)))⟩] none [5, 30]) (.cond (.t 30) .skip (.exit 1))) (.block 2 (.reg [⟨some 31, none, .mv (.t 5)⟩, ⟨some 32, none, .build [(.c (.bool false)), (.c (.str ⟨#[]⟩)), (.c (.int .i64 0))] []⟩, ⟨some 33, none, .bsl 3 [((.t 32), (some 3))]⟩, ⟨some 34, none, .app (.t 31) (.t 33) 3 32 []⟩, ⟨some 5, none, .mv (.t 34)⟩] none [5]))))) .skip)))))))) (.seq (.reg [⟨some 35, none, .mv (.t 5)⟩, ⟨some 4, none, .mv (.t 35)⟩] none [4]) .ret))))
theorem chk_l3Bent : chkX Go.Proofs.Try.prog 36 (Go.Proofs.Try.f14.body.getD .skip) x_l3Bent = true := by kernel_rfl
theorem rs_l3Bent : okRs Go.Proofs.Try.prog Go.Proofs.Try.f14.results.toList [.tmp 4] = true := by kernel_rfl
theorem call_l3Bent : okCallee Go.Proofs.Try.prog 14 = true := by kernel_rfl
def spBentP  : Spec := Spec.ofR (ι := (List Int) × Int × T) (κ := (List Stp) × Int) [true, false] (fun i => [.ref (rdC i.1 i.2.1), .d (.agg i.2.2.enc)]) (fun i => byt i.1 ∧ 0 ≤ i.2.1 ∧ i.2.1 + 40 ≤ 1099511627776 ∧ i.2.2.fit 2000000 ∧ sizeT i.2.2 ≤ 1048577) (fun i k => drP 62 k.1 ∧ i.2.1 ≤ k.2 ∧ k.2 ≤ i.2.1 + 30) (fun i k => [.own 3 (encS k.1)]) (fun i k => [.ref (rdC i.1 k.2), .gone])
theorem spBentP_inj : ∀ i j : (List Int) × Int × T, (fun (i : (List Int) × Int × T) => ([.ref (rdC i.1 i.2.1), .d (.agg i.2.2.enc)] : List AV)) i = (fun (i : (List Int) × Int × T) => ([.ref (rdC i.1 i.2.1), .d (.agg i.2.2.enc)] : List AV)) j → i = j := by
  rintro ⟨bs, p, v⟩ ⟨bs', p', v'⟩ h
  simp only [Prod.mk.injEq]
  simpa [strs_eq, T.enc_eq, encL_eq, F.enc_eq, encF_eq, Tk.enc_eq, encTk_eq, Gn.enc_eq, ints_eq, rdC_eq, and_assoc, encS_eq] using h
theorem spBentP_md  : (spBentP).md = [true, false] := rfl
theorem spBentP_pre  (bs : List Int) (p : Int) (v : T) : (spBentP).pre [.ref (rdC bs p), .d (.agg v.enc)] = (byt bs ∧ 0 ≤ p ∧ p + 40 ≤ 1099511627776 ∧ v.fit 2000000 ∧ sizeT v ≤ 1048577) := Spec.ofR_pre spBentP_inj (bs, p, v)
theorem spBentP_ne0  (bs : List Int) (p : Int) (v : T) : (spBentP).ne [.ref (rdC bs p), .d (.agg v.enc)] = (∃ k : (List Stp) × Int, drP 62 k.1 ∧ p ≤ k.2 ∧ k.2 ≤ p + 30) := Spec.ofR_ne spBentP_inj (bs, p, v)
theorem spBentP_all  (bs : List Int) (p : Int) (v : T) (F : List AV → List AV → Prop) : (spBentP).all [.ref (rdC bs p), .d (.agg v.enc)] F = (∀ (w : List Stp) (q : Int), (drP 62 w ∧ p ≤ q ∧ q ≤ p + 30) → F [.own 3 (encS w)] [.ref (rdC bs q), .gone]) := by
  refine (Spec.ofR_all spBentP_inj (bs, p, v) F).trans (propext ⟨fun h w q hr => h (w, q) hr, fun h k hr => ?_⟩)
  exact h k.1 k.2 hr
theorem spBentP_ne (bs : List Int) (p : Int) (v : T) : spBentP.ne [.ref (rdC bs p), .d (.agg v.enc)] = True := by
  rw [spBentP_ne0]
  exact eq_true ⟨([], p), drP_nil.mono (by omega), Int.le_refl _, by show p ≤ p + 30; omega⟩
set_option maxHeartbeats 4000000 in
theorem l3Bent_sound : Sound Go.Proofs.Try.prog 14 spBentP := by
  refine sound_famR (GOK.cons (l := [(28, spDnum), (30, spPath)]) call_pick pick_sound (GOK.cons call_dnum dnum_sound (GOK.cons call_l3Path l3Path_sound GOK.nil))) Go.Proofs.Try.func14 (c := Go.Proofs.Try.f14.body.getD .skip) rfl (n := 36) rfl chk_l3Bent rs_l3Bent (fun _ => by simp) ?_
  · rintro ⟨bs, p, v⟩ ⟨hb, h1, h2, h3, h4⟩
    change byt bs at hb
    simp only at h1 h2 h3 h4
    have f0 := T.enc_len v
    simp only [x_l3Bent, rg, go_sem, seval, Prod.fst, f0, ints2, foldS, encS_len, spPick_md, spPick_pre, spPick_ne, ↓spPick_all, spPick_all, spDnum_md, spDnum_pre, spDnum_ne, ↓spDnum_all, spDnum_all, spPath_md, spPath_pre, spPath_ne, ↓spPath_all, spPath_all]
    repeat' (first | with_reducible assumption | with_reducible refine And.intro ?_ ?_ | intro _)
    all_goals first | omega | skip
    · have := (‹drP _ _ ∧ _›).1.1
      omega
    · rename_i w q hw m _ _ _
      exact ⟨(w ++ [⟨true, ⟨#[65]⟩, 0⟩], q + 1), ⟨hw.1.snoc (show (((⟨#[65]⟩ : ByteArray).size : Nat) : Int) ≤ 60 by decide) (by simp) (by simp), by show p ≤ q + 1; omega, by show q + 1 ≤ p + 30; omega⟩, rfl, rfl⟩
    · have := (‹drP _ _ ∧ _›).1.1
      omega
    · rename_i w q hw m _ _ _ a ha _
      have hk : -100 ≤ a ∧ a ≤ 100 := by
        simp only [List.mem_cons, List.not_mem_nil, or_false, reduceCtorEq] at ha
        rcases ha with rfl | rfl <;> decide
      exact ⟨(w ++ [⟨false, ⟨#[]⟩, a⟩], q + 1 + 1), ⟨hw.1.snoc (show (((⟨#[]⟩ : ByteArray).size : Nat) : Int) ≤ 60 by decide) hk.1 hk.2, by show p ≤ q + 1 + 1; omega, by show q + 1 + 1 ≤ p + 30; omega⟩, rfl, rfl⟩
    · rename_i w q hw m _ _ _ _
      refine pw_loop (ι := List Stp) (fun i => 7 - i.length) (fun i => drP 62 i)
        (fun i => ⟨[(5, .q (.own 8))], [(36, (rdC bs (q + 1)).map .c), (3, v.enc.map .c)], [(8, 3, encS i)]⟩) w (hw.1.mono (by omega)) (Le.sub (by simp) (by simp) (by simp)) ?_
      intro i hi
      by_cases c : (i.length : Int) ≤ 6
      · have c' := eq_true c
        have sn := (drP.snoc (m := 6) (s := ⟨false, ⟨#[]⟩, 0⟩) ⟨c, hi.2⟩ (show (((⟨#[]⟩ : ByteArray).size : Nat) : Int) ≤ 60 by decide) (by simp) (by simp)).mono (n := 62) (by omega)
        simp only [rg, go_sem, seval, Prod.fst, c', foldS, encS_len]
        repeat' (first | with_reducible assumption | with_reducible refine And.intro ?_ ?_ | intro _)
        all_goals first | omega | skip
        exact ⟨i ++ [⟨false, ⟨#[]⟩, 0⟩], sn, by simp; omega, Le.of_eq rfl⟩
      · have c' := eq_false c
        simp only [rg, go_sem, seval, Prod.fst, c', encS_len]
        repeat' (first | with_reducible assumption | with_reducible refine And.intro ?_ ?_ | intro _)
        all_goals first | omega | skip
        exact ⟨(i, q + 1), ⟨hi, by show p ≤ q + 1; omega, by show q + 1 ≤ p + 30; omega⟩, rfl, rfl⟩
    · rename_i w q hw m _ _ _ _
      exact ⟨(w, q + 1), ⟨hw.1.mono (by omega), by show p ≤ q + 1; omega, by show q + 1 ≤ p + 30; omega⟩, rfl, rfl⟩
def x_DrawPathPut : X := (.seq (.reg [⟨some 2, none, .alloc [(.c (.int .i64 0)), (.c (.int .i64 0)), (.c (.str ⟨#[]⟩)), (.z 1), (.z 5)]⟩, ⟨some 3, none, .mv (.k (.z 3))⟩, ⟨some 4, none, .alloc [(.c (.int .i64 0)), (.c (.int .i64 0)), (.c (.str ⟨#[]⟩)), (.z 1), (.z 5)]⟩] none [0, 2, 4]) (.seq (.reg [⟨some 8, none, .mv (.t 0)⟩, ⟨some 9, none, .call 12 [(.t 8)]⟩, ⟨some 5, none, .mv (.t 9)⟩] none [2, 4, 5]) (.seq (.reg [⟨some 10, none, .mv (.t 5)⟩, ⟨some 11, none, .callr 13 [(.t 10)]⟩, ⟨some 6, none, .alloc [(.c (.int .i64 0)), (.c (.int .i64 0)), (.c (.str ⟨#[]⟩)), (.z 1), (.z 5)]⟩, ⟨none, none, .st (.t 6) (.t 11) (some 5)⟩] none [2, 4, 5, 6]) (.seq (.reg [⟨some 12, none, .mv (.t 5)⟩, ⟨some 13, none, .load (.t 6) (some 5)⟩, ⟨some 14, none, .callr 14 [(.t 12), (.t 13)]⟩, ⟨some 7, none, .mv (.t 14)⟩] none [2, 4, 5, 6, 7]) (.seq (.mix [⟨some 15, none, .load (.t 6) (some 5)⟩, ⟨some 16, none, .mv (.t 7)⟩, ⟨some 17, none, .mv (.t 5)⟩, ⟨some 18, none, .callr 13 [(.t 17)]⟩, ⟨none, none, .st (.t 2) (.t 15) (some 5)⟩] [⟨some 3, none, .mv (.t 16)⟩, ⟨none, none, .st (.t 4) (.t 18) (some 5)⟩] [[], [], [], [0], []] [2, 3, 4]) .ret)))))
theorem chk_DrawPathPut : chkX Go.Proofs.Try.prog 19 (Go.Proofs.Try.f5.body.getD .skip) x_DrawPathPut = true := by kernel_rfl
theorem rs_DrawPathPut : okRs Go.Proofs.Try.prog Go.Proofs.Try.f5.results.toList [.cell 2 (some 5), .tmp 3, .cell 4 (some 5)] = true := by kernel_rfl
theorem call_DrawPathPut : okCallee Go.Proofs.Try.prog 5 = true := by kernel_rfl
def spDPath  : Spec := Spec.ofR (ι := (List Int)) (κ := Int × Int × ByteArray × (List ByteArray) × (List T) × (List Stp) × Int × Int × ByteArray × (List ByteArray) × (List T)) [false] (fun i => [.d (.one (.row 1 (ints .u8 i)))]) (fun i => (∀ b ∈ i, 0 ≤ b ∧ b ≤ 255) ∧ lenB 140737488355328 i.length) (fun i k => drW 15700 (.mk k.1 k.2.1 k.2.2.1 k.2.2.2.1 k.2.2.2.2.1) ∧ drP 62 k.2.2.2.2.2.1 ∧ drW 15700 (.mk k.2.2.2.2.2.2.1 k.2.2.2.2.2.2.2.1 k.2.2.2.2.2.2.2.2.1 k.2.2.2.2.2.2.2.2.2.1 k.2.2.2.2.2.2.2.2.2.2)) (fun i k => [.d (.agg (T.mk k.1 k.2.1 k.2.2.1 k.2.2.2.1 k.2.2.2.2.1).enc), .own 3 (encS k.2.2.2.2.2.1), .d (.agg (T.mk k.2.2.2.2.2.2.1 k.2.2.2.2.2.2.2.1 k.2.2.2.2.2.2.2.2.1 k.2.2.2.2.2.2.2.2.2.1 k.2.2.2.2.2.2.2.2.2.2).enc)]) (fun i k => [.gone])
theorem spDPath_inj : ∀ i j : (List Int), (fun (i : (List Int)) => ([.d (.one (.row 1 (ints .u8 i)))] : List AV)) i = (fun (i : (List Int)) => ([.d (.one (.row 1 (ints .u8 i)))] : List AV)) j → i = j := by
  intro bs bs' h
  simpa [strs_eq, T.enc_eq, encL_eq, F.enc_eq, encF_eq, Tk.enc_eq, encTk_eq, Gn.enc_eq, ints_eq, rdC_eq, and_assoc, encS_eq] using h
theorem spDPath_md  : (spDPath).md = [false] := rfl
theorem spDPath_pre  (bs : List Int) : (spDPath).pre [.d (.one (.row 1 (ints .u8 bs)))] = ((∀ b ∈ bs, 0 ≤ b ∧ b ≤ 255) ∧ lenB 140737488355328 bs.length) := Spec.ofR_pre spDPath_inj bs
theorem spDPath_all  (bs : List Int) (F : List AV → List AV → Prop) : (spDPath).all [.d (.one (.row 1 (ints .u8 bs)))] F = (∀ (k : Int) (n : Int) (s : ByteArray) (ks : List ByteArray) (l : List T) (w : List Stp) (k2 : Int) (n2 : Int) (s2 : ByteArray) (ks2 : List ByteArray) (l2 : List T), (drW 15700 (.mk k n s ks l) ∧ drP 62 w ∧ drW 15700 (.mk k2 n2 s2 ks2 l2)) → F [.d (.agg (T.mk k n s ks l).enc), .own 3 (encS w), .d (.agg (T.mk k2 n2 s2 ks2 l2).enc)] [.gone]) := by
  refine (Spec.ofR_all spDPath_inj bs F).trans (propext ⟨fun h k n s ks l w k2 n2 s2 ks2 l2 hr => h (k, n, s, ks, l, w, k2, n2, s2, ks2, l2) hr, fun h k hr => ?_⟩)
  exact h k.1 k.2.1 k.2.2.1 k.2.2.2.1 k.2.2.2.2.1 k.2.2.2.2.2.1 k.2.2.2.2.2.2.1 k.2.2.2.2.2.2.2.1 k.2.2.2.2.2.2.2.2.1 k.2.2.2.2.2.2.2.2.2.1 k.2.2.2.2.2.2.2.2.2.2 hr
set_option maxHeartbeats 4000000 in
theorem DrawPathPut_sound : Sound Go.Proofs.Try.prog 5 spDPath := by
  refine sound_famR (GOK.cons (l := [(13, spBent), (14, spBentP)]) call_l11Open l11Open_sound (GOK.cons call_l1Bent l1Bent_sound (GOK.cons call_l3Bent l3Bent_sound GOK.nil))) Go.Proofs.Try.func5 (c := Go.Proofs.Try.f5.body.getD .skip) rfl (n := 19) rfl chk_DrawPathPut rs_DrawPathPut (fun _ => by simp) ?_
  · rintro bs ⟨hb, h1⟩
    have hy := byt_take hb
    simp only [x_DrawPathPut, rg, go_sem, seval, Prod.fst, T.enc_len, spOpen_md, spOpen_pre, spOpen_alts, spOpen_res, spOpen_out, spBent_md, spBent_pre, spBent_ne, ↓spBent_all, spBent_all, spBent_md, spBent_pre, spBent_ne, ↓spBent_all, spBent_all, spBentP_md, spBentP_pre, spBentP_ne, ↓spBentP_all, spBentP_all]
    repeat' (first | with_reducible assumption | with_reducible refine And.intro ?_ ?_ | intro _)
    all_goals first | omega | skip
    · have := (‹drW _ _ ∧ _›).1.1
      exact T.fit_mono (by decide) this
    · have := (‹drW _ _ ∧ _›).1.2.1
      omega
    · rename_i k n s ks l q hv w q1 hw k2 n2 s2 ks2 l2 q2 hx
      exact ⟨(k, n, s, ks, l, w, k2, n2, s2, ks2, l2), ⟨hv.1, hw.1, hx.1⟩, rfl, rfl, rfl⟩
end Go.Proofs.Pw
/- Ways: the given program's PathPut, its answer told as data. -/
set_option linter.unusedSimpArgs false
set_option maxRecDepth 20000
namespace Go.Proofs.Pw
set_option linter.unusedSectionVars false
variable [Globs]
noncomputable def spPathPutI  : Spec := Spec.of (ι := T × (List Stp) × T) [false, false, false] (fun i => [.d (.agg i.1.enc), .d (.one (.row 3 (encS i.2.1))), .d (.agg i.2.2.enc)]) (fun i => i.1.fit 140737488355328 ∧ sizeT i.1 ≤ 1048577 ∧ wayFit i.2.1 ∧ i.2.2.fit 140737488355328 ∧ sizeT i.2.2 ≤ 1048577) (fun i => [.d (.agg (optT (pathPutO i.1 i.2.1 i.2.2)).enc), .d (.one (.bool (decide ((pathPutO i.1 i.2.1 i.2.2).isSome = true))))]) (fun _ => [.gone, .gone, .gone])
theorem spPathPutI_inj : ∀ i j : T × (List Stp) × T, (fun (i : T × (List Stp) × T) => ([.d (.agg i.1.enc), .d (.one (.row 3 (encS i.2.1))), .d (.agg i.2.2.enc)] : List AV)) i = (fun (i : T × (List Stp) × T) => ([.d (.agg i.1.enc), .d (.one (.row 3 (encS i.2.1))), .d (.agg i.2.2.enc)] : List AV)) j → i = j := by
  rintro ⟨v, p, x⟩ ⟨v', p', x'⟩ h
  simp only [Prod.mk.injEq]
  simpa [strs_eq, T.enc_eq, encL_eq, F.enc_eq, encF_eq, Tk.enc_eq, encTk_eq, Gn.enc_eq, ints_eq, encS_eq] using h
theorem spPathPutI_md  : (spPathPutI).md = [false, false, false] := rfl
theorem spPathPutI_pre  (v : T) (p : List Stp) (x : T) : (spPathPutI).pre [.d (.agg v.enc), .d (.one (.row 3 (encS p))), .d (.agg x.enc)] = (v.fit 140737488355328 ∧ sizeT v ≤ 1048577 ∧ wayFit p ∧ x.fit 140737488355328 ∧ sizeT x ≤ 1048577) := Spec.of_pre' spPathPutI_inj (v, p, x)
theorem spPathPutI_alts  : (spPathPutI).alts = none := rfl
theorem spPathPutI_res  (v : T) (p : List Stp) (x : T) : (spPathPutI).res [.d (.agg v.enc), .d (.one (.row 3 (encS p))), .d (.agg x.enc)] = [.d (.agg (optT (pathPutO v p x)).enc), .d (.one (.bool (decide ((pathPutO v p x).isSome = true))))] := Spec.of_res spPathPutI_inj (v, p, x)
theorem spPathPutI_out  (v : T) (p : List Stp) (x : T) : (spPathPutI).out [.d (.agg v.enc), .d (.one (.row 3 (encS p))), .d (.agg x.enc)] = [.gone, .gone, .gone] := Spec.of_out spPathPutI_inj (v, p, x)
set_option maxHeartbeats 2000000 in
theorem PathPutI_sound : Sound Go.Proofs.Try.prog 6 spPathPutI := by
  refine sound_fam (GOK.cons (l := [(15, spPathOkI), (17, spPthPutT), (16, spTold)]) call_ValOkI valOkI_sound (GOK.cons call_PathOkI PathOkI_sound (GOK.cons call_pathPut pthPutT_sound (GOK.cons call_told told_sound GOK.nil)))) Go.Proofs.Try.func6 (c := Go.Proofs.Try.f6.body.getD .skip) rfl (n := 31) rfl chk_PathPutI rs_PathPutI (fun _ => by simp) ?_ ?_
  · exact spPathPutI_inj
  · rintro ⟨v, p, x⟩ ⟨h1, h2, h3, h4, h5⟩
    simp only at h1 h2 h3 h4 h5
    have f0 := T.enc_len v
    have fx := T.enc_len x
    by_cases c1 : okT v
    · have d1 : ((okI v 1 60).1 = true) = True := eq_true ((okI_iff _).2 c1)
      by_cases c2 : wayOk p
      · have d2 := eq_true c2
        by_cases c3 : okT x
        · have e := pathPutO_ok2 c1 c2 c3
          have d3 : ((okI x 1 60).1 = true) = True := eq_true ((okI_iff _).2 c3)
          have ot : okT (optT (wputO v p x)) := optT_ok fun y h => wputO_ok c3 h
          have w1 := toldT_wput (v := v) (p := p) c3
          have ft := T.enc_len (optT (wputO v p x))
          have g1 := T.fit_mono (B := 2000000) (by decide) (okT_fit ot)
          have ot' := eq_true ot
          simp only [x_PathPutI, rg, go_sem, seval, Prod.fst, f0, fx, ft, e, d1, d2, d3, w1, ot', spValOkI_md, spValOkI_pre, spValOkI_alts, spValOkI_res, spValOkI_out, spPathOkI_md, spPathOkI_pre, spPathOkI_alts, spPathOkI_res, spPathOkI_out, spPthPutT_md, spPthPutT_pre, spPthPutT_alts, spPthPutT_res, spPthPutT_out, spTold_md, spTold_pre, spTold_alts, spTold_res, spTold_out, decide_eq_true_eq, and_true]
          repeat' (first | with_reducible assumption | with_reducible refine And.intro ?_ ?_ | intro _)
          all_goals first | omega | assumption | exact c2.1 _ ‹_› | skip
        · have e := pathPutO_not (v := v) (p := p) (x := x) (fun h => c3 h.2.2)
          have d3 : ((okI x 1 60).1 = true) = False := eq_false (fun h => c3 ((okI_iff _).1 h))
          have w1 : optT none = T.zero := rfl
          have w2 : ((none : Option T).isSome = true) = False := by simp
          simp only [x_PathPutI, rg, go_sem, seval, Prod.fst, f0, fx, e, d1, d2, d3, w1, w2, spValOkI_md, spValOkI_pre, spValOkI_alts, spValOkI_res, spValOkI_out, spPathOkI_md, spPathOkI_pre, spPathOkI_alts, spPathOkI_res, spPathOkI_out, T.zero_enc]
          repeat' (first | with_reducible assumption | with_reducible refine And.intro ?_ ?_ | intro _)
          all_goals first | omega | assumption | skip
      · have e := pathPutO_not (v := v) (p := p) (x := x) (fun h => c2 h.2.1)
        have d2 := eq_false c2
        have w1 : optT none = T.zero := rfl
        have w2 : ((none : Option T).isSome = true) = False := by simp
        simp only [x_PathPutI, rg, go_sem, seval, Prod.fst, f0, fx, e, d1, d2, w1, w2, spValOkI_md, spValOkI_pre, spValOkI_alts, spValOkI_res, spValOkI_out, spPathOkI_md, spPathOkI_pre, spPathOkI_alts, spPathOkI_res, spPathOkI_out, T.zero_enc]
        repeat' (first | with_reducible assumption | with_reducible refine And.intro ?_ ?_ | intro _)
        all_goals first | omega | assumption | skip
    · have e := pathPutO_not (v := v) (p := p) (x := x) (fun h => c1 h.1)
      have d1 : ((okI v 1 60).1 = true) = False := eq_false (fun h => c1 ((okI_iff _).1 h))
      have w1 : optT none = T.zero := rfl
      have w2 : ((none : Option T).isSome = true) = False := by simp
      simp only [x_PathPutI, rg, go_sem, seval, Prod.fst, f0, fx, e, d1, w1, w2, spValOkI_md, spValOkI_pre, spValOkI_alts, spValOkI_res, spValOkI_out, spPathOkI_md, spPathOkI_pre, spPathOkI_alts, spPathOkI_res, spPathOkI_out, T.zero_enc]
      repeat' (first | with_reducible assumption | with_reducible refine And.intro ?_ ?_ | intro _)
      all_goals first | omega | assumption | skip
end Go.Proofs.Pw
/- What a law is told of a row of octets. -/
namespace Go.Proofs.Pw
def bytes (bs : List Int) : Prop := (∀ b ∈ bs, 0 ≤ b ∧ b ≤ 255) ∧ lenB 140737488355328 bs.length
end Go.Proofs.Pw
/- FnPath: the law, run. -/
set_option linter.unusedSimpArgs false
set_option maxRecDepth 20000
namespace Go.Proofs.Pw
set_option linter.unusedSectionVars false
variable [Globs]
end Go.Proofs.Pw
/- FnPathCat: the law, run. -/
set_option linter.unusedSimpArgs false
set_option maxRecDepth 20000
namespace Go.Proofs.Pw
set_option linter.unusedSectionVars false
variable [Globs]
def x_lawPC : X := (.seq (.reg [⟨some 4, none, .mv (.k (.c (.bool false)))⟩] none [0, 1]) (.seq (.seq (.reg [⟨some 21, none, .mv (.t 0)⟩, ⟨some 22, none, .len (.t 21) false⟩, ⟨some 23, none, .bin false .gtr (.t 22) (.k (.c (.int .i64 1048576)))⟩, ⟨some 24, none, .mv (.t 23)⟩, ⟨some 25, some (24, false), .mv (.t 1)⟩, ⟨some 26, some (24, false), .len (.t 25) false⟩, ⟨some 27, some (24, false), .bin false .gtr (.t 26) (.k (.c (.int .i64 1048576)))⟩, ⟨some 28, none, .pick (.t 24) (.k (.c (.bool true))) (.t 27)⟩] none [0, 1, 28]) (.cond (.t 28) (.seq (.reg [⟨some 4, none, .mv (.k (.c (.bool true)))⟩] none [4]) .ret) .skip)) (.seq (.reg [⟨some 30, none, .mv (.t 0)⟩, ⟨some 31, none, .callr 5 [(.t 30)]⟩, ⟨some 29, none, .mv (.t 31)⟩, ⟨some 32, none, .ext (.t 29) 0⟩, ⟨some 33, none, .ext (.t 29) 1⟩, ⟨some 34, none, .ext (.t 29) 2⟩, ⟨some 5, none, .alloc [(.c (.int .i64 0)), (.c (.int .i64 0)), (.c (.str ⟨#[]⟩)), (.z 1), (.z 5)]⟩, ⟨some 7, none, .alloc [(.c (.int .i64 0)), (.c (.int .i64 0)), (.c (.str ⟨#[]⟩)), (.z 1), (.z 5)]⟩, ⟨none, none, .st (.t 5) (.t 32) (some 5)⟩, ⟨some 6, none, .mv (.t 33)⟩, ⟨none, none, .st (.t 7) (.t 34) (some 5)⟩] none [1, 5, 6, 7]) (.seq (.reg [⟨some 36, none, .load (.t 5) (some 5)⟩, ⟨some 37, none, .mv (.t 6)⟩, ⟨some 38, none, .load (.t 7) (some 5)⟩, ⟨some 39, none, .call 6 [(.t 36), (.t 37), (.t 38)]⟩, ⟨some 35, none, .mv (.t 39)⟩, ⟨some 40, none, .ext (.t 35) 0⟩, ⟨some 41, none, .ext (.t 35) 1⟩, ⟨some 8, none, .alloc [(.c (.int .i64 0)), (.c (.int .i64 0)), (.c (.str ⟨#[]⟩)), (.z 1), (.z 5)]⟩, ⟨none, none, .st (.t 8) (.t 40) (some 5)⟩, ⟨some 9, none, .mv (.t 41)⟩] none [1, 5, 6, 7, 8, 9]) (.seq (.reg [⟨some 43, none, .load (.t 5) (some 5)⟩, ⟨some 44, none, .mv (.t 6)⟩, ⟨some 45, none, .load (.t 7) (some 5)⟩, ⟨some 46, none, .call 7 [(.t 43), (.t 44), (.t 45)]⟩, ⟨some 42, none, .mv (.t 46)⟩, ⟨some 47, none, .ext (.t 42) 0⟩, ⟨some 48, none, .ext (.t 42) 1⟩, ⟨some 10, none, .alloc [(.c (.int .i64 0)), (.c (.int .i64 0)), (.c (.str ⟨#[]⟩)), (.z 1), (.z 5)]⟩, ⟨none, none, .st (.t 10) (.t 47) (some 5)⟩, ⟨some 11, none, .mv (.t 48)⟩] none [1, 5, 6, 7, 8, 9, 10, 11]) (.seq (.seq (.reg [⟨some 49, none, .mv (.t 9)⟩, ⟨some 50, none, .mv (.t 11)⟩, ⟨some 51, none, .bin true .neq (.t 49) (.t 50)⟩, ⟨some 52, none, .mv (.t 51)⟩, ⟨some 53, some (52, false), .load (.t 8) (some 5)⟩, ⟨some 54, some (52, false), .load (.t 10) (some 5)⟩, ⟨some 55, some (52, false), .call 8 [(.t 53), (.t 54)]⟩, ⟨some 56, some (52, false), .not (.t 55)⟩, ⟨some 57, none, .pick (.t 52) (.k (.c (.bool true))) (.t 56)⟩, ⟨some 58, none, .mv (.t 57)⟩, ⟨some 59, some (58, false), .mv (.t 9)⟩, ⟨some 60, some (58, false), .not (.t 59)⟩, ⟨some 61, none, .pick (.t 58) (.k (.c (.bool true))) (.t 60)⟩] none [1, 5, 6, 7, 8, 9, 10, 11, 61]) (.cond (.t 61) (.seq (.reg [⟨some 62, none, .mv (.t 9)⟩, ⟨some 63, none, .mv (.t 11)⟩, ⟨some 64, none, .bin true .eql (.t 62) (.t 63)⟩, ⟨some 65, none, .mv (.t 64)⟩, ⟨some 66, some (65, true), .load (.t 8) (some 5)⟩, ⟨some 67, some (65, true), .load (.t 10) (some 5)⟩, ⟨some 68, some (65, true), .call 8 [(.t 66), (.t 67)]⟩, ⟨some 69, none, .pick (.t 65) (.t 68) (.k (.c (.bool false)))⟩, ⟨some 4, none, .mv (.t 69)⟩] none [4]) .ret) .skip)) (.seq (.reg [⟨some 70, none, .mv (.t 1)⟩, ⟨some 71, none, .len (.t 70) false⟩, ⟨some 72, none, .mv (.t 6)⟩, ⟨some 73, none, .len (.t 72) false⟩, ⟨some 74, none, .bin false .add (.t 73) (.k (.c (.int .i64 1)))⟩, ⟨some 75, none, .bin false .rem (.t 71) (.t 74)⟩, ⟨some 12, none, .mv (.t 75)⟩] none [5, 6, 7, 8, 12]) (.seq (.mix [⟨some 77, none, .load (.t 5) (some 5)⟩, ⟨some 78, none, .mv (.t 6)⟩, ⟨some 79, none, .mv (.t 12)⟩, ⟨some 80, none, .sub (.t 78) none (some (.t 79)) 3⟩, ⟨some 81, none, .call 9 [(.t 77), (.t 80)]⟩, ⟨some 76, none, .mv (.t 81)⟩, ⟨some 82, none, .ext (.t 76) 0⟩, ⟨some 83, none, .ext (.t 76) 1⟩, ⟨some 13, none, .alloc [(.c (.int .i64 0)), (.c (.int .i64 0)), (.c (.str ⟨#[]⟩)), (.z 1), (.z 5)]⟩, ⟨none, none, .st (.t 13) (.t 82) (some 5)⟩] [⟨some 14, none, .mv (.t 83)⟩] [[], [], [], [], [], [], [], [], [0, 1, 2, 3, 5, 6, 7], []] [5, 6, 7, 8, 12, 13, 14]) (.seq (.mix [⟨some 85, none, .load (.t 13) (some 5)⟩, ⟨some 86, none, .mv (.t 6)⟩, ⟨some 87, none, .mv (.t 12)⟩, ⟨some 88, none, .sub (.t 86) (some (.t 87)) none 3⟩, ⟨some 89, none, .load (.t 7) (some 5)⟩, ⟨some 90, none, .call 6 [(.t 85), (.t 88), (.t 89)]⟩, ⟨some 84, none, .mv (.t 90)⟩, ⟨some 91, none, .ext (.t 84) 0⟩, ⟨some 92, none, .ext (.t 84) 1⟩, ⟨some 15, none, .alloc [(.c (.int .i64 0)), (.c (.int .i64 0)), (.c (.str ⟨#[]⟩)), (.z 1), (.z 5)]⟩, ⟨none, none, .st (.t 15) (.t 91) (some 5)⟩] [⟨some 16, none, .mv (.t 92)⟩] [[], [], [], [], [], [], [], [], [], [0, 1, 2, 3, 4, 6, 7, 8], []] [5, 6, 7, 8, 12, 14, 15, 16]) (.seq (.mix [⟨some 94, none, .load (.t 5) (some 5)⟩, ⟨some 95, none, .mv (.t 6)⟩, ⟨some 96, none, .mv (.t 12)⟩, ⟨some 97, none, .sub (.t 95) none (some (.t 96)) 3⟩, ⟨some 98, none, .load (.t 15) (some 5)⟩, ⟨some 99, none, .call 6 [(.t 94), (.t 97), (.t 98)]⟩, ⟨some 93, none, .mv (.t 99)⟩, ⟨some 100, none, .ext (.t 93) 0⟩, ⟨some 101, none, .ext (.t 93) 1⟩, ⟨some 17, none, .alloc [(.c (.int .i64 0)), (.c (.int .i64 0)), (.c (.str ⟨#[]⟩)), (.z 1), (.z 5)]⟩, ⟨none, none, .st (.t 17) (.t 100) (some 5)⟩] [⟨some 18, none, .mv (.t 101)⟩] [[], [], [], [], [], [], [], [], [], [0, 1, 2, 3, 4, 6, 7, 8], []] [5, 7, 8, 14, 16, 17, 18]) (.seq (.reg [⟨some 103, none, .load (.t 5) (some 5)⟩, ⟨some 104, none, .load (.t 7) (some 5)⟩, ⟨some 105, none, .call 6 [(.t 103), (.k (.z 3)), (.t 104)]⟩, ⟨some 102, none, .mv (.t 105)⟩, ⟨some 106, none, .ext (.t 102) 0⟩, ⟨some 107, none, .ext (.t 102) 1⟩, ⟨some 19, none, .alloc [(.c (.int .i64 0)), (.c (.int .i64 0)), (.c (.str ⟨#[]⟩)), (.z 1), (.z 5)]⟩, ⟨none, none, .st (.t 19) (.t 106) (some 5)⟩, ⟨some 20, none, .mv (.t 107)⟩] none [7, 8, 14, 16, 17, 18, 19, 20]) (.seq (.reg [⟨some 108, none, .mv (.t 14)⟩, ⟨some 109, none, .mv (.t 108)⟩, ⟨some 110, some (109, true), .mv (.t 16)⟩, ⟨some 111, none, .pick (.t 109) (.t 110) (.k (.c (.bool false)))⟩, ⟨some 112, none, .mv (.t 111)⟩, ⟨some 113, some (112, true), .mv (.t 18)⟩, ⟨some 114, none, .pick (.t 112) (.t 113) (.k (.c (.bool false)))⟩, ⟨some 115, none, .mv (.t 114)⟩, ⟨some 116, some (115, true), .load (.t 17) (some 5)⟩, ⟨some 117, some (115, true), .load (.t 8) (some 5)⟩, ⟨some 118, some (115, true), .call 8 [(.t 116), (.t 117)]⟩, ⟨some 119, none, .pick (.t 115) (.t 118) (.k (.c (.bool false)))⟩, ⟨some 120, none, .mv (.t 119)⟩, ⟨some 121, some (120, true), .mv (.t 20)⟩, ⟨some 122, none, .pick (.t 120) (.t 121) (.k (.c (.bool false)))⟩, ⟨some 123, none, .mv (.t 122)⟩, ⟨some 124, some (123, true), .load (.t 19) (some 5)⟩, ⟨some 125, some (123, true), .load (.t 7) (some 5)⟩, ⟨some 126, some (123, true), .call 8 [(.t 124), (.t 125)]⟩, ⟨some 127, none, .pick (.t 123) (.t 126) (.k (.c (.bool false)))⟩, ⟨some 4, none, .mv (.t 127)⟩] none [4]) .ret))))))))))))
theorem chk_lawPC : chkX Go.Proofs.Try.prog 128 (Go.Proofs.Try.f3.body.getD .skip) x_lawPC = true := by kernel_rfl
theorem rs_lawPC : okRs Go.Proofs.Try.prog Go.Proofs.Try.f3.results.toList [.tmp 4] = true := by kernel_rfl
theorem encS_takeN (p : List Stp) (k : Nat) : (encS p).take k = encS (p.take k) := by simp [encS, List.map_take]
theorem encS_dropN (p : List Stp) (k : Nat) : (encS p).drop k = encS (p.drop k) := by simp [encS, List.map_drop]
theorem pathPut_cat {v x y : T} {p : List Stp} (h : pathPutO v p x = some y) (k : Nat) : ∃ a b, pathGetO v (p.take k) = some a ∧ pathPutO a (p.drop k) x = some b ∧ pathPutO v (p.take k) b = some y ∧ pathPutO v [] x = some x ∧ okT a ∧ okT b ∧ okT v ∧ okT x ∧ okT y := by
  unfold pathPutO at h
  split at h
  · rename_i hc
    obtain ⟨h1, h2, h3⟩ := hc
    have oy := wputO_ok h3 h
    have w1 : wayOk (p.take k) := ⟨fun s hs => h2.1 s (List.mem_of_mem_take hs), by have := h2.2; simp; omega⟩
    have w2 : wayOk (p.drop k) := ⟨fun s hs => h2.1 s (List.mem_of_mem_drop hs), by have := h2.2; simp; omega⟩
    have w0 : wayOk [] := ⟨by simp, by simp⟩
    rw [← List.take_append_drop k p, wput_cat] at h
    cases ha : wgetO v (p.take k) with
    | none => rw [ha] at h; cases h
    | some a =>
      rw [ha] at h
      simp only [Option.bind_some] at h
      cases hb : wputO a (p.drop k) x with
      | none => rw [hb] at h; cases h
      | some b =>
        rw [hb] at h
        simp only [Option.bind_some] at h
        have oa := wgetO_ok h1 ha
        have ob := wputO_ok h3 hb
        refine ⟨a, b, by rw [pathGetO_ok2 h1 w1]; exact ha, by rw [pathPutO_ok2 oa w2 h3]; exact hb, by rw [pathPutO_ok2 h1 w1 ob]; exact h, ?_, oa, ob, h1, h3, oy⟩
        rw [pathPutO_ok2 h1 w0 h3]; simp only [wputO]
  · cases h
noncomputable def spLawPC  : Spec := Spec.of (ι := (List Int) × (List Int)) [false, false] (fun i => [.d (.one (.row 1 (ints .u8 i.1))), .d (.one (.row 1 (ints .u8 i.2)))]) (fun i => bytes i.1 ∧ bytes i.2) (fun _ => [.d (.one (.bool true))]) (fun _ => [.gone, .gone])
theorem spLawPC_inj : ∀ i j : (List Int) × (List Int), (fun (i : (List Int) × (List Int)) => ([.d (.one (.row 1 (ints .u8 i.1))), .d (.one (.row 1 (ints .u8 i.2)))] : List AV)) i = (fun (i : (List Int) × (List Int)) => ([.d (.one (.row 1 (ints .u8 i.1))), .d (.one (.row 1 (ints .u8 i.2)))] : List AV)) j → i = j := by
  rintro ⟨a, b⟩ ⟨a', b'⟩ h
  simp only [Prod.mk.injEq]
  simpa [strs_eq, T.enc_eq, encL_eq, F.enc_eq, encF_eq, Tk.enc_eq, encTk_eq, Gn.enc_eq, ints_eq] using h
theorem spLawPC_pre  (a : List Int) (b : List Int) : (spLawPC).pre [.d (.one (.row 1 (ints .u8 a))), .d (.one (.row 1 (ints .u8 b)))] = (bytes a ∧ bytes b) := Spec.of_pre' spLawPC_inj (a, b)
theorem spLawPC_res  (a : List Int) (b : List Int) : (spLawPC).res [.d (.one (.row 1 (ints .u8 a))), .d (.one (.row 1 (ints .u8 b)))] = [.d (.one (.bool true))] := Spec.of_res spLawPC_inj (a, b)
set_option maxHeartbeats 4000000 in
theorem lawPC_sound : Sound Go.Proofs.Try.prog 3 spLawPC := by
  refine sound_fam (GOK.cons (l := [(7, spPathPut), (6, spPathPutI), (9, spPathGetI), (8, spSameIV)]) call_DrawPathPut DrawPathPut_sound (GOK.cons call_PathPut PathPut_sound (GOK.cons call_PathPutI PathPutI_sound (GOK.cons call_PathGetI PathGetI_sound (GOK.cons call_ValSameI sameIV_sound GOK.nil))))) Go.Proofs.Try.func3 (c := Go.Proofs.Try.f3.body.getD .skip) rfl (n := 128) rfl chk_lawPC rs_lawPC (fun _ => by simp) ?_ ?_
  · exact spLawPC_inj
  · rintro ⟨a, b⟩ ⟨h1, h2⟩
    simp only [bytes, lenB] at h1 h2
    simp only [x_lawPC, rg, go_sem, seval, Prod.fst, ints_len, T.enc_len, spDPath_md, spDPath_pre, ↓spDPath_all, spDPath_all]
    repeat' (first | with_reducible assumption | with_reducible refine And.intro ?_ ?_ | intro _)
    all_goals first | omega | skip
    · exact (h1.1 _ (by assumption)).1
    · exact (h1.1 _ (by assumption)).2
    · unfold lenB; omega
    rename_i k n s ks l w k2 n2 s2 ks2 l2 hd
    obtain ⟨hv, hw, hx⟩ := hd
    generalize hve : (T.mk k n s ks l) = v at *
    generalize hxe : (T.mk k2 n2 s2 ks2 l2) = x at *
    clear hve hxe
    have f1 := T.enc_len v
    have f2 := T.enc_len x
    have v2 : v.fit 140737488355328 := hv.fit
    have x2 : x.fit 140737488355328 := hx.fit
    have v3 := hv.2.1
    have x3 := hx.2.1
    have w2 : wayFit w := hw.fit (by omega)
    cases hp : pathPutO v w x with
    | none =>
      have w1 : (optT none).enc = T.zero.enc := rfl
      have w3 : ((none : Option T).isSome = true) = False := by simp
      have q1 := spSameIV_res T.zero T.zero
      have q2 := spSameIV_pre T.zero T.zero
      have q3 := spSameIV_out T.zero T.zero
      rw [T.zero_enc] at q1 q2 q3
      have fz : T.zero.fit 140737488355328 := T.fit_mono (by decide) (okT_fit okT_zero')
      simp only [rg, go_sem, seval, Prod.fst, f1, f2, hp, w1, w3, T.zero_enc, q1, q2, q3, spSameIV_md, spSameIV_alts, spPathPutI_md, spPathPutI_pre, spPathPutI_alts, spPathPutI_res, spPathPutI_out, spPathPut_md, spPathPut_pre, spPathPut_alts, spPathPut_res, spPathPut_out]
      repeat' (first | with_reducible assumption | with_reducible refine And.intro ?_ ?_ | intro _)
      all_goals first | omega | assumption | skip
    | some y =>
      have hk0 : 0 ≤ (b.length : Int).tmod ((w.length : Int) + 1) := Int.tmod_nonneg _ (by omega)
      have hk1 : (b.length : Int).tmod ((w.length : Int) + 1) < (w.length : Int) + 1 := Int.tmod_lt_of_pos _ (by omega)
      obtain ⟨kk, hkk⟩ : ∃ kk : Nat, (b.length : Int).tmod ((w.length : Int) + 1) = kk := ⟨((b.length : Int).tmod ((w.length : Int) + 1)).toNat, by omega⟩
      obtain ⟨a', b', e1, e2, e3, e4, oa, ob, ov, ox, oy⟩ := pathPut_cat hp kk
      have w1 : ∀ t : T, (optT (some t)).enc = t.enc := fun _ => rfl
      have w3 : ∀ t : T, ((some t).isSome = true) = True := fun t => by simp
      have wl := hw.1
      have t1 := encS_takeN w kk
      have t2 := encS_dropN w kk
      have fa := T.enc_len a'
      have fb := T.enc_len b'
      have fy := T.enc_len y
      have a2 : a'.fit 140737488355328 := T.fit_mono (by decide) (okT_fit oa)
      have b2 : b'.fit 140737488355328 := T.fit_mono (by decide) (okT_fit ob)
      have y2 : y.fit 140737488355328 := T.fit_mono (by decide) (okT_fit oy)
      have a3 := okT_size oa
      have b3 := okT_size ob
      have u1 : wayFit (w.take kk) := ⟨by have := w2.1; simp; omega, fun s hs => w2.2 s (List.mem_of_mem_take hs)⟩
      have u2 : wayFit (w.drop kk) := ⟨by have := w2.1; simp; omega, fun s hs => w2.2 s (List.mem_of_mem_drop hs)⟩
      have u3 : wayFit [] := ⟨by simp, by simp⟩
      have p1 := spPathPutI_pre v [] x
      have p2 := spPathPutI_res v [] x
      have p3 := spPathPutI_out v [] x
      have n3 : encS [] = [] := rfl
      rw [n3] at p1 p2 p3
      simp only [rg, go_sem, seval, Prod.fst, f1, f2, fa, fb, fy, hp, hkk, t1, t2, encS_take, p1, p2, p3, e1, e2, e3, e4, w1, w3, ints_len, encS_len, spPathPutI_md, spPathPutI_pre, spPathPutI_alts, spPathPutI_res, spPathPutI_out, spPathPut_md, spPathPut_pre, spPathPut_alts, spPathPut_res, spPathPut_out, spPathGetI_md, spPathGetI_pre, spPathGetI_alts, spPathGetI_res, spPathGetI_out, spSameIV_md, spSameIV_pre, spSameIV_alts, spSameIV_res, spSameIV_out]
      repeat' (first | with_reducible assumption | with_reducible refine And.intro ?_ ?_ | intro _)
      all_goals first | omega | with_reducible assumption | skip
end Go.Proofs.Pw
/- From what a law's arguments are told to be, to what is shown of its run. -/
namespace Go.Proofs.Pw
open Go.RowKit
set_option linter.unusedSectionVars false
/-- All blocks that are there. -/
def Old (w : World) (g : Nat) : Prop := g < w.heap.size
theorem cell_lt {w : World} {a : Addr} {v : Value} (h : w.cell? a = some v) : a.block < w.heap.size := by
  unfold World.cell? at h
  rcases Nat.lt_or_ge a.block w.heap.size with hlt | hge
  · exact hlt
  · rw [Array.getElem?_eq_none hge] at h; simp at h
theorem rep_ints {k : IntKind} {w : World} {a : Option Addr} {len cap : Nat} {zs : List Int}
    (h : (a = none ∧ len = 0 ∧ cap = 0 ∧ zs = []) ∨ ∃ x, a = some x ∧ len ≤ cap ∧ cap ≤ maxLen ∧ zs.length = cap ∧ (∀ i, i < zs.length → w.cell? (x.add i) = some (.int k (zs.getD i 0))) ∧ ∀ n ∈ zs, (Lit.int k n).wf = true) :
    Rep w (Old w) (.row 1 (ints k (zs.take len))) (.slice a len cap) ∧ (zs.take len).length = len ∧ ∀ n ∈ zs.take len, (Lit.int k n).wf = true := by
  rcases h with ⟨rfl, rfl, rfl, rfl⟩ | ⟨x, rfl, hl, hm, hz, hc, hw⟩
  · exact ⟨.nil .., rfl, by simp⟩
  · have hlen : (zs.take len).length = len := by simp; omega
    refine ⟨?_, hlen, fun n hn => hw n (List.mem_of_mem_take hn)⟩
    rcases Nat.eq_zero_or_pos len with h0 | h0
    · subst h0; exact .nil ..
    · have key : ∀ (i j : Nat) e c, (ints k (zs.take len))[i]? = some e → e[j]? = some c → j = 0 ∧ i < zs.length ∧ c = .int k (zs.getD i 0) := fun i j e c he hj => by
        simp only [ints, List.getElem?_map, Option.map_eq_some_iff] at he
        obtain ⟨n, hn, rfl⟩ := he
        rw [List.getElem?_take] at hn
        split at hn
        · cases j with
          | zero => simp at hj; subst hj; exact ⟨rfl, (List.getElem?_eq_some_iff.1 hn).1, by simp [hn]⟩
          | succ j => simp at hj
        · cases hn
      have hel : (ints k (zs.take len)).length = len := by rw [ints_len, hlen]
      have := Rep.row (w := w) (S := Old w) 1 (ints k (zs.take len)) x cap (fun i => .int k (zs.getD i 0)) (by omega) (by
        have := cell_lt (hc 0 (by omega)); rwa [add_block] at this) (fun i e he => by
          simp only [ints, List.getElem?_map, Option.map_eq_some_iff] at he
          obtain ⟨n, _, rfl⟩ := he; rfl) (fun i j e c he hj => by
          obtain ⟨rfl, h1, _⟩ := key i j e c he hj
          simpa using hc i h1) (fun i j e c he hj => by
          obtain ⟨rfl, h1, rfl⟩ := key i j e c he hj
          simpa using Rep.int k (zs.getD i 0))
      rwa [hel] at this
/-- A law that holds of what it is handed, run in whatever world. -/
theorem law_calls [Globs] {P : Program} {f : FuncId} {sp : Spec} (h : Sound P f sp) {args : List AV} (hp : sp.pre args) (ha : sp.alts = none) (hr : sp.res args = [.d (.one (.bool true))]) {W : World} {vs : List Value} (hG : Gl W (Old W))
    (hA : All3 (RepA W (Old W)) args vs (args.map fun _ => fun _ => False)) : Calls P f vs.toArray W fun e w' => e = .returned (.bool true) ∧ Below W.heap.size W w' := by
  refine (h args hp W (Old W) vs _ hG (fun _ h => h) (fun g hg => absurd hg Any_false) Apart_false hA).mono ?_
  rintro e w' ⟨r, o, hro, v, S', rfs, fps', rfl, g1, _, _, _, _, _, g8⟩
  obtain ⟨rfl, rfl⟩ := (Spec.may_none ha).1 hro
  rw [hr] at g1
  refine ⟨?_, ⟨g8.os, g8.tape, g8.output, g8.size, fun k hk => g8.block k hk Any_false⟩⟩
  cases rfs with
  | nil => exact absurd rfl g1.1
  | cons fp r => cases r with
    | nil =>
      obtain ⟨g1, _⟩ := g1
      cases g1; rfl
    | cons _ _ => exact absurd rfl g1.1
end Go.Proofs.Pw
/- Arguments with depth: what they read as, and that they read so still. -/
namespace Go.Proofs.Pw
open Go.RowKit Go.ChangeShapes Go.WideShapes
set_option linter.unusedSectionVars false
section
variable {H : Type} {enc : TypeId × Value → H} {P : Program} {W W' : World} {spare : Nat → Bool} {held : Bool}
theorem trodAll_below (hl : laidOutB P = true) (hb : Below W.heap.size W W') : ∀ {ts : List TypeId} {vs : List Value} {ds : List (DataW H)} {p : List MemPlace}, DataW.TrodAll enc P W 0 (fun _ => true) true ts vs ds p →
    (ts.all fun t => P.readableRec t && decide (t < P.types.size)) = true → (∀ x ∈ p, x.block < W.heap.size) → DataW.TrodAll enc P W' 0 (fun b => decide (b < W.heap.size)) true ts vs ds p := by
  intro ts
  induction ts with
  | nil =>
    intro vs ds p h _ _
    cases vs <;> cases ds <;> first | exact h | exact h.elim
  | cons t ts ih =>
    intro vs ds p h hr hp
    obtain ⟨v, vs', d, ds', p1, q, rfl, rfl, rfl, h1, h2⟩ := trodAll_cons h
    simp only [List.all_cons, Bool.and_eq_true, decide_eq_true_eq] at hr
    exact ⟨p1, q, Below.trod hl hr.1.1 hr.1.2 h1 hb (fun x hx => hp x (by simp [hx])), ih h2 hr.2 (fun x hx => hp x (by simp [hx])), rfl⟩
theorem trodVars_below (hl : laidOutB P = true) (hb : Below W.heap.size W W') : ∀ {ns : List String} {gs : List (DataW H)} {p : List MemPlace}, DataW.TrodVars enc P W (fun _ => true) ns gs p →
    (ns.all fun n => match P.globalNamed n with | some g => (match P.globals[g]? with | some x => P.readableRec x.type && decide (x.type < P.types.size) | none => false) | none => false) = true → (∀ x ∈ p, x.block < W.heap.size) →
    DataW.TrodVars enc P W' (fun b => decide (b < W.heap.size)) ns gs p := by
  intro ns
  induction ns with
  | nil =>
    intro gs p h _ _
    cases gs <;> first | exact h | exact h.elim
  | cons n ns ih =>
    intro gs p h hr hp
    cases gs with
    | nil => exact h.elim
    | cons d gs =>
      obtain ⟨g, t, cs, fuel, p1, q, hg, ht, hv, hd, h2, rfl⟩ := h
      simp only [List.all_cons, Bool.and_eq_true, hg] at hr
      obtain ⟨hr2, hr3⟩ := hr
      have hr1 : g < W.heap.size := by
        unfold World.var? at hv
        simp only [hg, Option.bind_some] at hv
        split at hv
        · rename_i h1; exact (Array.getElem?_eq_some_iff.1 h1).1
        · cases hv
      simp only [Option.map_eq_some_iff] at ht
      obtain ⟨x, hx, rfl⟩ := ht
      simp only [hx, Bool.and_eq_true, decide_eq_true_eq] at hr2
      have hk : DataW.Trod enc P W 0 (fun _ => true) true x.type (.agg cs) d p1 := ⟨fuel, hd⟩
      obtain ⟨fuel', hd'⟩ := Below.trod hl hr2.1 hr2.2 hk hb (fun y hy => hp y (by simp [hy]))
      exact ⟨g, x.type, cs, fuel', p1, q, hg, by rw [hx]; rfl, var?_below hb hg hr1 hv, hd', ih h2 hr3 (fun y hy => hp y (by simp [hy])), rfl⟩
/-- What is left behind a law that gives true, and has turned nothing that was there. -/
theorem law_post {f : Func} {s : ChangeSpec} {args : Array Value} {ds gs : List (DataW H)} {before : List MemPlace} {rt : TypeId} (hl : laidOutB P = true)
    (hW : DataW.Whole enc P f.params.toList s.vars false W args.toList ds gs before) (hrt : f.resultTypes.toList = [rt]) (hrb : P.underlying rt = some .bool) (hsz : f.resultTypes.size = 1)
    (hfn : s.fn H (ds ++ gs) = { results := [.lit (.bool true)], args := ds, vars := gs })
    (hp : (f.params.toList.all fun t => P.readableRec t && decide (t < P.types.size)) = true)
    (hv : (s.vars.all fun n => match P.globalNamed n with | some g => (match P.globals[g]? with | some x => P.readableRec x.type && decide (x.type < P.types.size) | none => false) | none => false) = true)
    (hb : Below W.heap.size W W') : s.post enc P f false true false false W args (.bool true) W' := by
  have hlt := hW.lt
  have hW' := hW
  obtain ⟨p, q, hA, hV, rfl, hfz, hnd⟩ := hW
  refine ⟨ds, gs, _, [], p, q, hW', ?_, ?_, ?_, hb.frame _, fun h => by cases h⟩
  · rw [hfn, hrt, hsz]
    exact trodAll_mk1 (shut_bool hrb _)
  · rw [hfn]; exact trodAll_below hl hb hA hp (fun x hx => hlt x (by simp [hx]))
  · rw [hfn]; exact trodVars_below hl hb hV hv (fun x hx => hlt x (by simp [hx]))
end
end Go.Proofs.Pw
/- A row of octets handed over. -/
namespace Go.Proofs.Pw
open Go.RowKit Go.ChangeShapes Go.WideShapes
set_option linter.unusedSectionVars false
section
variable {H : Type} {enc : TypeId × Value → H} {P : Program} {W : World}
theorem wf_u8 {n : Int} (h : (Lit.int .u8 n).wf = true) : 0 ≤ n ∧ n ≤ 255 := by
  simp only [Lit.wf, Bool.and_eq_true, decide_eq_true_eq] at h
  simp only [IntKind.min, IntKind.max, IntKind.signed, IntKind.bits] at h
  simp at h; omega
theorem read_bytes {held : Bool} {r : Reach} {base : Nat} {ts : List TypeId} {ds : List (DataW H)} {j : Nat} {t e : TypeId} {v : Value} {d : DataW H} {p : List MemPlace} (hu : P.underlying t = some (.slice e)) (he : P.underlying e = some (.int .u8)) (hc : P.cellsOf e = 1) (hby : 0 < P.bytesOf e)
    (hval : Value.okWide P W r base t v) (h : DataW.Trod enc P W 0 (fun _ => true) held t v d p) (hz : (DataW.weightsEach P ts ds).all (· ≤ reachBytes) = true) (ht : ts[j]? = some t) (hd : ds[j]? = some d) :
    ∃ l : List Int, RepA W (Old W) (.d (.one (.row 1 (ints .u8 l)))) v (fun _ => False) ∧ bytes l := by
  obtain ⟨a, len, cap, rfl⟩ := okWide_slice hu hval
  obtain ⟨fuel, h⟩ := h
  rcases open_ints hu he hc h with ⟨h1, h2⟩ | ⟨x, l, c, zs, hcs, _, hl, hm, hz', hx, hcell, hwz⟩
  · simp only [Value.cells, List.cons.injEq, and_true] at h1
    cases h1
    refine ⟨[], ⟨.nil .., fun _ h => h⟩, by simp, by unfold lenB; simp⟩
  · simp only [Value.cells, List.cons.injEq, and_true] at hcs
    cases hcs
    simp only [Prod.mk.injEq] at hx
    obtain ⟨rfl, rfl⟩ := hx
    obtain ⟨k1, k2, k3⟩ := rep_ints (k := .u8) (w := W) (a := some x) (len := len) (cap := cap) (zs := zs) (.inr ⟨x, rfl, hl, hm, by simpa using hz', hcell, hwz⟩)
    refine ⟨zs.take len, ⟨k1, fun _ h => h⟩, fun b hb => wf_u8 (k3 b hb), ?_⟩
    have k4 := sized_slice hz ht hd hu
    have k5 : (lits (H := H) .u8 (zs.take len)).length ≤ reachBytes := by
      refine Nat.le_trans (Nat.le_trans (Nat.le_add_right _ (lits (H := H) .u8 (zs.drop len)).length) ?_) k4
      exact Nat.le_mul_of_pos_right _ hby
    have := reachBytes_lt
    simp only [lits, List.length_map] at k5
    unfold lenB; omega
end
end Go.Proofs.Pw
