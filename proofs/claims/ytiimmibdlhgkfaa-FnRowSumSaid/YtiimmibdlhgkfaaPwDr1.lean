/- Drawing: numbers, items of a list, trees without parts. -/
import Derived.Test.YtiimmibdlhgkfaaPwD
import Derived.Test.YtiimmibdlhgkfaaProg
import Derived.KernelRfl
set_option linter.unusedSimpArgs false
set_option linter.unusedVariables false
set_option linter.unusedSimpArgs false
set_option maxRecDepth 20000
namespace Go.Proofs.Pw
set_option linter.unusedSectionVars false
variable [Globs]
def x_pick : X := (.seq (.reg [⟨some 4, none, .mv (.k (.c (.int .i64 0)))⟩] none [0, 1]) (.seq (.reg [⟨some 7, none, .mv (.t 0)⟩, ⟨some 8, none, .mv (.t 0)⟩, ⟨some 9, none, .nilc (.t 8)⟩, ⟨some 10, none, .fa (.t 9) 1⟩, ⟨some 11, none, .load (.t 10) none⟩, ⟨some 12, none, .bin false .add (.t 11) (.k (.c (.int .i64 1)))⟩, ⟨some 13, none, .nilc (.t 7)⟩, ⟨some 14, none, .fa (.t 13) 1⟩, ⟨none, none, .st (.t 14) (.t 12) none⟩] none [0, 1]) (.seq (.seq (.reg [⟨some 15, none, .mv (.t 1)⟩, ⟨some 16, none, .bin false .lss (.t 15) (.k (.c (.int .i64 1)))⟩, ⟨some 17, none, .mv (.t 16)⟩, ⟨some 18, some (17, false), .mv (.t 0)⟩, ⟨some 19, some (17, false), .nilc (.t 18)⟩, ⟨some 20, some (17, false), .fa (.t 19) 0⟩, ⟨some 21, some (17, false), .load (.t 20) none⟩, ⟨some 22, some (17, false), .len (.t 21) false⟩, ⟨some 23, some (17, false), .bin false .eql (.t 22) (.k (.c (.int .i64 0)))⟩, ⟨some 24, none, .pick (.t 17) (.k (.c (.bool true))) (.t 23)⟩] none [0, 1, 24]) (.cond (.t 24) (.seq (.reg [⟨some 4, none, .mv (.k (.c (.int .i64 0)))⟩] none [4]) .ret) .skip)) (.seq (.reg [⟨some 25, none, .mv (.t 0)⟩, ⟨some 26, none, .nilc (.t 25)⟩, ⟨some 27, none, .fa (.t 26) 1⟩, ⟨some 28, none, .load (.t 27) none⟩, ⟨some 29, none, .bin false .sub (.t 28) (.k (.c (.int .i64 1)))⟩, ⟨some 5, none, .mv (.t 29)⟩] none [0, 1, 5]) (.seq (.seq (.reg [⟨some 30, none, .mv (.t 5)⟩, ⟨some 31, none, .mv (.t 0)⟩, ⟨some 32, none, .nilc (.t 31)⟩, ⟨some 33, none, .fa (.t 32) 0⟩, ⟨some 34, none, .load (.t 33) none⟩, ⟨some 35, none, .len (.t 34) false⟩, ⟨some 36, none, .bin false .lss (.t 30) (.t 35)⟩] none [0, 1, 5, 36]) (.cond (.t 36) (.seq (.reg [⟨some 37, none, .mv (.t 0)⟩, ⟨some 38, none, .nilc (.t 37)⟩, ⟨some 39, none, .fa (.t 38) 0⟩, ⟨some 40, none, .load (.t 39) none⟩, ⟨some 41, none, .mv (.t 5)⟩, ⟨some 42, none, .ia (.t 40) (.t 41) 1⟩, ⟨some 43, none, .load (.t 42) none⟩, ⟨some 44, none, .conv .i64 (.t 43)⟩, ⟨some 45, none, .mv (.t 1)⟩, ⟨some 46, none, .bin false .rem (.t 44) (.t 45)⟩, ⟨some 4, none, .mv (.t 46)⟩] none [4]) .ret) .skip)) (.seq (.reg [⟨some 47, none, .mv (.t 0)⟩, ⟨some 48, none, .nilc (.t 47)⟩, ⟨some 49, none, .fa (.t 48) 0⟩, ⟨some 50, none, .load (.t 49) none⟩, ⟨some 51, none, .mv (.t 5)⟩, ⟨some 52, none, .mv (.t 0)⟩, ⟨some 53, none, .nilc (.t 52)⟩, ⟨some 54, none, .fa (.t 53) 0⟩, ⟨some 55, none, .load (.t 54) none⟩, ⟨some 56, none, .len (.t 55) false⟩, ⟨some 57, none, .bin false .rem (.t 51) (.t 56)⟩, ⟨some 58, none, .ia (.t 50) (.t 57) 1⟩, ⟨some 59, none, .load (.t 58) none⟩, ⟨some 60, none, .conv .i64 (.t 59)⟩, ⟨some 61, none, .bin false .mul (.t 60) (.k (.c (.int .i64 131)))⟩, ⟨some 62, none, .mv (.t 0)⟩, ⟨some 63, none, .nilc (.t 62)⟩, ⟨some 64, none, .fa (.t 63) 0⟩, ⟨some 65, none, .load (.t 64) none⟩, ⟨some 66, none, .mv (.t 5)⟩, ⟨some 67, none, .bin false .mul (.t 66) (.k (.c (.int .i64 7)))⟩, ⟨some 68, none, .bin false .add (.t 67) (.k (.c (.int .i64 3)))⟩, ⟨some 69, none, .mv (.t 0)⟩, ⟨some 70, none, .nilc (.t 69)⟩, ⟨some 71, none, .fa (.t 70) 0⟩, ⟨some 72, none, .load (.t 71) none⟩, ⟨some 73, none, .len (.t 72) false⟩, ⟨some 74, none, .bin false .rem (.t 68) (.t 73)⟩, ⟨some 75, none, .ia (.t 65) (.t 74) 1⟩, ⟨some 76, none, .load (.t 75) none⟩, ⟨some 77, none, .conv .i64 (.t 76)⟩, ⟨some 78, none, .bin false .mul (.t 77) (.k (.c (.int .i64 1117)))⟩, ⟨some 79, none, .bin false .add (.t 61) (.t 78)⟩, ⟨some 80, none, .mv (.t 5)⟩, ⟨some 81, none, .bin false .mul (.t 80) (.k (.c (.int .i64 29)))⟩, ⟨some 82, none, .bin false .add (.t 79) (.t 81)⟩, ⟨some 83, none, .mv (.t 5)⟩, ⟨some 84, none, .mv (.t 0)⟩, ⟨some 85, none, .nilc (.t 84)⟩, ⟨some 86, none, .fa (.t 85) 0⟩, ⟨some 87, none, .load (.t 86) none⟩, ⟨some 88, none, .len (.t 87) false⟩, ⟨some 89, none, .bin false .quo (.t 83) (.t 88)⟩, ⟨some 90, none, .bin false .mul (.t 89) (.k (.c (.int .i64 53)))⟩, ⟨some 91, none, .bin false .add (.t 82) (.t 90)⟩, ⟨some 6, none, .mv (.t 91)⟩] (some 44) [1, 6]) (.seq (.reg [⟨some 92, none, .mv (.t 6)⟩, ⟨some 93, none, .mv (.t 6)⟩, ⟨some 94, none, .bin false .quo (.t 93) (.k (.c (.int .i64 64)))⟩, ⟨some 95, none, .bin false .xor (.t 92) (.t 94)⟩, ⟨some 6, none, .mv (.t 95)⟩] none [1, 6]) (.seq (.reg [⟨some 96, none, .mv (.t 6)⟩, ⟨some 97, none, .mv (.t 1)⟩, ⟨some 98, none, .bin false .rem (.t 96) (.t 97)⟩, ⟨some 4, none, .mv (.t 98)⟩] none [4]) .ret))))))))
theorem chk_pick : chkX Go.Proofs.Try.prog 99 (Go.Proofs.Try.f69.body.getD .skip) x_pick = true := by kernel_rfl
theorem rs_pick : okRs Go.Proofs.Try.prog Go.Proofs.Try.f69.results.toList [.tmp 4] = true := by kernel_rfl
theorem call_pick : okCallee Go.Proofs.Try.prog 69 = true := by kernel_rfl
def x_dof : X := (.seq (.reg [⟨some 4, none, .mv (.k (.c (.str ⟨#[]⟩)))⟩] none [0, 1]) (.seq (.reg [⟨some 5, none, .mv (.t 1)⟩, ⟨some 6, none, .mv (.t 0)⟩, ⟨some 7, none, .mv (.t 1)⟩, ⟨some 8, none, .len (.t 7) false⟩, ⟨some 9, none, .callr 69 [(.t 6), (.t 8)]⟩, ⟨some 10, none, .ia (.t 5) (.t 9) 1⟩, ⟨some 11, none, .load (.t 10) none⟩, ⟨some 4, none, .mv (.t 11)⟩] none [4]) .ret))
theorem chk_dof : chkX Go.Proofs.Try.prog 12 (Go.Proofs.Try.f85.body.getD .skip) x_dof = true := by kernel_rfl
theorem rs_dof : okRs Go.Proofs.Try.prog Go.Proofs.Try.f85.results.toList [.tmp 4] = true := by kernel_rfl
theorem call_dof : okCallee Go.Proofs.Try.prog 85 = true := by kernel_rfl
def x_dnum : X := (.seq (.reg [⟨some 4, none, .mv (.k (.c (.int .i64 0)))⟩] none [0, 1]) (.seq (.reg [⟨some 5, none, .mv (.t 1)⟩, ⟨some 6, none, .mv (.t 0)⟩, ⟨some 7, none, .mv (.t 1)⟩, ⟨some 8, none, .len (.t 7) false⟩, ⟨some 9, none, .callr 69 [(.t 6), (.t 8)]⟩, ⟨some 10, none, .ia (.t 5) (.t 9) 1⟩, ⟨some 11, none, .load (.t 10) none⟩, ⟨some 4, none, .mv (.t 11)⟩] none [4]) .ret))
theorem chk_dnum : chkX Go.Proofs.Try.prog 12 (Go.Proofs.Try.f113.body.getD .skip) x_dnum = true := by kernel_rfl
theorem rs_dnum : okRs Go.Proofs.Try.prog Go.Proofs.Try.f113.results.toList [.tmp 4] = true := by kernel_rfl
theorem call_dnum : okCallee Go.Proofs.Try.prog 113 = true := by kernel_rfl
def x_l1Leaf : X := (.seq (.reg [⟨some 2, none, .alloc [(.c (.int .i64 0)), (.c (.int .i64 0)), (.c (.str ⟨#[]⟩)), (.z 1), (.z 5)]⟩] none [0, 2]) (.seq (.seq (.reg [⟨some 3, none, .mv (.t 0)⟩, ⟨some 4, none, .callr 69 [(.t 3), (.k (.c (.int .i64 8)))]⟩] none [0, 2, 4]) (.block 0 (.seq (.reg [⟨some 6, none, .bin false .eql (.t 4) (.k (.c (.int .i64 0)))⟩, ⟨some 5, none, .mv (.t 6)⟩] none [0, 2, 4, 5]) (.cond (.t 5) (.seq (.reg [⟨some 7, none, .mv (.t 0)⟩, ⟨some 8, none, .callr 69 [(.t 7), (.k (.c (.int .i64 3)))]⟩, ⟨some 9, none, .build [(.c (.int .i64 0)), (.c (.int .i64 0)), (.c (.str ⟨#[]⟩)), (.z 1), (.z 5)] [(0, (.t 8), none)]⟩, ⟨none, none, .st (.t 2) (.t 9) (some 5)⟩] none [2]) .ret) (.seq (.seq (.reg [⟨some 11, none, .bin false .eql (.t 4) (.k (.c (.int .i64 1)))⟩, ⟨some 10, none, .mv (.t 11)⟩] none [0, 2, 4, 10]) (.cond (.t 10) .skip (.reg [⟨some 12, none, .bin false .eql (.t 4) (.k (.c (.int .i64 2)))⟩, ⟨some 10, none, .mv (.t 12)⟩] none [0, 2, 4, 10]))) (.cond (.t 10) (.seq (.reg [⟨some 13, none, .mv (.t 0)⟩, ⟨some 14, none, .bsl 1 [((.k (.c (.str ⟨#[]⟩))), none), ((.k (.c (.str ⟨#[97]⟩))), none), ((.k (.c (.str ⟨#[98]⟩))), none), ((.k (.c (.str ⟨#[97, 98]⟩))), none), ((.k (.c (.str ⟨#[122, 122]⟩))), none), ((.k (.c (.str ⟨#[97, 98, 99, 100, 101, 102, 103, 104, 105, 106, 107, 108]⟩))), none)]⟩, ⟨some 15, none, .callr 85 [(.t 13), (.t 14)]⟩, ⟨some 16, none, .build [(.c (.int .i64 0)), (.c (.int .i64 0)), (.c (.str ⟨#[]⟩)), (.z 1), (.z 5)] [(0, (.k (.c (.int .i64 4))), none), (2, (.t 15), none)]⟩, ⟨none, none, .st (.t 2) (.t 16) (some 5)⟩] none [2]) .ret) (.seq (.reg [⟨some 18, none, .bin false .eql (.t 4) (.k (.c (.int .i64 3)))⟩, ⟨some 17, none, .mv (.t 18)⟩] none [0, 2, 17]) (.cond (.t 17) (.seq (.reg [⟨some 19, none, .mv (.t 0)⟩, ⟨some 20, none, .callr 69 [(.t 19), (.k (.c (.int .i64 2)))]⟩, ⟨some 21, none, .bin false .add (.k (.c (.int .i64 5))) (.t 20)⟩, ⟨some 22, none, .build [(.c (.int .i64 0)), (.c (.int .i64 0)), (.c (.str ⟨#[]⟩)), (.z 1), (.z 5)] [(0, (.t 21), none)]⟩, ⟨none, none, .st (.t 2) (.t 22) (some 5)⟩] none [2]) .ret) .skip)))))))) (.seq (.reg [⟨some 23, none, .mv (.t 0)⟩, ⟨some 24, none, .bsl 1 [((.k (.c (.int .i64 0))), none), ((.k (.c (.int .i64 1))), none), ((.k (.c (.int .i64 2))), none), ((.k (.c (.int .i64 3))), none), ((.k (.c (.int .i64 (-1)))), none), ((.k (.c (.int .i64 7))), none), ((.k (.c (.int .i64 1000000))), none)]⟩, ⟨some 25, none, .callr 113 [(.t 23), (.t 24)]⟩, ⟨some 26, none, .build [(.c (.int .i64 0)), (.c (.int .i64 0)), (.c (.str ⟨#[]⟩)), (.z 1), (.z 5)] [(0, (.k (.c (.int .i64 3))), none), (1, (.t 25), none)]⟩, ⟨none, none, .st (.t 2) (.t 26) (some 5)⟩] none [2]) .ret)))
theorem chk_l1Leaf : chkX Go.Proofs.Try.prog 27 (Go.Proofs.Try.f84.body.getD .skip) x_l1Leaf = true := by kernel_rfl
theorem rs_l1Leaf : okRs Go.Proofs.Try.prog Go.Proofs.Try.f84.results.toList [.cell 2 (some 5)] = true := by kernel_rfl
theorem call_l1Leaf : okCallee Go.Proofs.Try.prog 84 = true := by kernel_rfl
def spPick  : Spec := Spec.ofR (ι := (List Int) × Int × Int) (κ := Int) [true, false] (fun i => [.ref (rdC i.1 i.2.1), .d (.one (.int .i64 i.2.2))]) (fun i => byt i.1 ∧ 0 ≤ i.2.1 ∧ i.2.1 ≤ 1099511627776 ∧ i.2.2 ≤ 1000000) (fun i k => 0 ≤ k ∧ (1 ≤ i.2.2 → k < i.2.2) ∧ (i.2.2 < 1 → k = 0)) (fun i k => [.d (.one (.int .i64 k))]) (fun i k => [.ref (rdC i.1 (i.2.1 + 1)), .gone])
theorem spPick_inj : ∀ i j : (List Int) × Int × Int, (fun (i : (List Int) × Int × Int) => ([.ref (rdC i.1 i.2.1), .d (.one (.int .i64 i.2.2))] : List AV)) i = (fun (i : (List Int) × Int × Int) => ([.ref (rdC i.1 i.2.1), .d (.one (.int .i64 i.2.2))] : List AV)) j → i = j := by
  rintro ⟨bs, p, n⟩ ⟨bs', p', n'⟩ h
  simp only [Prod.mk.injEq]
  simpa [strs_eq, T.enc_eq, encL_eq, F.enc_eq, encF_eq, Tk.enc_eq, encTk_eq, Gn.enc_eq, ints_eq, rdC_eq, and_assoc] using h
theorem spPick_md  : (spPick).md = [true, false] := rfl
theorem spPick_pre  (bs : List Int) (p : Int) (n : Int) : (spPick).pre [.ref (rdC bs p), .d (.one (.int .i64 n))] = (byt bs ∧ 0 ≤ p ∧ p ≤ 1099511627776 ∧ n ≤ 1000000) := Spec.ofR_pre spPick_inj (bs, p, n)
theorem spPick_ne0  (bs : List Int) (p : Int) (n : Int) : (spPick).ne [.ref (rdC bs p), .d (.one (.int .i64 n))] = (∃ k : Int, 0 ≤ k ∧ (1 ≤ n → k < n) ∧ (n < 1 → k = 0)) := Spec.ofR_ne spPick_inj (bs, p, n)
theorem spPick_all  (bs : List Int) (p : Int) (n : Int) (F : List AV → List AV → Prop) : (spPick).all [.ref (rdC bs p), .d (.one (.int .i64 n))] F = (∀ (m : Int), (0 ≤ m ∧ (1 ≤ n → m < n) ∧ (n < 1 → m = 0)) → F [.d (.one (.int .i64 m))] [.ref (rdC bs (p + 1)), .gone]) := by
  refine (Spec.ofR_all spPick_inj (bs, p, n) F).trans (propext ⟨fun h m hr => h m hr, fun h k hr => ?_⟩)
  exact h k hr
theorem spPick_ne (bs : List Int) (p n : Int) : spPick.ne [.ref (rdC bs p), .d (.one (.int .i64 n))] = True := by
  rw [spPick_ne0]
  exact eq_true ⟨0, by omega⟩
set_option maxHeartbeats 2000000 in
theorem pick_sound : Sound Go.Proofs.Try.prog 69 spPick := by
  refine sound_famR GOK.nil Go.Proofs.Try.func69 (c := Go.Proofs.Try.f69.body.getD .skip) rfl (n := 99) rfl chk_pick rs_pick (fun _ => by simp) ?_
  · rintro ⟨bs, p, n⟩ ⟨hb, h1, h2, h3⟩
    change byt bs at hb
    have hl := hb.2
    simp only at h1 h2 h3
    have hm : ∀ x : Int, 0 ≤ x → ¬ n < 1 → 0 ≤ x.tmod n ∧ x.tmod n < n := fun x hx hn => ⟨Int.tmod_nonneg n hx, Int.tmod_lt_of_pos x (by omega)⟩
    by_cases c1 : n < 1
    · have a1 : (n < 1) = True := eq_true c1
      simp only [x_pick, rdC, rg, seval, ints_len, a1]
      repeat' (first | with_reducible assumption | with_reducible refine And.intro ?_ ?_ | intro _)
      all_goals first | omega | exact ⟨0, by omega, rfl⟩
    · have a1 : (n < 1) = False := eq_false c1
      by_cases c2 : bs.length = 0
      · have a2 : ((bs.length : Int) = 0) = True := by simp [c2]
        simp only [x_pick, rdC, rg, seval, ints_len, a1, a2]
        repeat' (first | with_reducible assumption | with_reducible refine And.intro ?_ ?_ | intro _)
        all_goals first | omega | exact ⟨0, by omega, rfl⟩
      · have a2 : ((bs.length : Int) = 0) = False := by simp; intro h; exact c2 (by simp [h])
        have a3 : p + 1 - 1 = p := by omega
        by_cases c3 : p < bs.length
        · have a4 : (p < (bs.length : Int)) = True := eq_true c3
          obtain ⟨b, _, a5, b1, b2⟩ := byt_at hb (i := p.toNat) (by omega)
          simp only [x_pick, rdC, rg, seval, ints_len, a1, a2, a3, a4, a5]
          repeat' (first | with_reducible assumption | with_reducible refine And.intro ?_ ?_ | intro _)
          all_goals first | omega | skip
          have := hm b b1 c1
          exact ⟨b.tmod n, by omega, rfl⟩
        · have a4 : (p < (bs.length : Int)) = False := eq_false c3
          have hL : 0 < (bs.length : Int) := by omega
          have d1 := Int.tmod_nonneg (bs.length : Int) h1
          have d2 := Int.tmod_lt_of_pos p hL
          have d3 := Int.tmod_nonneg (bs.length : Int) (show 0 ≤ p * 7 + 3 by omega)
          have d4 := Int.tmod_lt_of_pos (p * 7 + 3) hL
          have d5 : 0 ≤ p.tdiv bs.length := Int.tdiv_nonneg h1 (by omega)
          have d6 : p.tdiv bs.length ≤ p := by
            rw [Int.tdiv_eq_ediv_of_nonneg h1]
            exact Int.ediv_le_self _ h1
          obtain ⟨b, _, a5, b1, b2⟩ := byt_at hb (i := (p.tmod bs.length).toNat) (by omega)
          obtain ⟨c, _, a6, c5, c6⟩ := byt_at hb (i := ((p * 7 + 3).tmod bs.length).toNat) (by omega)
          have d7 : 0 ≤ (b * 131 + c * 1117 + p * 29 + p.tdiv bs.length * 53).tdiv 64 := Int.tdiv_nonneg (by omega) (by omega)
          have d8 : (b * 131 + c * 1117 + p * 29 + p.tdiv bs.length * 53).tdiv 64 ≤ b * 131 + c * 1117 + p * 29 + p.tdiv bs.length * 53 := by
            rw [Int.tdiv_eq_ediv_of_nonneg (by omega)]
            exact Int.ediv_le_self _ (by omega)
          simp only [x_pick, rdC, rg, seval, ints_len, a1, a2, a3, a4, a5, a6]
          repeat' (first | with_reducible assumption | with_reducible refine And.intro ?_ ?_ | intro _)
          all_goals first | omega | skip
          have := hm (((b * 131 + c * 1117 + p * 29 + p.tdiv bs.length * 53).toNat ^^^ ((b * 131 + c * 1117 + p * 29 + p.tdiv bs.length * 53).tdiv 64).toNat : Nat) : Int) (by omega) c1
          exact ⟨_, ⟨this.1, fun _ => this.2⟩, rfl⟩
def spDof  : Spec := Spec.ofR (ι := (List Int) × Int × (List ByteArray)) (κ := ByteArray) [true, false] (fun i => [.ref (rdC i.1 i.2.1), .d (.one (.row 1 (strs i.2.2)))]) (fun i => byt i.1 ∧ 0 ≤ i.2.1 ∧ i.2.1 ≤ 1099511627776 ∧ 1 ≤ i.2.2.length ∧ i.2.2.length ≤ 1000) (fun i k => k ∈ i.2.2 ∨ i.2.2 = []) (fun i k => [.d (.one (.str k))]) (fun i k => [.ref (rdC i.1 (i.2.1 + 1)), .gone])
theorem spDof_inj : ∀ i j : (List Int) × Int × (List ByteArray), (fun (i : (List Int) × Int × (List ByteArray)) => ([.ref (rdC i.1 i.2.1), .d (.one (.row 1 (strs i.2.2)))] : List AV)) i = (fun (i : (List Int) × Int × (List ByteArray)) => ([.ref (rdC i.1 i.2.1), .d (.one (.row 1 (strs i.2.2)))] : List AV)) j → i = j := by
  rintro ⟨bs, p, l⟩ ⟨bs', p', l'⟩ h
  simp only [Prod.mk.injEq]
  simpa [strs_eq, T.enc_eq, encL_eq, F.enc_eq, encF_eq, Tk.enc_eq, encTk_eq, Gn.enc_eq, ints_eq, rdC_eq, and_assoc] using h
theorem spDof_md  : (spDof).md = [true, false] := rfl
theorem spDof_pre  (bs : List Int) (p : Int) (l : List ByteArray) : (spDof).pre [.ref (rdC bs p), .d (.one (.row 1 (strs l)))] = (byt bs ∧ 0 ≤ p ∧ p ≤ 1099511627776 ∧ 1 ≤ l.length ∧ l.length ≤ 1000) := Spec.ofR_pre spDof_inj (bs, p, l)
theorem spDof_ne0  (bs : List Int) (p : Int) (l : List ByteArray) : (spDof).ne [.ref (rdC bs p), .d (.one (.row 1 (strs l)))] = (∃ k : ByteArray, k ∈ l ∨ l = []) := Spec.ofR_ne spDof_inj (bs, p, l)
theorem spDof_all  (bs : List Int) (p : Int) (l : List ByteArray) (F : List AV → List AV → Prop) : (spDof).all [.ref (rdC bs p), .d (.one (.row 1 (strs l)))] F = (∀ (s : ByteArray), (s ∈ l ∨ l = []) → F [.d (.one (.str s))] [.ref (rdC bs (p + 1)), .gone]) := by
  refine (Spec.ofR_all spDof_inj (bs, p, l) F).trans (propext ⟨fun h s hr => h s hr, fun h k hr => ?_⟩)
  exact h k hr
theorem spDof_ne (bs : List Int) (p : Int) (l : List ByteArray) : spDof.ne [.ref (rdC bs p), .d (.one (.row 1 (strs l)))] = True := by
  rw [spDof_ne0]
  cases l with
  | nil => exact eq_true ⟨⟨#[]⟩, .inr rfl⟩
  | cons x l => exact eq_true ⟨x, .inl (by simp)⟩
theorem dof_sound : Sound Go.Proofs.Try.prog 85 spDof := by
  refine sound_famR (GOK.cons call_pick pick_sound GOK.nil) Go.Proofs.Try.func85 (c := Go.Proofs.Try.f85.body.getD .skip) rfl (n := 12) rfl chk_dof rs_dof (fun _ => by simp) ?_
  · rintro ⟨bs, p, l⟩ ⟨hb, h1, h2, h3, h4⟩
    change byt bs at hb
    simp only at h1 h2 h3 h4
    simp only [x_dof, rg, seval, strs_len, spPick_md, spPick_pre, spPick_ne, ↓spPick_all, spPick_all]
    repeat' (first | with_reducible assumption | with_reducible refine And.intro ?_ ?_ | intro _)
    all_goals first | omega | skip
    · rename_i m hm _
      obtain ⟨s, hs, _, hmem⟩ := drop_at (l := l) (i := m.toNat) (by omega)
      rw [strs_at hs]; simp
    · rename_i m hm _ _
      obtain ⟨s, hs, _, hmem⟩ := drop_at (l := l) (i := m.toNat) (by omega)
      rw [strs_at hs]
      exact ⟨s, .inl hmem, rfl⟩
def spDnum  : Spec := Spec.ofR (ι := (List Int) × Int × (List Int)) (κ := Int) [true, false] (fun i => [.ref (rdC i.1 i.2.1), .d (.one (.row 1 (ints .i64 i.2.2)))]) (fun i => byt i.1 ∧ 0 ≤ i.2.1 ∧ i.2.1 ≤ 1099511627776 ∧ 1 ≤ i.2.2.length ∧ i.2.2.length ≤ 1000) (fun i k => k ∈ i.2.2 ∨ i.2.2 = []) (fun i k => [.d (.one (.int .i64 k))]) (fun i k => [.ref (rdC i.1 (i.2.1 + 1)), .gone])
theorem spDnum_inj : ∀ i j : (List Int) × Int × (List Int), (fun (i : (List Int) × Int × (List Int)) => ([.ref (rdC i.1 i.2.1), .d (.one (.row 1 (ints .i64 i.2.2)))] : List AV)) i = (fun (i : (List Int) × Int × (List Int)) => ([.ref (rdC i.1 i.2.1), .d (.one (.row 1 (ints .i64 i.2.2)))] : List AV)) j → i = j := by
  rintro ⟨bs, p, l⟩ ⟨bs', p', l'⟩ h
  simp only [Prod.mk.injEq]
  simpa [strs_eq, T.enc_eq, encL_eq, F.enc_eq, encF_eq, Tk.enc_eq, encTk_eq, Gn.enc_eq, ints_eq, rdC_eq, and_assoc] using h
theorem spDnum_md  : (spDnum).md = [true, false] := rfl
theorem spDnum_pre  (bs : List Int) (p : Int) (l : List Int) : (spDnum).pre [.ref (rdC bs p), .d (.one (.row 1 (ints .i64 l)))] = (byt bs ∧ 0 ≤ p ∧ p ≤ 1099511627776 ∧ 1 ≤ l.length ∧ l.length ≤ 1000) := Spec.ofR_pre spDnum_inj (bs, p, l)
theorem spDnum_ne0  (bs : List Int) (p : Int) (l : List Int) : (spDnum).ne [.ref (rdC bs p), .d (.one (.row 1 (ints .i64 l)))] = (∃ k : Int, k ∈ l ∨ l = []) := Spec.ofR_ne spDnum_inj (bs, p, l)
theorem spDnum_all  (bs : List Int) (p : Int) (l : List Int) (F : List AV → List AV → Prop) : (spDnum).all [.ref (rdC bs p), .d (.one (.row 1 (ints .i64 l)))] F = (∀ (s : Int), (s ∈ l ∨ l = []) → F [.d (.one (.int .i64 s))] [.ref (rdC bs (p + 1)), .gone]) := by
  refine (Spec.ofR_all spDnum_inj (bs, p, l) F).trans (propext ⟨fun h s hr => h s hr, fun h k hr => ?_⟩)
  exact h k hr
theorem spDnum_ne (bs : List Int) (p : Int) (l : List Int) : spDnum.ne [.ref (rdC bs p), .d (.one (.row 1 (ints .i64 l)))] = True := by
  rw [spDnum_ne0]
  cases l with
  | nil => exact eq_true ⟨0, .inr rfl⟩
  | cons x l => exact eq_true ⟨x, .inl (by simp)⟩
theorem dnum_sound : Sound Go.Proofs.Try.prog 113 spDnum := by
  refine sound_famR (GOK.cons call_pick pick_sound GOK.nil) Go.Proofs.Try.func113 (c := Go.Proofs.Try.f113.body.getD .skip) rfl (n := 12) rfl chk_dnum rs_dnum (fun _ => by simp) ?_
  · rintro ⟨bs, p, l⟩ ⟨hb, h1, h2, h3, h4⟩
    change byt bs at hb
    simp only at h1 h2 h3 h4
    simp only [x_dnum, rg, seval, ints_len, spPick_md, spPick_pre, spPick_ne, ↓spPick_all, spPick_all]
    repeat' (first | with_reducible assumption | with_reducible refine And.intro ?_ ?_ | intro _)
    all_goals first | omega | skip
    · rename_i m hm _
      obtain ⟨s, hs, _, hmem⟩ := drop_at (l := l) (i := m.toNat) (by omega)
      rw [ints_at hs]; simp
    · rename_i m hm _ _
      obtain ⟨s, hs, _, hmem⟩ := drop_at (l := l) (i := m.toNat) (by omega)
      rw [ints_at hs]
      exact ⟨s, .inl hmem, rfl⟩
theorem strs3 (a b c : ByteArray) : C.row 1 [[C.str a], [C.str b], [C.str c]] = C.row 1 (strs [a, b, c]) := rfl
theorem strs4l (a b c d : ByteArray) : [[C.str a], [C.str b], [C.str c], [C.str d]] = strs [a, b, c, d] := rfl
theorem strs6 (a b c d e f : ByteArray) : C.row 1 [[C.str a], [C.str b], [C.str c], [C.str d], [C.str e], [C.str f]] = C.row 1 (strs [a, b, c, d, e, f]) := rfl
theorem ints3 (a b c : Int) : C.row 1 [[C.int .i64 a], [C.int .i64 b], [C.int .i64 c]] = C.row 1 (ints .i64 [a, b, c]) := rfl
theorem ints5 (a b c d e : Int) : C.row 1 [[C.int .i64 a], [C.int .i64 b], [C.int .i64 c], [C.int .i64 d], [C.int .i64 e]] = C.row 1 (ints .i64 [a, b, c, d, e]) := rfl
theorem ints7 (a b c d e f g : Int) : C.row 1 [[C.int .i64 a], [C.int .i64 b], [C.int .i64 c], [C.int .i64 d], [C.int .i64 e], [C.int .i64 f], [C.int .i64 g]] = C.row 1 (ints .i64 [a, b, c, d, e, f, g]) := rfl
def spLeaf  : Spec := Spec.ofR (ι := (List Int) × Int) (κ := Int × Int × ByteArray × (List ByteArray) × (List T) × Int) [true] (fun i => [.ref (rdC i.1 i.2)]) (fun i => byt i.1 ∧ 0 ≤ i.2 ∧ i.2 ≤ 1099511627776 - 20) (fun i k => drT 1 (.mk k.1 k.2.1 k.2.2.1 k.2.2.2.1 k.2.2.2.2.1) ∧ i.2 ≤ k.2.2.2.2.2 ∧ k.2.2.2.2.2 ≤ i.2 + 20) (fun i k => [.ag [.c (.int .i64 k.1), .c (.int .i64 k.2.1), .c (.str k.2.2.1), .o 1 (strs k.2.2.2.1), .c (.row 5 (encL k.2.2.2.2.1))]]) (fun i k => [.ref (rdC i.1 k.2.2.2.2.2)])
theorem spLeaf_inj : ∀ i j : (List Int) × Int, (fun (i : (List Int) × Int) => ([.ref (rdC i.1 i.2)] : List AV)) i = (fun (i : (List Int) × Int) => ([.ref (rdC i.1 i.2)] : List AV)) j → i = j := by
  rintro ⟨bs, p⟩ ⟨bs', p'⟩ h
  simp only [Prod.mk.injEq]
  simpa [strs_eq, T.enc_eq, encL_eq, F.enc_eq, encF_eq, Tk.enc_eq, encTk_eq, Gn.enc_eq, ints_eq, rdC_eq, and_assoc] using h
theorem spLeaf_md  : (spLeaf).md = [true] := rfl
theorem spLeaf_pre  (bs : List Int) (p : Int) : (spLeaf).pre [.ref (rdC bs p)] = (byt bs ∧ 0 ≤ p ∧ p ≤ 1099511627776 - 20) := Spec.ofR_pre spLeaf_inj (bs, p)
theorem spLeaf_ne0  (bs : List Int) (p : Int) : (spLeaf).ne [.ref (rdC bs p)] = (∃ k : Int × Int × ByteArray × (List ByteArray) × (List T) × Int, drT 1 (.mk k.1 k.2.1 k.2.2.1 k.2.2.2.1 k.2.2.2.2.1) ∧ p ≤ k.2.2.2.2.2 ∧ k.2.2.2.2.2 ≤ p + 20) := Spec.ofR_ne spLeaf_inj (bs, p)
theorem spLeaf_all  (bs : List Int) (p : Int) (F : List AV → List AV → Prop) : (spLeaf).all [.ref (rdC bs p)] F = (∀ (k : Int) (n : Int) (s : ByteArray) (ks : List ByteArray) (l : List T) (q : Int), (drT 1 (.mk k n s ks l) ∧ p ≤ q ∧ q ≤ p + 20) → F [.ag [.c (.int .i64 k), .c (.int .i64 n), .c (.str s), .o 1 (strs ks), .c (.row 5 (encL l))]] [.ref (rdC bs q)]) := by
  refine (Spec.ofR_all spLeaf_inj (bs, p) F).trans (propext ⟨fun h k n s ks l q hr => h (k, n, s, ks, l, q) hr, fun h k hr => ?_⟩)
  exact h k.1 k.2.1 k.2.2.1 k.2.2.2.1 k.2.2.2.2.1 k.2.2.2.2.2 hr
theorem spLeaf_ne (bs : List Int) (p : Int) : spLeaf.ne [.ref (rdC bs p)] = True := by
  rw [spLeaf_ne0]
  exact eq_true ⟨(0, 0, ⟨#[]⟩, [], [], p), drT_leaf (k := 0) (n := 0) (s := ⟨#[]⟩) (by unfold i64; omega) (by unfold i64; omega) (by decide), Int.le_refl _, by show p ≤ p + 20; omega⟩
theorem leaf_ex {bs : List Int} {p q k n : Int} {s : ByteArray} (hk : i64 k) (hn : i64 n) (hs : (s.size : Int) ≤ 1000) (hq : p ≤ q ∧ q ≤ p + 20) : ∃ i : Int × Int × ByteArray × List ByteArray × List T × Int,
    (drT 1 (T.mk i.1 i.2.1 i.2.2.1 i.2.2.2.1 i.2.2.2.2.1) ∧ p ≤ i.2.2.2.2.2 ∧ i.2.2.2.2.2 ≤ p + 20) ∧ (k = i.1 ∧ n = i.2.1 ∧ s = i.2.2.1 ∧ strs i.2.2.2.1 = [] ∧ [] = encL i.2.2.2.2.1) ∧ rdC bs q = rdC bs i.2.2.2.2.2 :=
  ⟨(k, n, s, [], [], q), ⟨drT_leaf hk hn hs, hq⟩, ⟨rfl, rfl, rfl, rfl, rfl⟩, rfl⟩
set_option maxHeartbeats 1000000 in
theorem l1Leaf_sound : Sound Go.Proofs.Try.prog 84 spLeaf := by
  refine sound_famR (GOK.cons (l := [(85, spDof), (113, spDnum)]) call_pick pick_sound (GOK.cons call_dof dof_sound (GOK.cons call_dnum dnum_sound GOK.nil))) Go.Proofs.Try.func84 (c := Go.Proofs.Try.f84.body.getD .skip) rfl (n := 27) rfl chk_l1Leaf rs_l1Leaf (fun _ => by simp) ?_
  · rintro ⟨bs, p⟩ ⟨hb, h1, h2⟩
    change byt bs at hb
    simp only at h1 h2
    simp only [x_l1Leaf, rg, seval, argsB, PV.toDB, Q.toCB, allCB, callB, flatP, flatC, flatS, List.all_nil, List.all_cons, svL, svP, addR, agQ, agR, pid, nodupN, List.contains_nil, List.contains_cons, finG, gIds, idsR, oneI, agI, gOk, oneOk, ptOk, notIn, List.filter_nil, List.filter_cons, pw_mix, ↓runH, ↓one, ↓effC, effR, Updr.app, putO, updL, St.kil, kilQ, kilP, kilL, invC, opKil, excOf, invT, invB, plT, plA, rcOf, wrU, kilI, memK, PV.ids, disj, pairOk, okPast, setP, invU, outB, PV.pl, Q.pl, plL, plL_map, List.all_nil, List.all_cons, List.getD_cons_zero, Prod.fst, List.nil_append, id_eq, List.map_id, Nat.reduceMul, allCB_map, PV.rowB, BASE, ltB, List.isEmpty_nil, delL, St.delO, or_true, List.mem_singleton, strs6, ints7, spPick_md, spPick_pre, spPick_ne, ↓spPick_all, spPick_all, spDof_md, spDof_pre, spDof_ne, ↓spDof_all, spDof_all, spDnum_md, spDnum_pre, spDnum_ne, ↓spDnum_all, spDnum_all]
    repeat' (first | with_reducible assumption | with_reducible refine And.intro ?_ ?_ | intro _)
    all_goals first | omega | skip
    all_goals
      refine leaf_ex ?_ ?_ ?_ (by omega)
      all_goals first | (unfold i64; omega) | decide | skip
    all_goals
      rename_i h
      simp only [List.mem_cons, List.not_mem_nil, or_false] at h
      first | (rcases h with rfl | rfl | rfl | rfl | rfl | rfl <;> decide) | (unfold i64; omega)
