/- Texts of trees: both programs. -/
import Derived.Test.YtlgjkdaembipoaaDoorPwT12
import Derived.Test.YtlgjkdaembipoaaDoorPwT10
import Derived.Test.YtlgjkdaembipoaaDoorPwT9
set_option linter.unusedSimpArgs false
set_option linter.unusedVariables false
set_option linter.unusedSimpArgs false
set_option maxRecDepth 20000
namespace Go.Proofs.Pw
set_option linter.unusedSectionVars false
variable [Globs]
def x_l11Dec : X := (.seq (.reg [⟨some 2, none, .mv (.k (.c (.str ⟨#[]⟩)))⟩] none [0]) (.seq (.seq (.reg [⟨some 4, none, .mv (.t 0)⟩, ⟨some 5, none, .bin false .lss (.t 4) (.k (.c (.int .i64 (-9223372036854775807))))⟩] none [0, 5]) (.cond (.t 5) (.seq (.reg [⟨some 2, none, .mv (.k (.c (.str ⟨#[45, 57, 50, 50, 51, 51, 55, 50, 48, 51, 54, 56, 53, 52, 55, 55, 53, 56, 48, 56]⟩)))⟩] none [2]) .ret) .skip)) (.seq (.seq (.reg [⟨some 6, none, .mv (.t 0)⟩, ⟨some 7, none, .bin false .lss (.t 6) (.k (.c (.int .i64 0)))⟩] none [0, 7]) (.cond (.t 7) (.seq (.reg [⟨some 8, none, .mv (.t 0)⟩, ⟨some 9, none, .bin false .sub (.k (.c (.int .i64 0))) (.t 8)⟩, ⟨some 10, none, .call 55 [(.t 9)]⟩, ⟨some 11, none, .bin false .add (.k (.c (.str ⟨#[45]⟩))) (.t 10)⟩, ⟨some 2, none, .mv (.t 11)⟩] none [2]) .ret) .skip)) (.seq (.reg [⟨some 3, none, .mv (.k (.c (.str ⟨#[]⟩)))⟩] none [0, 3]) (.seq (.block 0 (.loop (.seq (.seq (.reg [⟨some 12, none, .mv (.t 0)⟩, ⟨some 13, none, .bin false .gtr (.t 12) (.k (.c (.int .i64 9)))⟩] none [0, 3, 13]) (.cond (.t 13) .skip (.exit 0))) (.block 1 (.seq (.reg [⟨some 14, none, .mv (.t 0)⟩, ⟨some 15, none, .bin false .rem (.t 14) (.k (.c (.int .i64 10)))⟩, ⟨some 16, none, .bin false .add (.k (.c (.int .i64 48))) (.t 15)⟩, ⟨some 17, none, .conv .u8 (.t 16)⟩, ⟨some 18, none, .bsl 1 [((.t 17), none)]⟩, ⟨some 19, none, .bts (.t 18)⟩, ⟨some 20, none, .mv (.t 3)⟩, ⟨some 21, none, .bin false .add (.t 19) (.t 20)⟩, ⟨some 3, none, .mv (.t 21)⟩] none [0, 3]) (.reg [⟨some 22, none, .mv (.t 0)⟩, ⟨some 23, none, .bin false .quo (.t 22) (.k (.c (.int .i64 10)))⟩, ⟨some 0, none, .mv (.t 23)⟩] none [0, 3])))))) (.seq (.reg [⟨some 24, none, .mv (.t 0)⟩, ⟨some 25, none, .bin false .add (.k (.c (.int .i64 48))) (.t 24)⟩, ⟨some 26, none, .conv .u8 (.t 25)⟩, ⟨some 27, none, .bsl 1 [((.t 26), none)]⟩, ⟨some 28, none, .bts (.t 27)⟩, ⟨some 29, none, .mv (.t 3)⟩, ⟨some 30, none, .bin false .add (.t 28) (.t 29)⟩, ⟨some 2, none, .mv (.t 30)⟩] none [2]) .ret))))))
theorem chk_l11Dec : chkX Go.Proofs.Tryd.prog 31 (Go.Proofs.Tryd.f55.body.getD .skip) x_l11Dec = true := by kernel_rfl
theorem rs_l11Dec : okRs Go.Proofs.Tryd.prog Go.Proofs.Tryd.f55.results.toList [.tmp 2] = true := by kernel_rfl
theorem call_l11Dec : okCallee Go.Proofs.Tryd.prog 55 = true := by kernel_rfl
def x_l1Text : X := (.seq (.reg [⟨some 1, none, .box (.t 0) (some 5)⟩, ⟨some 2, none, .mv (.k (.c (.str ⟨#[]⟩)))⟩] none [1]) (.seq (.seq (.reg [⟨some 5, none, .fa (.t 1) 0⟩, ⟨some 6, none, .load (.t 5) none⟩] none [1, 6]) (.block 0 (.seq (.reg [⟨some 8, none, .bin false .eql (.t 6) (.k (.c (.int .i64 0)))⟩, ⟨some 7, none, .mv (.t 8)⟩] none [1, 6, 7]) (.cond (.t 7) (.seq (.reg [⟨some 2, none, .mv (.k (.c (.str ⟨#[110, 117, 108, 108]⟩)))⟩] none [2]) .ret) (.seq (.reg [⟨some 10, none, .bin false .eql (.t 6) (.k (.c (.int .i64 1)))⟩, ⟨some 9, none, .mv (.t 10)⟩] none [1, 6, 9]) (.cond (.t 9) (.seq (.reg [⟨some 2, none, .mv (.k (.c (.str ⟨#[102, 97, 108, 115, 101]⟩)))⟩] none [2]) .ret) (.seq (.reg [⟨some 12, none, .bin false .eql (.t 6) (.k (.c (.int .i64 2)))⟩, ⟨some 11, none, .mv (.t 12)⟩] none [1, 6, 11]) (.cond (.t 11) (.seq (.reg [⟨some 2, none, .mv (.k (.c (.str ⟨#[116, 114, 117, 101]⟩)))⟩] none [2]) .ret) (.seq (.reg [⟨some 14, none, .bin false .eql (.t 6) (.k (.c (.int .i64 3)))⟩, ⟨some 13, none, .mv (.t 14)⟩] none [1, 6, 13]) (.cond (.t 13) (.seq (.reg [⟨some 15, none, .fa (.t 1) 1⟩, ⟨some 16, none, .load (.t 15) none⟩, ⟨some 17, none, .call 55 [(.t 16)]⟩, ⟨some 2, none, .mv (.t 17)⟩] none [2]) .ret) (.seq (.reg [⟨some 19, none, .bin false .eql (.t 6) (.k (.c (.int .i64 4)))⟩, ⟨some 18, none, .mv (.t 19)⟩] none [1, 18]) (.cond (.t 18) (.seq (.reg [⟨some 20, none, .fa (.t 1) 2⟩, ⟨some 21, none, .load (.t 20) none⟩, ⟨some 22, none, .bin false .add (.k (.c (.str ⟨#[39]⟩))) (.t 21)⟩, ⟨some 23, none, .bin false .add (.t 22) (.k (.c (.str ⟨#[39]⟩)))⟩, ⟨some 2, none, .mv (.t 23)⟩] none [2]) .ret) .skip)))))))))))) (.seq (.reg [⟨some 3, none, .mv (.k (.c (.str ⟨#[]⟩)))⟩] none [1, 3]) (.seq (.seq (.reg [⟨some 4, none, .mv (.k (.c (.int .i64 0)))⟩] none [1, 3, 4]) (.block 1 (.loop (.seq (.seq (.reg [⟨some 24, none, .mv (.t 4)⟩, ⟨some 25, none, .fa (.t 1) 4⟩, ⟨some 26, none, .load (.t 25) none⟩, ⟨some 27, none, .len (.t 26) false⟩, ⟨some 28, none, .bin false .lss (.t 24) (.t 27)⟩] none [1, 3, 4, 28]) (.cond (.t 28) .skip (.exit 1))) (.seq (.block 2 (.seq (.seq (.reg [⟨some 31, none, .mv (.t 4)⟩, ⟨some 32, none, .bin false .gtr (.t 31) (.k (.c (.int .i64 0)))⟩] none [1, 3, 4, 32]) (.cond (.t 32) (.reg [⟨some 33, none, .mv (.t 3)⟩, ⟨some 34, none, .bin false .add (.t 33) (.k (.c (.str ⟨#[44]⟩)))⟩, ⟨some 3, none, .mv (.t 34)⟩] none [1, 3, 4]) .skip)) (.seq (.seq (.reg [⟨some 35, none, .fa (.t 1) 0⟩, ⟨some 36, none, .load (.t 35) none⟩, ⟨some 37, none, .bin false .eql (.t 36) (.k (.c (.int .i64 6)))⟩] none [1, 3, 4, 37]) (.cond (.t 37) (.reg [⟨some 38, none, .mv (.t 3)⟩, ⟨some 39, none, .fa (.t 1) 3⟩, ⟨some 40, none, .load (.t 39) none⟩, ⟨some 41, none, .mv (.t 4)⟩, ⟨some 42, none, .ia (.t 40) (.t 41) 1⟩, ⟨some 43, none, .load (.t 42) none⟩, ⟨some 44, none, .bin false .add (.t 38) (.t 43)⟩, ⟨some 45, none, .bin false .add (.t 44) (.k (.c (.str ⟨#[58]⟩)))⟩, ⟨some 3, none, .mv (.t 45)⟩] none [1, 3, 4]) .skip)) (.reg [⟨some 46, none, .mv (.t 3)⟩, ⟨some 47, none, .fa (.t 1) 4⟩, ⟨some 48, none, .load (.t 47) none⟩, ⟨some 49, none, .mv (.t 4)⟩, ⟨some 50, none, .ia (.t 48) (.t 49) 5⟩, ⟨some 51, none, .load (.t 50) (some 5)⟩, ⟨some 52, none, .call 57 [(.t 51)]⟩, ⟨some 53, none, .bin false .add (.t 46) (.t 52)⟩, ⟨some 3, none, .mv (.t 53)⟩] none [1, 3, 4])))) (.reg [⟨some 29, none, .mv (.t 4)⟩, ⟨some 30, none, .bin false .add (.t 29) (.k (.c (.int .i64 1)))⟩, ⟨some 4, none, .mv (.t 30)⟩] none [1, 3, 4])))))) (.seq (.seq (.reg [⟨some 54, none, .fa (.t 1) 0⟩, ⟨some 55, none, .load (.t 54) none⟩, ⟨some 56, none, .bin false .eql (.t 55) (.k (.c (.int .i64 6)))⟩] none [3, 56]) (.cond (.t 56) (.seq (.reg [⟨some 57, none, .mv (.t 3)⟩, ⟨some 58, none, .bin false .add (.k (.c (.str ⟨#[123]⟩))) (.t 57)⟩, ⟨some 59, none, .bin false .add (.t 58) (.k (.c (.str ⟨#[125]⟩)))⟩, ⟨some 2, none, .mv (.t 59)⟩] none [2]) .ret) .skip)) (.seq (.reg [⟨some 60, none, .mv (.t 3)⟩, ⟨some 61, none, .bin false .add (.k (.c (.str ⟨#[91]⟩))) (.t 60)⟩, ⟨some 62, none, .bin false .add (.t 61) (.k (.c (.str ⟨#[93]⟩)))⟩, ⟨some 2, none, .mv (.t 62)⟩] none [2]) .ret))))))
theorem chk_l1Text : chkX Go.Proofs.Tryd.prog 63 (Go.Proofs.Tryd.f57.body.getD .skip) x_l1Text = true := by kernel_rfl
theorem rs_l1Text : okRs Go.Proofs.Tryd.prog Go.Proofs.Tryd.f57.results.toList [.tmp 2] = true := by kernel_rfl
theorem call_l1Text : okCallee Go.Proofs.Tryd.prog 57 = true := by kernel_rfl
def x_textI : X := (.seq (.reg [⟨some 1, none, .box (.t 0) (some 5)⟩, ⟨some 2, none, .mv (.k (.c (.str ⟨#[]⟩)))⟩] none [1]) (.seq (.seq (.reg [⟨some 7, none, .fa (.t 1) 0⟩, ⟨some 8, none, .load (.t 7) none⟩] none [1, 8]) (.block 0 (.seq (.reg [⟨some 10, none, .bin false .eql (.t 8) (.k (.c (.int .i64 0)))⟩, ⟨some 9, none, .mv (.t 10)⟩] none [1, 8, 9]) (.cond (.t 9) (.seq (.reg [⟨some 2, none, .mv (.k (.c (.str ⟨#[110, 117, 108, 108]⟩)))⟩] none [2]) .ret) (.seq (.reg [⟨some 12, none, .bin false .eql (.t 8) (.k (.c (.int .i64 1)))⟩, ⟨some 11, none, .mv (.t 12)⟩] none [1, 8, 11]) (.cond (.t 11) (.seq (.reg [⟨some 2, none, .mv (.k (.c (.str ⟨#[102, 97, 108, 115, 101]⟩)))⟩] none [2]) .ret) (.seq (.reg [⟨some 14, none, .bin false .eql (.t 8) (.k (.c (.int .i64 2)))⟩, ⟨some 13, none, .mv (.t 14)⟩] none [1, 8, 13]) (.cond (.t 13) (.seq (.reg [⟨some 2, none, .mv (.k (.c (.str ⟨#[116, 114, 117, 101]⟩)))⟩] none [2]) .ret) (.seq (.reg [⟨some 16, none, .bin false .eql (.t 8) (.k (.c (.int .i64 3)))⟩, ⟨some 15, none, .mv (.t 16)⟩] none [1, 8, 15]) (.cond (.t 15) (.seq (.reg [⟨some 17, none, .fa (.t 1) 1⟩, ⟨some 18, none, .load (.t 17) none⟩, ⟨some 19, none, .call 41 [(.t 18)]⟩, ⟨some 2, none, .mv (.t 19)⟩] none [2]) .ret) (.seq (.reg [⟨some 21, none, .bin false .eql (.t 8) (.k (.c (.int .i64 4)))⟩, ⟨some 20, none, .mv (.t 21)⟩] none [1, 20]) (.cond (.t 20) (.seq (.reg [⟨some 22, none, .fa (.t 1) 2⟩, ⟨some 23, none, .load (.t 22) none⟩, ⟨some 24, none, .bin false .add (.k (.c (.str ⟨#[39]⟩))) (.t 23)⟩, ⟨some 25, none, .bin false .add (.t 24) (.k (.c (.str ⟨#[39]⟩)))⟩, ⟨some 2, none, .mv (.t 25)⟩] none [2]) .ret) .skip)))))))))))) (.seq (.reg [⟨some 26, none, .bsl 1 []⟩, ⟨some 3, none, .mv (.t 26)⟩] none [1, 3]) (.seq (.seq (.reg [⟨some 27, none, .fa (.t 1) 4⟩, ⟨some 28, none, .load (.t 27) none⟩, ⟨some 29, none, .len (.t 28) false⟩, ⟨some 30, none, .mv (.k (.c (.int .i64 0)))⟩] none [1, 3, 28, 29, 30]) (.block 1 (.loop (.seq (.reg [⟨some 31, none, .bin false .lss (.t 30) (.t 29)⟩] none [1, 3, 28, 29, 30, 31]) (.seq (.cond (.t 31) .skip (.exit 1)) (.seq (.block 2 (.seq (.reg [⟨some 32, none, .mv (.t 30)⟩, ⟨some 33, none, .ia (.t 28) (.t 30) 5⟩, ⟨some 34, none, .load (.t 33) (some 5)⟩, ⟨some 5, none, .alloc [(.c (.int .i64 0)), (.c (.int .i64 0)), (.c (.str ⟨#[]⟩)), (.z 1), (.z 5)]⟩, ⟨some 4, none, .mv (.t 32)⟩, ⟨none, none, .st (.t 5) (.t 34) (some 5)⟩] none [1, 3, 4, 5, 28, 29, 30]) (.seq (.reg [⟨some 35, none, .load (.t 5) (some 5)⟩, ⟨some 36, none, .call 39 [(.t 35)]⟩, ⟨some 6, none, .mv (.t 36)⟩] none [1, 3, 4, 6, 28, 29, 30]) (.seq (.seq (.reg [⟨some 37, none, .fa (.t 1) 0⟩, ⟨some 38, none, .load (.t 37) none⟩, ⟨some 39, none, .bin false .eql (.t 38) (.k (.c (.int .i64 6)))⟩] none [1, 3, 4, 6, 28, 29, 30, 39]) (.cond (.t 39) (.reg [⟨some 40, none, .fa (.t 1) 3⟩, ⟨some 41, none, .load (.t 40) none⟩, ⟨some 42, none, .mv (.t 4)⟩, ⟨some 43, none, .ia (.t 41) (.t 42) 1⟩, ⟨some 44, none, .load (.t 43) none⟩, ⟨some 45, none, .bin false .add (.t 44) (.k (.c (.str ⟨#[58]⟩)))⟩, ⟨some 46, none, .mv (.t 6)⟩, ⟨some 47, none, .bin false .add (.t 45) (.t 46)⟩, ⟨some 6, none, .mv (.t 47)⟩] none [1, 3, 6, 28, 29, 30]) .skip)) (.reg [⟨some 48, none, .mv (.t 3)⟩, ⟨some 49, none, .mv (.t 6)⟩, ⟨some 50, none, .bsl 1 [((.t 49), none)]⟩, ⟨some 51, none, .app (.t 48) (.t 50) 1 16 []⟩, ⟨some 3, none, .mv (.t 51)⟩] none [1, 3, 28, 29, 30]))))) (.reg [⟨some 52, none, .bin false .add (.t 30) (.k (.c (.int .i64 1)))⟩, ⟨some 30, none, .mv (.t 52)⟩] none [1, 3, 28, 29, 30]))))))) (.seq (.seq (.reg [⟨some 53, none, .fa (.t 1) 0⟩, ⟨some 54, none, .load (.t 53) none⟩, ⟨some 55, none, .bin false .eql (.t 54) (.k (.c (.int .i64 6)))⟩] none [3, 55]) (.cond (.t 55) (.seq (.reg [⟨some 56, none, .mv (.t 3)⟩, ⟨some 57, none, .call 60 [(.t 56), (.k (.c (.str ⟨#[44]⟩)))]⟩, ⟨some 58, none, .bin false .add (.k (.c (.str ⟨#[123]⟩))) (.t 57)⟩, ⟨some 59, none, .bin false .add (.t 58) (.k (.c (.str ⟨#[125]⟩)))⟩, ⟨some 2, none, .mv (.t 59)⟩] none [2]) .ret) .skip)) (.seq (.reg [⟨some 60, none, .mv (.t 3)⟩, ⟨some 61, none, .call 60 [(.t 60), (.k (.c (.str ⟨#[44]⟩)))]⟩, ⟨some 62, none, .bin false .add (.k (.c (.str ⟨#[91]⟩))) (.t 61)⟩, ⟨some 63, none, .bin false .add (.t 62) (.k (.c (.str ⟨#[93]⟩)))⟩, ⟨some 2, none, .mv (.t 63)⟩] none [2]) .ret))))))
theorem chk_textI : chkX Go.Proofs.Tryd.prog 64 (Go.Proofs.Tryd.f39.body.getD .skip) x_textI = true := by kernel_rfl
theorem rs_textI : okRs Go.Proofs.Tryd.prog Go.Proofs.Tryd.f39.results.toList [.tmp 2] = true := by kernel_rfl
theorem call_textI : okCallee Go.Proofs.Tryd.prog 39 = true := by kernel_rfl
attribute [go_sem] bytesL flatC
theorem bytesS1 (n : Int) : (bytesS [n]).size = 1 := rfl
noncomputable def spDec (k:Nat) : Spec := Spec.of (ι := Int) [false] (fun i => [.d (.one (.int .i64 i))]) (fun i => (-1000000 ≤ i ∧ i ≤ 1000000) ∧ (if i < 0 then 1 else 0) < k) (fun i => [.d (.one (.str (itoaB i)))]) (fun _ => [.gone])
theorem spDec_inj : ∀ i j : Int, (fun (i : Int) => ([.d (.one (.int .i64 i))] : List AV)) i = (fun (i : Int) => ([.d (.one (.int .i64 i))] : List AV)) j → i = j := by
  intro n n' h
  simpa [strs_eq, T.enc_eq, encL_eq, F.enc_eq, encF_eq, Tk.enc_eq, encTk_eq, Gn.enc_eq, ints_eq] using h
theorem spDec_md (k:Nat) : (spDec k).md = [false] := rfl
theorem spDec_pre (k:Nat) (n : Int) : (spDec k).pre [.d (.one (.int .i64 n))] = ((-1000000 ≤ n ∧ n ≤ 1000000) ∧ (if n < 0 then 1 else 0) < k) := Spec.of_pre' spDec_inj n
theorem spDec_alts (k:Nat) : (spDec k).alts = none := rfl
theorem spDec_res (k:Nat) (n : Int) : (spDec k).res [.d (.one (.int .i64 n))] = [.d (.one (.str (itoaB n)))] := Spec.of_res spDec_inj n
theorem spDec_out (k:Nat) (n : Int) : (spDec k).out [.d (.one (.int .i64 n))] = [.gone] := Spec.of_out spDec_inj n
theorem dec_sound (k : Nat) (hS : Sound Go.Proofs.Tryd.prog 55 (spDec k)) : Sound Go.Proofs.Tryd.prog 55 (spDec (k + 1)) := by
  refine sound_fam (GOK.cons call_l11Dec hS GOK.nil) Go.Proofs.Tryd.func55 (c := Go.Proofs.Tryd.f55.body.getD .skip) rfl (n := 31) rfl chk_l11Dec rs_l11Dec (fun _ => by simp) ?_ ?_
  · exact spDec_inj
  · rintro n ⟨⟨h1, h2⟩, h3⟩
    have a1 : (n < -9223372036854775807) = False := eq_false (by omega)
    by_cases c : n < 0
    · have a2 : (n < 0) = True := eq_true c
      have e := itoaB_neg c
      have z := itoaB_size (n := 0 - n) (by omega) (by omega)
      have e1 : (ByteArray.mk #[45]).size = 1 := rfl
      have m : (if (0 : Int) - n < 0 then 1 else 0) < k := by rw [if_neg (by omega)]; rw [if_pos c] at h3; omega
      simp only [x_l11Dec, rg, go_sem, seval, a1, a2, e1, spDec_md, spDec_pre, spDec_alts, spDec_res, spDec_out]
      repeat' (first | with_reducible assumption | with_reducible refine And.intro ?_ ?_ | intro _)
      all_goals first | omega | assumption | exact e | exact e.symm | skip
    · have a2 : (n < 0) = False := eq_false c
      simp only [x_l11Dec, rg, go_sem, seval, a1, a2]
      refine pw_loop (ι := Int × ByteArray) (fun i => i.1.toNat) (fun i => 0 ≤ i.1 ∧ i.1 ≤ n ∧ i.2.size + i.1 ≤ n ∧ decB i.1.toNat ++ i.2 = itoaB n)
        (fun i => ⟨[(0, .q (.c (.int .i64 i.1))), (3, .q (.c (.str i.2)))], [], []⟩) (n, ⟨#[]⟩) ⟨by omega, by omega, by simp [ByteArray.size], by rw [itoaB_pos (by omega), ba_nil']⟩ (Le.refl _) ?_
      rintro ⟨m, out⟩ ⟨g1, g2, g3, g4⟩
      simp only at g1 g2 g3 g4
      by_cases c2 : 9 < m
      · have a3 : (9 < m) = True := eq_true c2
        have e1 : m.tdiv 10 = m / 10 := Int.tdiv_eq_ediv_of_nonneg (by omega)
        have e2 : m.tmod 10 = m % 10 := Int.tmod_eq_emod_of_nonneg (by omega)
        have e3 : (m / 10).toNat = m.toNat / 10 := by omega
        have e4 : ((48 + m.toNat % 10 : Nat) : Int) = 48 + m % 10 := by omega
        have e5 := decB_step (u := m.toNat) (by omega) out
        rw [e4, ← e3] at e5
        simp only [rg, go_sem, seval, a3, e1, e2, bytesS1]
        repeat' (first | with_reducible assumption | with_reducible refine And.intro ?_ ?_ | intro _)
        all_goals first | omega | skip
        exact ⟨(m / 10, bytesS [48 + m % 10] ++ out), ⟨by omega, by omega, by simp only [ByteArray.size_append, bytesS1]; omega, by simp only; rw [← e5]; exact g4⟩, by simp only; omega, Le.refl _⟩
      · have a3 : (9 < m) = False := eq_false c2
        have e4 : ((48 + m.toNat : Nat) : Int) = 48 + m := by omega
        have e5 := decB_small (u := m.toNat) (by omega)
        rw [e4] at e5
        rw [e5] at g4
        simp only [rg, go_sem, seval, a3, bytesS1]
        repeat' (first | with_reducible assumption | with_reducible refine And.intro ?_ ?_ | intro _)
        all_goals first | omega | exact g4 | exact g4.symm | skip
theorem dec_all (k : Nat) : Sound Go.Proofs.Tryd.prog 55 (spDec k) := by
  induction k with
  | zero => exact Sound.none
  | succ k ih => exact dec_sound k ih
noncomputable def spDecV  : Spec := Spec.of (ι := Int) [false] (fun i => [.d (.one (.int .i64 i))]) (fun i => -1000000 ≤ i ∧ i ≤ 1000000) (fun i => [.d (.one (.str (itoaB i)))]) (fun _ => [.gone])
theorem spDecV_inj : ∀ i j : Int, (fun (i : Int) => ([.d (.one (.int .i64 i))] : List AV)) i = (fun (i : Int) => ([.d (.one (.int .i64 i))] : List AV)) j → i = j := by
  intro n n' h
  simpa [strs_eq, T.enc_eq, encL_eq, F.enc_eq, encF_eq, Tk.enc_eq, encTk_eq, Gn.enc_eq, ints_eq] using h
theorem spDecV_md  : (spDecV).md = [false] := rfl
theorem spDecV_pre  (n : Int) : (spDecV).pre [.d (.one (.int .i64 n))] = (-1000000 ≤ n ∧ n ≤ 1000000) := Spec.of_pre' spDecV_inj n
theorem spDecV_alts  : (spDecV).alts = none := rfl
theorem spDecV_res  (n : Int) : (spDecV).res [.d (.one (.int .i64 n))] = [.d (.one (.str (itoaB n)))] := Spec.of_res spDecV_inj n
theorem spDecV_out  (n : Int) : (spDecV).out [.d (.one (.int .i64 n))] = [.gone] := Spec.of_out spDecV_inj n
theorem decV_sound : Sound Go.Proofs.Tryd.prog 55 spDecV := Sound.all (μ := fun n => if n < 0 then 1 else 0) dec_all
def okTx (t : T) : Prop := (∃ d, formT t d) ∧ sizeT t ≤ 60
theorem okTx_of {t : T} (h : okT t) : okTx t := ⟨⟨_, h.1⟩, okT_size h⟩
theorem okTx_kid {k n : Int} {s : ByteArray} {ks : List ByteArray} {l : List T} (h : okTx (.mk k n s ks l)) {t : T} (ht : t ∈ l) : okTx t := by
  obtain ⟨⟨d, h1⟩, h2⟩ := h
  simp only [formT] at h1
  simp only [sizeT] at h2
  exact ⟨⟨_, formL_mem.1 h1.2.2.2.2.2.2.2.2.2.2.2 t ht⟩, by have := sizeL_mem' ht; omega⟩
theorem okTx_size {t : T} (h : okTx t) : (textT t).size ≤ 2400 := by
  obtain ⟨⟨d, h1⟩, h2⟩ := h
  have := textT_size h1; omega
noncomputable def spTxt (k:Nat) : Spec := Spec.of (ι := T) [false] (fun i => [.d (.agg i.enc)]) (fun i => (okTx i) ∧ SizeOf.sizeOf i < k) (fun i => [.d (.one (.str (textT i)))]) (fun _ => [.gone])
theorem spTxt_inj : ∀ i j : T, (fun (i : T) => ([.d (.agg i.enc)] : List AV)) i = (fun (i : T) => ([.d (.agg i.enc)] : List AV)) j → i = j := by
  intro t t' h
  simpa [strs_eq, T.enc_eq, encL_eq, F.enc_eq, encF_eq, Tk.enc_eq, encTk_eq, Gn.enc_eq, ints_eq] using h
theorem spTxt_md (k:Nat) : (spTxt k).md = [false] := rfl
theorem spTxt_pre (k:Nat) (t : T) : (spTxt k).pre [.d (.agg t.enc)] = ((okTx t) ∧ SizeOf.sizeOf t < k) := Spec.of_pre' spTxt_inj t
theorem spTxt_alts (k:Nat) : (spTxt k).alts = none := rfl
theorem spTxt_res (k:Nat) (t : T) : (spTxt k).res [.d (.agg t.enc)] = [.d (.one (.str (textT t)))] := Spec.of_res spTxt_inj t
theorem spTxt_out (k:Nat) (t : T) : (spTxt k).out [.d (.agg t.enc)] = [.gone] := Spec.of_out spTxt_inj t
set_option maxHeartbeats 2000000 in
theorem txt_sound (k : Nat) (hS : Sound Go.Proofs.Tryd.prog 57 (spTxt k)) : Sound Go.Proofs.Tryd.prog 57 (spTxt (k + 1)) := by
  refine sound_fam (GOK.cons (l := [(57, spTxt k)]) call_l11Dec decV_sound (GOK.cons call_l1Text hS GOK.nil)) Go.Proofs.Tryd.func57 (c := Go.Proofs.Tryd.f57.body.getD .skip) rfl (n := 63) rfl chk_l1Text rs_l1Text (fun _ => by simp) ?_ ?_
  · exact spTxt_inj
  · rintro t ⟨h1, h4⟩
    obtain ⟨kk, n, s, ks, l⟩ := t
    have hkid := fun t ht => okTx_kid h1 (t := t) ht
    have hT := okTx_size h1
    obtain ⟨⟨d, h1⟩, h2⟩ := h1
    have hks := keys_small h1
    have e3 : SizeOf.sizeOf l < k := by have e : SizeOf.sizeOf (T.mk kk n s ks l) < k + 1 := h4
                                        rw [T.mk.sizeOf_spec] at e; omega
    clear h4
    simp only [formT] at h1
    obtain ⟨f1, f2, f3, f4, f5, f6, f7, f8, f9, f10, f11, f12⟩ := h1
    have f13 := f10.2
    simp only [sizeT] at h2
    have f14 := len_sizeL l
    have hz := fun i => join_take (k := kk) hks f12 (by omega) i
    have q1 : (ByteArray.mk #[39]).size = 1 := rfl
    have q2 : (ByteArray.mk #[123]).size = 1 := rfl
    have q3 : (ByteArray.mk #[125]).size = 1 := rfl
    have q4 : (ByteArray.mk #[91]).size = 1 := rfl
    have q5 : (ByteArray.mk #[93]).size = 1 := rfl
    have q6 : (ByteArray.mk #[58]).size = 1 := rfl
    have hkk : kk = 0 ∨ kk = 1 ∨ kk = 2 ∨ kk = 3 ∨ kk = 4 ∨ kk = 5 ∨ kk = 6 := by omega
    rcases hkk with rfl | rfl | rfl | rfl | rfl | hkk
    · simp only [x_l1Text, T.enc, rg, go_sem, seval, Prod.fst, textT]
      repeat' (first | with_reducible assumption | with_reducible refine And.intro ?_ ?_ | intro _)
    · simp only [x_l1Text, T.enc, rg, go_sem, seval, Prod.fst, textT]
      repeat' (first | with_reducible assumption | with_reducible refine And.intro ?_ ?_ | intro _)
      all_goals first | omega | simp
    · simp only [x_l1Text, T.enc, rg, go_sem, seval, Prod.fst, textT]
      repeat' (first | with_reducible assumption | with_reducible refine And.intro ?_ ?_ | intro _)
      all_goals first | omega | simp
    · simp only [x_l1Text, T.enc, rg, go_sem, seval, Prod.fst, textT, spDecV_md, spDecV_pre, spDecV_alts, spDecV_res, spDecV_out]
      repeat' (first | with_reducible assumption | with_reducible refine And.intro ?_ ?_ | intro _)
      all_goals first | omega | simp
    · simp only [x_l1Text, T.enc, rg, go_sem, seval, Prod.fst, textT, q1]
      repeat' (first | with_reducible assumption | with_reducible refine And.intro ?_ ?_ | intro _)
      all_goals first | omega | simp
    have b0 : (kk = 0) = False := eq_false (by omega)
    have b1 : (kk = 1) = False := eq_false (by omega)
    have b2 : (kk = 2) = False := eq_false (by omega)
    have b3 : (kk = 3) = False := eq_false (by omega)
    have b4 : (kk = 4) = False := eq_false (by omega)
    simp only [x_l1Text, T.enc, rg, go_sem, seval, Prod.fst, b0, b1, b2, b3, b4]
    repeat' (first | with_reducible assumption | with_reducible refine And.intro ?_ ?_ | intro _)
    all_goals first | omega | skip
    refine pw_loop (ι := Nat) (fun i => l.length - i) (fun i => i ≤ l.length)
      (fun i => ⟨[(1, .q (.box 1 0)), (3, .q (.c (.str (joinB ((textLs kk ks l).take i) ⟨#[44]⟩)))), (4, .q (.c (.int .i64 i)))],
        [(1, [.c (.int .i64 kk), .c (.int .i64 n), .c (.str s), .c (.row 1 (strs ks)), .c (.row 5 (encL l))])], []⟩) 0 (Nat.zero_le _) (Le.of_eq (by simp [joinB_nil])) ?_
    intro i hi
    rcases Nat.lt_or_ge i l.length with hlt | hge
    · obtain ⟨t, ht, _, hmem⟩ := drop_at hlt
      have a1 := encL_at ht
      have a2 : ((i : Int) < (l.length : Int)) = True := by simp; omega
      have a4 := size_mem hmem
      have a5 := hkid t hmem
      have a6 := T.enc_len t
      have a7 := okTx_size a5
      have a8 := hz i
      have a9 := join_step (textLs_take kk l ks i t ht) (by rw [textLs_len]; exact hlt)
      rcases hkk with hkk | hkk
      · have b5 : (kk = 6) = False := eq_false (by omega)
        simp only [b5, if_false] at a9
        by_cases ci : i = 0
        · have c1 : ((0 : Int) < i) = False := eq_false (by omega)
          rw [if_pos ci] at a9
          subst ci
          simp only [rg, go_sem, seval, Prod.fst, a1, a2, a6, b5, c1, List.take_zero, joinB_nil, ba_nil, encL_len, spTxt_md, spTxt_pre, spTxt_alts, spTxt_res, spTxt_out]
          repeat' (first | with_reducible assumption | with_reducible refine And.intro ?_ ?_ | intro _)
          all_goals first | omega | with_reducible assumption | (rw [show (#[] : Array UInt8).size = 0 from rfl]; omega) | skip
          refine ⟨0 + 1, hlt, by omega, Le.of_eq ?_⟩
          rw [a9]
          simp [ba_nil, ba_assoc]
        · have c1 : ((0 : Int) < i) = True := eq_true (by omega)
          rw [if_neg ci] at a9
          simp only [rg, go_sem, seval, Prod.fst, a1, a2, a6, b5, c1, encL_len, sep_size, ByteArray.size_append, spTxt_md, spTxt_pre, spTxt_alts, spTxt_res, spTxt_out]
          repeat' (first | with_reducible assumption | with_reducible refine And.intro ?_ ?_ | intro _)
          all_goals first | omega | with_reducible assumption | (rw [show (#[] : Array UInt8).size = 0 from rfl]; omega) | skip
          refine ⟨i + 1, hlt, by omega, Le.of_eq ?_⟩
          rw [a9]
          simp [ba_assoc]
      · have b5 : (kk = 6) = True := eq_true (by omega)
        obtain ⟨key, hkey⟩ : ∃ y, ks[i]? = some y := ⟨ks[i]'(by have := (f11 hkk).1; omega), List.getElem?_eq_getElem _⟩
        have b6 := strs_at hkey
        have b7 : ks.getD i ⟨#[]⟩ = key := by simp [List.getD, hkey]
        have b8 := hks key (List.mem_of_getElem? hkey)
        have b9 := (f11 hkk).1
        simp only [b5, if_true, b7] at a9
        by_cases ci : i = 0
        · have c1 : ((0 : Int) < i) = False := eq_false (by omega)
          rw [if_pos ci] at a9
          subst ci
          simp only [rg, go_sem, seval, Prod.fst, a1, a2, a6, b5, b6, c1, q6, List.take_zero, joinB_nil, ba_nil, encL_len, strs_len, ByteArray.size_append, spTxt_md, spTxt_pre, spTxt_alts, spTxt_res, spTxt_out]
          repeat' (first | with_reducible assumption | with_reducible refine And.intro ?_ ?_ | intro _)
          all_goals first | omega | with_reducible assumption | (rw [show (#[] : Array UInt8).size = 0 from rfl]; omega) | skip
          refine ⟨0 + 1, hlt, by omega, Le.of_eq ?_⟩
          rw [a9]
          simp [ba_nil, ba_assoc]
        · have c1 : ((0 : Int) < i) = True := eq_true (by omega)
          rw [if_neg ci] at a9
          simp only [rg, go_sem, seval, Prod.fst, a1, a2, a6, b5, b6, c1, q6, encL_len, strs_len, sep_size, ByteArray.size_append, spTxt_md, spTxt_pre, spTxt_alts, spTxt_res, spTxt_out]
          repeat' (first | with_reducible assumption | with_reducible refine And.intro ?_ ?_ | intro _)
          all_goals first | omega | with_reducible assumption | (rw [show (#[] : Array UInt8).size = 0 from rfl]; omega) | skip
          refine ⟨i + 1, hlt, by omega, Le.of_eq ?_⟩
          rw [a9]
          simp [ba_assoc]
    · have a2 : ((i : Int) < (l.length : Int)) = False := by simp; omega
      have a3 : (textLs kk ks l).take i = textLs kk ks l := List.take_of_length_le (by rw [textLs_len]; exact hge)
      have a4 := hz i
      rw [a3] at a4
      rcases hkk with hkk | hkk
      · have b5 : (kk = 6) = False := eq_false (by omega)
        simp only [rg, go_sem, seval, Prod.fst, a2, a3, b5, encL_len, q4, q5, ByteArray.size_append]
        repeat' (first | with_reducible assumption | with_reducible refine And.intro ?_ ?_ | intro _)
        all_goals first | omega | with_reducible assumption | (rw [show (#[] : Array UInt8).size = 0 from rfl]; omega) | skip
        all_goals (simp only [textT, b0, b1, b2, b3, b4, b5, if_false])
      · have b5 : (kk = 6) = True := eq_true (by omega)
        simp only [rg, go_sem, seval, Prod.fst, a2, a3, b5, encL_len, q2, q3, ByteArray.size_append]
        repeat' (first | with_reducible assumption | with_reducible refine And.intro ?_ ?_ | intro _)
        all_goals first | omega | with_reducible assumption | (rw [show (#[] : Array UInt8).size = 0 from rfl]; omega) | skip
        all_goals (simp only [textT, b0, b1, b2, b3, b4, b5, if_false, if_true])
theorem txt_all (k : Nat) : Sound Go.Proofs.Tryd.prog 57 (spTxt k) := by
  induction k with
  | zero => exact Sound.none
  | succ k ih => exact txt_sound k ih
noncomputable def spTxtV  : Spec := Spec.of (ι := T) [false] (fun i => [.d (.agg i.enc)]) (fun i => okTx i) (fun i => [.d (.one (.str (textT i)))]) (fun _ => [.gone])
theorem spTxtV_inj : ∀ i j : T, (fun (i : T) => ([.d (.agg i.enc)] : List AV)) i = (fun (i : T) => ([.d (.agg i.enc)] : List AV)) j → i = j := by
  intro t t' h
  simpa [strs_eq, T.enc_eq, encL_eq, F.enc_eq, encF_eq, Tk.enc_eq, encTk_eq, Gn.enc_eq, ints_eq] using h
theorem spTxtV_md  : (spTxtV).md = [false] := rfl
theorem spTxtV_pre  (t : T) : (spTxtV).pre [.d (.agg t.enc)] = (okTx t) := Spec.of_pre' spTxtV_inj t
theorem spTxtV_alts  : (spTxtV).alts = none := rfl
theorem spTxtV_res  (t : T) : (spTxtV).res [.d (.agg t.enc)] = [.d (.one (.str (textT t)))] := Spec.of_res spTxtV_inj t
theorem spTxtV_out  (t : T) : (spTxtV).out [.d (.agg t.enc)] = [.gone] := Spec.of_out spTxtV_inj t
theorem txtV_sound : Sound Go.Proofs.Tryd.prog 57 spTxtV := Sound.all (μ := fun t => SizeOf.sizeOf t) txt_all
set_option maxHeartbeats 2000000 in
theorem txtI_sound (hK : tabK) (k : Nat) (hS : Sound Go.Proofs.Tryd.prog 39 (spTxt k)) : Sound Go.Proofs.Tryd.prog 39 (spTxt (k + 1)) := by
  refine sound_fam (GOK.cons (l := [(39, spTxt k), (60, spJoin)]) call_Itoa (itoa_sound hK) (GOK.cons (l := [(60, spJoin)]) call_textI hS (GOK.cons call_Join join_sound GOK.nil))) Go.Proofs.Tryd.func39 (c := Go.Proofs.Tryd.f39.body.getD .skip) rfl (n := 64) rfl chk_textI rs_textI (fun _ => by simp) ?_ ?_
  · exact spTxt_inj
  · rintro t ⟨h1, h4⟩
    obtain ⟨kk, n, s, ks, l⟩ := t
    have hkid := fun t ht => okTx_kid h1 (t := t) ht
    have hT := okTx_size h1
    obtain ⟨⟨d, h1⟩, h2⟩ := h1
    have hks := keys_small h1
    have e3 : SizeOf.sizeOf l < k := by have e : SizeOf.sizeOf (T.mk kk n s ks l) < k + 1 := h4
                                        rw [T.mk.sizeOf_spec] at e; omega
    clear h4
    simp only [formT] at h1
    obtain ⟨f1, f2, f3, f4, f5, f6, f7, f8, f9, f10, f11, f12⟩ := h1
    have f13 := f10.2
    simp only [sizeT] at h2
    have f14 := len_sizeL l
    have hz := fun i => join_take (k := kk) hks f12 (by omega) i
    have q1 : (ByteArray.mk #[39]).size = 1 := rfl
    have q2 : (ByteArray.mk #[123]).size = 1 := rfl
    have q3 : (ByteArray.mk #[125]).size = 1 := rfl
    have q4 : (ByteArray.mk #[91]).size = 1 := rfl
    have q5 : (ByteArray.mk #[93]).size = 1 := rfl
    have q6 : (ByteArray.mk #[58]).size = 1 := rfl
    have hkk : kk = 0 ∨ kk = 1 ∨ kk = 2 ∨ kk = 3 ∨ kk = 4 ∨ kk = 5 ∨ kk = 6 := by omega
    rcases hkk with rfl | rfl | rfl | rfl | rfl | hkk
    · simp only [x_textI, T.enc, rg, go_sem, seval, Prod.fst, textT]
      repeat' (first | with_reducible assumption | with_reducible refine And.intro ?_ ?_ | intro _)
    · simp only [x_textI, T.enc, rg, go_sem, seval, Prod.fst, textT]
      repeat' (first | with_reducible assumption | with_reducible refine And.intro ?_ ?_ | intro _)
      all_goals first | omega | simp
    · simp only [x_textI, T.enc, rg, go_sem, seval, Prod.fst, textT]
      repeat' (first | with_reducible assumption | with_reducible refine And.intro ?_ ?_ | intro _)
      all_goals first | omega | simp
    · simp only [x_textI, T.enc, rg, go_sem, seval, Prod.fst, textT, spItoa_md, spItoa_pre, spItoa_alts, spItoa_res, spItoa_out]
      repeat' (first | with_reducible assumption | with_reducible refine And.intro ?_ ?_ | intro _)
      all_goals first | omega | (unfold i64; omega) | simp
    · simp only [x_textI, T.enc, rg, go_sem, seval, Prod.fst, textT, q1]
      repeat' (first | with_reducible assumption | with_reducible refine And.intro ?_ ?_ | intro _)
      all_goals first | omega | simp
    have b0 : (kk = 0) = False := eq_false (by omega)
    have b1 : (kk = 1) = False := eq_false (by omega)
    have b2 : (kk = 2) = False := eq_false (by omega)
    have b3 : (kk = 3) = False := eq_false (by omega)
    have b4 : (kk = 4) = False := eq_false (by omega)
    simp only [x_textI, T.enc, rg, go_sem, seval, Prod.fst, b0, b1, b2, b3, b4, encL_len]
    repeat' (first | with_reducible assumption | with_reducible refine And.intro ?_ ?_ | intro _)
    all_goals first | omega | skip
    have hA : (l.length : Int) = l.length := rfl
    refine pw_loop (ι := Nat) (fun i => l.length - i) (fun i => i ≤ l.length)
      (fun i => ⟨[(1, .q (.box 1 0)), (3, .q (.own 51)), (28, .q (.c (.row 5 (encL l)))), (29, .q (.c (.int .i64 l.length))), (30, .q (.c (.int .i64 i)))],
        [(1, [.c (.int .i64 kk), .c (.int .i64 n), .c (.str s), .c (.row 1 (strs ks)), .c (.row 5 (encL l))])], [(51, 1, strs ((textLs kk ks l).take i))]⟩) 0 (Nat.zero_le _) ?_ ?_
    · refine Le.own (t := 3) (d := 51) (sz := 1) (by decide) (by simp) (by simp [Q.killO]) ?_
      simp [PV.map, Q.killO, strs]
    intro i hi
    rcases Nat.lt_or_ge i l.length with hlt | hge
    · obtain ⟨t, ht, _, hmem⟩ := drop_at hlt
      have a1 := encL_at ht
      have a2 : ((i : Int) < (l.length : Int)) = True := by simp; omega
      have a4 := size_mem hmem
      have a5 := hkid t hmem
      have a6 := T.enc_len t
      have a7 := okTx_size a5
      have a9 := textLs_take kk l ks i t ht
      have a10 : ((textLs kk ks l).take i).length = i := by rw [List.length_take, textLs_len]; omega
      rcases hkk with hkk | hkk
      · have b5 : (kk = 6) = False := eq_false (by omega)
        simp only [b5, if_false] at a9
        simp only [rg, go_sem, seval, Prod.fst, a1, a2, a6, a10, b5, encL_len, strs_len, spTxt_md, spTxt_pre, spTxt_alts, spTxt_res, spTxt_out]
        repeat' (first | with_reducible assumption | with_reducible refine And.intro ?_ ?_ | intro _)
        all_goals first | omega | with_reducible assumption | skip
        refine ⟨i + 1, hlt, by omega, ?_⟩
        rw [a9, strs_app]
        exact Le.sub (by simp) (by simp) (by simp [strs])
      · have b5 : (kk = 6) = True := eq_true (by omega)
        obtain ⟨key, hkey⟩ : ∃ y, ks[i]? = some y := ⟨ks[i]'(by have := (f11 hkk).1; omega), List.getElem?_eq_getElem _⟩
        have b6 := strs_at hkey
        have b7 : ks.getD i ⟨#[]⟩ = key := by simp [List.getD, hkey]
        have b8 := hks key (List.mem_of_getElem? hkey)
        have b9 := (f11 hkk).1
        simp only [b5, if_true, b7] at a9
        simp only [rg, go_sem, seval, Prod.fst, a1, a2, a6, a10, b5, b6, q6, encL_len, strs_len, ByteArray.size_append, spTxt_md, spTxt_pre, spTxt_alts, spTxt_res, spTxt_out]
        repeat' (first | with_reducible assumption | with_reducible refine And.intro ?_ ?_ | intro _)
        all_goals first | omega | with_reducible assumption | skip
        refine ⟨i + 1, hlt, by omega, ?_⟩
        rw [a9, strs_app]
        exact Le.sub (by simp) (by simp) (by simp [strs])
    · have a2 : ((i : Int) < (l.length : Int)) = False := by simp; omega
      have a3 : (textLs kk ks l).take i = textLs kk ks l := List.take_of_length_le (by rw [textLs_len]; exact hge)
      have a4 := hz i
      have a5 := textLs_len kk ks l
      rw [a3] at a4
      rcases hkk with hkk | hkk
      · have b5 : (kk = 6) = False := eq_false (by omega)
        simp only [rg, go_sem, seval, Prod.fst, a2, a3, a5, b5, encL_len, q4, q5, ByteArray.size_append, lenB, spJoin_md, spJoin_pre, spJoin_alts, spJoin_res, spJoin_out]
        repeat' (first | with_reducible assumption | with_reducible refine And.intro ?_ ?_ | intro _)
        all_goals first | omega | with_reducible assumption | skip
        all_goals (simp only [textT, b0, b1, b2, b3, b4, b5, if_false])
      · have b5 : (kk = 6) = True := eq_true (by omega)
        simp only [rg, go_sem, seval, Prod.fst, a2, a3, a5, b5, encL_len, q2, q3, ByteArray.size_append, lenB, spJoin_md, spJoin_pre, spJoin_alts, spJoin_res, spJoin_out]
        repeat' (first | with_reducible assumption | with_reducible refine And.intro ?_ ?_ | intro _)
        all_goals first | omega | with_reducible assumption | skip
        all_goals (simp only [textT, b0, b1, b2, b3, b4, b5, if_false, if_true])
theorem txtI_all (hK : tabK) (k : Nat) : Sound Go.Proofs.Tryd.prog 39 (spTxt k) := by
  induction k with
  | zero => exact Sound.none
  | succ k ih => exact txtI_sound hK k ih
theorem txtIV_sound (hK : tabK) : Sound Go.Proofs.Tryd.prog 39 spTxtV := Sound.all (μ := fun t => SizeOf.sizeOf t) (txtI_all hK)
end Go.Proofs.Pw
/- Trees that nobody else holds. -/
namespace Go.Proofs.Pw
mutual
def T.encX : T → List C
  | .mk k n s ks l => [.int .i64 k, .int .i64 n, .str s, .own 1 (strs ks), .own 5 (encLX l)]
def encLX : List T → List (List C)
  | [] => []
  | t :: l => t.encX :: encLX l
end
theorem encLX_map (l : List T) : encLX l = l.map T.encX := by
  induction l with
  | nil => simp [encLX]
  | cons t l ih => simp [encLX, ih]
theorem encLX_len (l : List T) : (encLX l).length = l.length := by rw [encLX_map]; simp
theorem T.encX_len (t : T) : t.encX.length = 5 := by cases t; simp [T.encX]
mutual
theorem dtL_encX : ∀ t : T, dtL t.encX = some t.enc
  | .mk k n s ks l => by simp [T.encX, T.enc, dtL, dtC, dtR_encLX l]
theorem dtR_encLX : ∀ l : List T, dtR (encLX l) = some (encL l)
  | [] => rfl
  | t :: l => by simp [encLX, encL, dtR, dtL_encX t, dtR_encLX l]
end
mutual
theorem flL_encX : ∀ t : T, flL t.encX = true
  | .mk k n s ks l => by
    have h : flR (strs ks) = true := by
      induction ks with
      | nil => rfl
      | cons s ks ih => simp only [strs, List.map_cons, flR, flL, flC, Bool.and_true, Bool.true_and]; exact ih
    simp [T.encX, flL, flC, flR_encLX l, h]
theorem flR_encLX : ∀ l : List T, flR (encLX l) = true
  | [] => rfl
  | t :: l => by simp [encLX, flR, flL_encX t, flR_encLX l]
end
theorem flR_strs (ks : List ByteArray) : flR (strs ks) = true := by
  induction ks with
  | nil => rfl
  | cons s ks ih => simp only [strs, List.map_cons, flR, flL, flC, Bool.and_true, Bool.true_and]; exact ih
attribute [go_sem] flR_strs flR_encLX callL AV.fl Pt.fl flatC encLX_len T.encX_len dtR_encLX allX allXs bslQ Q.toX delR nodupN List.contains_nil List.contains_cons
end Go.Proofs.Pw
/- Ways, and rows of ways. -/
namespace Go.Proofs.Pw
structure Stp where
  map : Bool
  key : ByteArray
  at' : Int
noncomputable instance : DecidableEq Stp := fun a b => Classical.propDecidable (a = b)
def Stp.enc (s : Stp) : List C := [.bool s.map, .str s.key, .int .i64 s.at']
def encS (l : List Stp) : List (List C) := l.map Stp.enc
/-- Rows of ways that nobody else holds. -/
def encSX (l : List (List Stp)) : List (List C) := l.map fun p => [.own 3 (encS p)]
/-- Rows of ways, as data. -/
def encSS (l : List (List Stp)) : List (List C) := l.map fun p => [.row 3 (encS p)]
theorem encS_len (l : List Stp) : (encS l).length = l.length := by simp [encS]
theorem encSX_len (l : List (List Stp)) : (encSX l).length = l.length := by simp [encSX]
theorem plainR_encS (l : List Stp) : plainR (encS l) = true := by
  induction l with
  | nil => rfl
  | cons s l ih => simp only [encS, List.map_cons, plainR_cons, Stp.enc, List.all_cons, plainC, List.all_nil, Bool.and_true, Bool.true_and]; exact ih
@[simp] theorem dtR_encS (l : List Stp) : dtR (encS l) = some (encS l) := dtR_plain (plainR_encS l)
theorem flR_encS (l : List Stp) : flR (encS l) = true := by
  induction l with
  | nil => rfl
  | cons s l ih => simp only [encS, List.map_cons, flR, flL, flC, Stp.enc, Bool.and_true, Bool.true_and]; exact ih
theorem flR_encSX (l : List (List Stp)) : flR (encSX l) = true := by
  induction l with
  | nil => rfl
  | cons s l ih => simp only [encSX, List.map_cons, flR, flL, flC, flR_encS, Bool.and_true, Bool.true_and]; exact ih
@[simp] theorem dtR_encSX (l : List (List Stp)) : dtR (encSX l) = some (encSS l) := by
  induction l with
  | nil => rfl
  | cons s l ih =>
    simp only [encSX, encSS, List.map_cons] at ih ⊢
    simp only [dtR, dtL, dtC, dtR_encS, Option.map_some, ih]
theorem encS_inj : ∀ {a b : List Stp}, encS a = encS b → a = b := by
  intro a
  induction a with
  | nil => intro b h; cases b with
    | nil => rfl
    | cons _ _ => simp [encS] at h
  | cons x a ih => intro b h; cases b with
    | nil => simp [encS] at h
    | cons y b =>
      obtain ⟨m, k, n⟩ := x
      obtain ⟨m', k', n'⟩ := y
      simp only [encS, List.map_cons, List.cons.injEq, Stp.enc, C.bool.injEq, C.str.injEq, C.int.injEq, true_and, and_true] at h
      obtain ⟨⟨rfl, rfl, rfl⟩, h2⟩ := h
      rw [ih h2]
theorem encS_eq {a b : List Stp} : encS a = encS b ↔ a = b := ⟨encS_inj, fun h => h ▸ rfl⟩
theorem encS_at {l : List Stp} {i : Nat} {s : Stp} (h : l[i]? = some s) : (encS l).getD i [] = s.enc := by simp [encS, h]
attribute [go_sem] encS_len encSX_len plainR_encS flR_encS flR_encSX dtR_encSX dtR_encS
end Go.Proofs.Pw
/- Ways: what they are, what lies at their end, and what is put there. -/
namespace Go.Proofs.Pw
def stpOk (s : Stp) : Prop := if s.map = true then okS s.key ∧ s.at' = 0 else s.key = ⟨#[]⟩ ∧ -60 ≤ s.at' ∧ s.at' ≤ 59
noncomputable instance (s : Stp) : Decidable (stpOk s) := Classical.propDecidable _
def wayOk (p : List Stp) : Prop := (∀ s ∈ p, stpOk s) ∧ p.length ≤ 6
noncomputable instance (p : List Stp) : Decidable (wayOk p) := Classical.propDecidable _
def atOk (v : T) : Prop := v.kind = 5 ∨ v.kind = 0
noncomputable instance (v : T) : Decidable (atOk v) := Classical.propDecidable _
def canGo (s : Stp) (v : T) : Prop := if s.map = true then getOk v else atOk v
noncomputable instance (s : Stp) (v : T) : Decidable (canGo s v) := Classical.propDecidable _
def stpFit (s : Stp) : Prop := (s.key.size : Int) ≤ 140737488355328 ∧ -9223372036854775808 ≤ s.at' ∧ s.at' ≤ 9223372036854775807
def wayFit (p : List Stp) : Prop := (p.length : Int) ≤ 140737488355328 ∧ ∀ s ∈ p, stpFit s
theorem Stp.enc_eq {a b : Stp} : a.enc = b.enc ↔ a = b := ⟨fun h => by
  obtain ⟨m, k, n⟩ := a
  obtain ⟨m', k', n'⟩ := b
  simp only [Stp.enc, List.cons.injEq, C.bool.injEq, C.str.injEq, C.int.injEq, true_and, and_true] at h
  obtain ⟨rfl, rfl, rfl⟩ := h
  rfl, fun h => h ▸ rfl⟩
theorem Stp.len3 (s : Stp) : s.enc.length = 3 := rfl
theorem Stp.take3 (s : Stp) : s.enc.take 3 = s.enc := rfl
theorem Stp.takeQ (s : Stp) : (s.enc.map Q.c).take 3 = s.enc.map Q.c := rfl
attribute [go_sem] Stp.take3 Stp.takeQ Stp.len3
theorem wayFit_at {p : List Stp} (h : wayFit p) {i : Nat} {s : Stp} (hs : p[i]? = some s) : stpFit s := h.2 s (List.mem_of_getElem? hs)
end Go.Proofs.Pw
/- Marks: what the laws write into trees, and look for. -/
namespace Go.Proofs.Pw
def digF : Nat → Int → ByteArray → ByteArray
  | 0, _, out => out
  | f + 1, k, out => if 0 < k then digF f (k.tdiv 10) (bytesS [48 + k.tmod 10] ++ out) else out
def mkS (k : Int) : ByteArray := if k ≤ 0 then ⟨#[109, 48]⟩ else ⟨#[109]⟩ ++ digF k.toNat k ⟨#[]⟩
def mkKs : List ByteArray → Int → List ByteArray
  | [], _ => []
  | _ :: r, k => mkS k :: mkKs r (k + 1)
mutual
def nmT : T → Int
  | .mk _ _ _ ks l => 3 + ks.length + nmL l
def nmL : List T → Int
  | [] => 0
  | t :: l => nmT t + nmL l
end
mutual
def mkT : T → Int → T
  | .mk _ _ _ ks l, k => .mk k (k + 1) (mkS (k + 2)) (mkKs ks (k + 3)) (mkL l (k + 3 + ks.length))
def mkL : List T → Int → List T
  | [], _ => []
  | t :: l, k => mkT t k :: mkL l (k + nmT t)
end
theorem mkKs_len : ∀ {ks : List ByteArray} {k : Int}, (mkKs ks k).length = ks.length
  | [], _ => rfl
  | _ :: r, k => by simp [mkKs, mkKs_len (ks := r)]
mutual
theorem nmT_nn : ∀ t : T, 3 ≤ nmT t
  | .mk _ _ _ ks l => by have := nmL_nn l; simp only [nmT]; omega
theorem nmL_nn : ∀ l : List T, 0 ≤ nmL l
  | [] => by simp [nmL]
  | t :: l => by have := nmT_nn t; have := nmL_nn l; simp only [nmL]; omega
end
mutual
theorem nmT_mk : ∀ (t : T) (k : Int), nmT (mkT t k) = nmT t
  | .mk _ _ _ ks l, k => by simp only [mkT, nmT, mkKs_len, nmL_mk l]
theorem nmL_mk : ∀ (l : List T) (k : Int), nmL (mkL l k) = nmL l
  | [], _ => rfl
  | t :: l, k => by simp only [mkL, nmL, nmT_mk t, nmL_mk l]
end
theorem mkKs_mk : ∀ (ks : List ByteArray) (k : Int), mkKs (mkKs ks k) k = mkKs ks k
  | [], _ => rfl
  | _ :: r, k => by simp only [mkKs, mkKs_mk r]
mutual
theorem mkT_mk : ∀ (t : T) (k : Int), mkT (mkT t k) k = mkT t k
  | .mk _ _ _ ks l, k => by simp only [mkT, mkKs_mk, mkKs_len, mkL_mk l]
theorem mkL_mk : ∀ (l : List T) (k : Int), mkL (mkL l k) k = mkL l k
  | [], _ => rfl
  | t :: l, k => by simp only [mkL, mkT_mk t, nmT_mk t, mkL_mk l]
end
mutual
theorem nmT_sz : ∀ {t : T} {left : Int}, 0 ≤ left → 0 ≤ szT t left → nmT t ≤ 3 + 3 * (left - szT t left)
  | .mk k n s ks l, left, h, h0 => by
    simp only [szT] at h0 ⊢
    split at h0
    · omega
    · rename_i c1
      rw [if_neg c1]
      split at h0
      · omega
      · rename_i c2
        rw [if_neg c2]
        split at h0
        · omega
        · rename_i c3
          rw [if_neg c3]
          have h1 := szStrS_le (ks := ks) (left := left - s.size) (by omega)
          have h2 : szStrS ks (left - s.size) ≤ left - s.size - ks.length := by
            have := h1; simp only [szStrS] at c2 ⊢; split
            · rename_i c; rw [if_pos c] at c2; omega
            · exact (szStr_le (by omega)).1
          have h3 := nmL_sz (l := l) (left := szStrS ks (left - s.size) - l.length) (by omega) h0
          simp only [nmT]; omega
theorem nmL_sz : ∀ {l : List T} {left : Int}, 0 ≤ left → 0 ≤ szTL l left → nmL l ≤ 3 * l.length + 3 * (left - szTL l left)
  | [], left, h, h0 => by simp [nmL, szTL]
  | t :: r, left, h, h0 => by
    simp only [szTL] at h0 ⊢
    split at h0
    · omega
    · rename_i c1
      rw [if_neg c1]
      have h1 := nmT_sz (t := t) h (by omega)
      have h2 := nmL_sz (l := r) (left := szT t left) (by omega) h0
      simp only [nmL, List.length_cons]; omega
end
end Go.Proofs.Pw
/- What is small enough by the laws' count fits. -/
namespace Go.Proofs.Pw
theorem szStr_fit : ∀ {ks : List ByteArray} {left : Int}, 0 ≤ left → 0 ≤ szStr ks left → ∀ s ∈ ks, (s.size : Int) ≤ left := by
  intro ks
  induction ks with
  | nil => intro left _ _ s hs; simp at hs
  | cons x r ih =>
    intro left h0 h s hs
    simp only [szStr] at h
    split at h
    · omega
    · rcases List.mem_cons.1 hs with rfl | hs
      · omega
      · have := ih (left := left - x.size) (by omega) h s hs; omega
theorem szStrS_fit {ks : List ByteArray} {left : Int} (h0 : 0 ≤ left) (hl : left ≤ 1048576) (h : 0 ≤ szStrS ks left) : strsFit 1048576 ks := by
  simp only [szStrS] at h
  split at h
  · omega
  · refine ⟨by unfold lenB; omega, fun s hs => ?_⟩
    have := szStr_fit (left := left - ks.length) (by omega) h s hs
    unfold lenB; omega
mutual
theorem szT_fit : ∀ {t : T} {left : Int} {B : Int}, 0 ≤ left → left ≤ 1048576 → t.fit B → 0 ≤ szT t left → t.fit 1048576 ∧ sizeT t ≤ left - szT t left + 1
  | .mk k n s ks l, left, B, h0, hl, hf, h => by
    simp only [T.fit] at hf ⊢
    simp only [szT, sizeT] at h ⊢
    have e1 := szStrS_le (ks := ks) (left := left - s.size)
    split at h
    · omega
    · split at h
      · omega
      · split at h
        · omega
        · rename_i a b c
          rw [if_neg a, if_neg b, if_neg c]
          have h1 := szStrS_fit (ks := ks) (left := left - s.size) (by omega) (by omega) (by omega)
          have h2 := szTL_fit (l := l) (B := B) (left := szStrS ks (left - s.size) - l.length) (by omega) (by omega) hf.2.2.2.2.2 h
          refine ⟨⟨hf.1, hf.2.1, by unfold lenB; omega, h1, by unfold lenB; omega, h2.1⟩, by omega⟩
theorem szTL_fit : ∀ {l : List T} {left : Int} {B : Int}, 0 ≤ left → left ≤ 1048576 → fitL B l → 0 ≤ szTL l left → fitL 1048576 l ∧ sizeL l ≤ left - szTL l left + l.length
  | [], left, B, h0, hl, hf, h => by simp [fitL, sizeL, szTL]
  | t :: r, left, B, h0, hl, hf, h => by
    simp only [fitL] at hf ⊢
    simp only [szTL, sizeL, List.length_cons] at h ⊢
    have e1 := szT_le (t := t) h0
    split at h
    · omega
    · rename_i a
      rw [if_neg a]
      have h1 := szT_fit (t := t) h0 hl hf.1 (by omega)
      have h2 := szTL_fit (l := r) (left := szT t left) (by omega) (by omega) hf.2 h
      exact ⟨⟨h1.1, h2.1⟩, by omega⟩
end
end Go.Proofs.Pw
namespace Go.Proofs.Pw
mutual
theorem szF_fit : ∀ {t : F} {left : Int} {B : Int}, 0 ≤ left → left ≤ 1048576 → t.fit B → 0 ≤ szF t left → t.fit 1048576 ∧ smallF t ∧ sizeF t ≤ left - szF t left + 1
  | .mk k n s v l, left, B, h0, hl, hf, h => by
    simp only [F.fit] at hf ⊢
    simp only [szF, sizeF, smallF] at h ⊢
    have e1 := szT_le (t := v) (left := left - s.size)
    split at h
    · omega
    · split at h
      · omega
      · split at h
        · omega
        · rename_i a b c
          rw [if_neg a, if_neg b, if_neg c]
          have h1 := szT_fit (t := v) (B := B) (left := left - s.size) (by omega) (by omega) hf.2.2.2.1 (by omega)
          have h2 := szFL_fit (l := l) (B := B) (left := szT v (left - s.size) - l.length) (by omega) (by omega) hf.2.2.2.2.2 h
          refine ⟨⟨hf.1, hf.2.1, by unfold lenB; omega, h1.1, by unfold lenB; omega, h2.1⟩, ⟨by omega, h2.2.1⟩, by omega⟩
theorem szFL_fit : ∀ {l : List F} {left : Int} {B : Int}, 0 ≤ left → left ≤ 1048576 → fitF B l → 0 ≤ szFL l left → fitF 1048576 l ∧ smallFL l ∧ sizeFL l ≤ left - szFL l left + l.length
  | [], left, B, h0, hl, hf, h => by simp [fitF, sizeFL, szFL, smallFL]
  | t :: r, left, B, h0, hl, hf, h => by
    simp only [fitF] at hf ⊢
    simp only [szFL, sizeFL, smallFL, List.length_cons] at h ⊢
    have e1 := szF_le (t := t) h0
    split at h
    · omega
    · rename_i a
      rw [if_neg a]
      have h1 := szF_fit (t := t) h0 hl hf.1 (by omega)
      have h2 := szFL_fit (l := r) (left := szF t left) (by omega) (by omega) hf.2 h
      exact ⟨⟨h1.1, h2.1⟩, ⟨h1.2.1, h2.2.1⟩, by omega⟩
end
end Go.Proofs.Pw
namespace Go.Proofs.Pw
end Go.Proofs.Pw
namespace Go.Proofs.Pw
section
set_option linter.unusedSectionVars false
variable {B B' : Int} (hB : B ≤ B')
include hB
theorem lenB_le {n : Nat} (h : lenB B n) : lenB B' n := by unfold lenB at *; omega
theorem strsFit_le {ks : List ByteArray} (h : strsFit B ks) : strsFit B' ks := ⟨lenB_le hB h.1, fun s hs => lenB_le hB (h.2 s hs)⟩
mutual
theorem T.fit_le : ∀ {t : T}, t.fit B → t.fit B'
  | .mk k n s ks l, h => by
    simp only [T.fit] at h ⊢
    exact ⟨h.1, h.2.1, lenB_le hB h.2.2.1, strsFit_le hB h.2.2.2.1, lenB_le hB h.2.2.2.2.1, fitL_le h.2.2.2.2.2⟩
theorem fitL_le : ∀ {l : List T}, fitL B l → fitL B' l
  | [], _ => trivial
  | t :: l, h => by
    simp only [fitL] at h ⊢
    exact ⟨T.fit_le h.1, fitL_le h.2⟩
end
mutual
theorem F.fit_le : ∀ {t : F}, t.fit B → t.fit B'
  | .mk k n s v l, h => by
    simp only [F.fit] at h ⊢
    exact ⟨h.1, h.2.1, lenB_le hB h.2.2.1, T.fit_le hB h.2.2.2.1, lenB_le hB h.2.2.2.2.1, fitF_le h.2.2.2.2.2⟩
theorem fitF_le : ∀ {l : List F}, fitF B l → fitF B' l
  | [], _ => trivial
  | t :: l, h => by
    simp only [fitF] at h ⊢
    exact ⟨F.fit_le h.1, fitF_le h.2⟩
end
theorem Tk.fit_le {t : Tk} (h : t.fit B) : t.fit B' := ⟨T.fit_le hB h.1, lenB_le hB h.2.1, fitF_le hB h.2.2⟩
theorem Gn.fit_le {g : Gn} (h : g.fit B) : g.fit B' := ⟨lenB_le hB h.1, fun t ht => Tk.fit_le hB (h.2.1 t ht), h.2.2⟩
end
end Go.Proofs.Pw
/- Ways in the laws' text: their size, and the marks on them. -/
namespace Go.Proofs.Pw
def szStpS (p : List Stp) (left : Int) : Int := szStrS (p.map Stp.key) left
theorem szStpS_le {p : List Stp} {left : Int} (h : 0 ≤ left) : szStpS p left ≤ left ∧ -1 ≤ szStpS p left := szStrS_le h
theorem szStpS_fit {p : List Stp} {left : Int} (h0 : 0 ≤ left) (hl : left ≤ 1048576) (hw : wayFit p) (h : 0 ≤ szStpS p left) : (p.length : Int) ≤ 1048576 ∧ ∀ s ∈ p, (s.key.size : Int) ≤ 1048576 := by
  unfold szStpS szStrS at h
  split at h
  · omega
  · rename_i h2
    simp only [List.length_map] at h h2
    refine ⟨by omega, fun s hs => ?_⟩
    have := szStr_fit (by omega) h s.key (List.mem_map_of_mem hs)
    omega
end Go.Proofs.Pw
/- Edits, as they lie in cells; their size; their texts. -/
namespace Go.Proofs.Pw
structure Ed where
  path : List Stp
  was : T
  had : Bool
  now : T
  has : Bool
noncomputable instance : DecidableEq Ed := fun a b => Classical.propDecidable (a = b)
def Ed.enc (e : Ed) : List C := .row 3 (encS e.path) :: (e.was.enc ++ (.bool e.had :: (e.now.enc ++ [.bool e.has])))
def encE (l : List Ed) : List (List C) := l.map Ed.enc
theorem encE_len (l : List Ed) : (encE l).length = l.length := by simp [encE]
theorem Ed.enc_len (e : Ed) : e.enc.length = 13 := by simp [Ed.enc, T.enc_len]
theorem Ed.enc_inj {a b : Ed} (h : a.enc = b.enc) : a = b := by
  obtain ⟨p, w, hd, n, hs⟩ := a
  obtain ⟨p', w', hd', n', hs'⟩ := b
  simp only [Ed.enc, List.cons.injEq, C.row.injEq, true_and] at h
  obtain ⟨h1, h2⟩ := h
  obtain ⟨h3, h4⟩ := List.append_inj h2 (by rw [T.enc_len, T.enc_len])
  simp only [List.cons.injEq, C.bool.injEq] at h4
  obtain ⟨h5, h6⟩ := h4
  obtain ⟨h7, h8⟩ := List.append_inj h6 (by rw [T.enc_len, T.enc_len])
  simp only [List.cons.injEq, C.bool.injEq, and_true] at h8
  rw [encS_inj h1, T.enc_inj h3, h5, T.enc_inj h7, h8]
theorem Ed.enc_eq {a b : Ed} : a.enc = b.enc ↔ a = b := ⟨Ed.enc_inj, fun h => h ▸ rfl⟩
theorem encE_inj : ∀ {a b : List Ed}, encE a = encE b → a = b := by
  intro a
  induction a with
  | nil => intro b h; cases b with
    | nil => rfl
    | cons _ _ => simp [encE] at h
  | cons x a ih => intro b h; cases b with
    | nil => simp [encE] at h
    | cons y b =>
      simp only [encE, List.map_cons, List.cons.injEq] at h
      rw [Ed.enc_inj h.1, ih h.2]
theorem encE_eq {a b : List Ed} : encE a = encE b ↔ a = b := ⟨encE_inj, fun h => h ▸ rfl⟩
theorem encE_at {l : List Ed} {i : Nat} {t : Ed} (h : l[i]? = some t) : (encE l).getD i [] = t.enc := by simp [encE, h]
theorem Ed.enc_plain (e : Ed) : e.enc.all plainC = true := by
  simp only [Ed.enc, List.all_cons, List.all_append, T.enc_plain, List.all_nil, Bool.and_true, Bool.true_and]
  simp only [plainC, plainR_encS, Bool.and_true, Bool.true_and]
theorem plainR_encE (l : List Ed) : plainR (encE l) = true := by
  induction l with
  | nil => rfl
  | cons t l ih => simp only [encE, List.map_cons, plainR_cons, Ed.enc_plain]; exact ih
@[simp] theorem dtR_encE (l : List Ed) : dtR (encE l) = some (encE l) := dtR_plain (plainR_encE l)
theorem Ed.enc_toLs (i k o : Nat) (t : Ed) : toLs i k o t.enc = t.enc.map Q.c := toLs_plain t.enc_plain
theorem Ed.enc_take (t : Ed) : (t.enc.map Q.c).take 13 = t.enc.map Q.c := List.take_of_length_le (by simp [Ed.enc_len])
theorem Ed.enc_take13 (t : Ed) : t.enc.take 13 = t.enc := List.take_of_length_le (by simp [Ed.enc_len])
attribute [simp] plainR_encE
attribute [go_sem] encE_len Ed.enc_plain plainR_encE dtR_encE Ed.enc_toLs Ed.enc_take Ed.enc_take13
/-! Sizes. -/
def Ed.fitI (e : Ed) : Prop := wayFit e.path ∧ e.was.fit 140737488355328 ∧ e.now.fit 140737488355328
def fitE (l : List Ed) : Prop := ∀ e ∈ l, e.fitI
def Ed.fitM (e : Ed) : Prop := lenB 1048576 e.path.length ∧ wayFit e.path ∧ e.was.fit 1048576 ∧ e.now.fit 1048576 ∧ sizeT e.was ≤ 1048577 ∧ sizeT e.now ≤ 1048577
def fitEM (l : List Ed) : Prop := ∀ e ∈ l, e.fitM
theorem fitE_mem {l : List Ed} (h : fitE l) : ∀ t ∈ l, t.fitI := h
theorem fitEM_mem {l : List Ed} (h : fitEM l) : ∀ t ∈ l, t.fitM := h
def szEd (e : Ed) (left : Int) : Int := if szStpS e.path left < 0 then -1 else if szT e.was (szStpS e.path left) < 0 then -1 else if szT e.now (szT e.was (szStpS e.path left)) < 0 then -1 else szT e.now (szT e.was (szStpS e.path left))
def szEdL : List Ed → Int → Int
  | [], left => left
  | t :: r, left => if szEd t left < 0 then -1 else szEdL r (szEd t left)
def szEdS (l : List Ed) (left : Int) : Int := if left - l.length < 0 then -1 else szEdL l (left - l.length)
theorem szEd_le {t : Ed} {left : Int} (h : 0 ≤ left) : szEd t left ≤ left ∧ -1 ≤ szEd t left := by
  have h1 := szStpS_le (p := t.path) h
  have h2 := szT_le (t := t.was) (left := szStpS t.path left)
  have h3 := szT_le (t := t.now) (left := szT t.was (szStpS t.path left))
  simp only [szEd]
  repeat' split
  all_goals omega
theorem szEd_fit {t : Ed} {left : Int} (h0 : 0 ≤ left) (hl : left ≤ 1048576) (hf : t.fitI) (h : 0 ≤ szEd t left) : t.fitM := by
  obtain ⟨f1, f2, f3⟩ := hf
  have h1 := szStpS_le (p := t.path) h0
  have h2 := szT_le (t := t.was) (left := szStpS t.path left)
  have h3 := szT_le (t := t.now) (left := szT t.was (szStpS t.path left))
  simp only [szEd] at h
  split at h
  · omega
  split at h
  · omega
  split at h
  · omega
  obtain ⟨g1, -⟩ := szStpS_fit (p := t.path) h0 hl f1 (by omega)
  obtain ⟨g2, g3⟩ := szT_fit (t := t.was) (left := szStpS t.path left) (by omega) (by omega) f2 (by omega)
  obtain ⟨g4, g5⟩ := szT_fit (t := t.now) (left := szT t.was (szStpS t.path left)) (by omega) (by omega) f3 (by omega)
  exact ⟨g1, f1, g2, g4, by omega, by omega⟩
theorem szEdL_fit : ∀ {l : List Ed} {left : Int}, 0 ≤ left → left ≤ 1048576 → fitE l → 0 ≤ szEdL l left → fitEM l
  | [], _, _, _, _, _ => by simp [fitEM]
  | t :: r, left, h0, hl, hf, h => by
    simp only [szEdL] at h
    have h1 := szEd_le (t := t) h0
    split at h
    · omega
    · have a := szEd_fit h0 hl (hf t (by simp)) (by omega)
      have b := szEdL_fit (l := r) (left := szEd t left) (by omega) (by omega) (fun e he => hf e (List.mem_cons_of_mem _ he)) h
      intro e he
      rcases List.mem_cons.1 he with rfl | he
      · exact a
      · exact b e he
theorem szEdS_fit {l : List Ed} (hf : fitE l) (h : 0 ≤ szEdS l 1048576) : lenB 1048576 l.length ∧ fitEM l := by
  unfold szEdS at h
  split at h
  · omega
  · exact ⟨by unfold lenB; omega, szEdL_fit (by omega) (by omega) hf h⟩
/-! Texts. -/
noncomputable def valText (t : T) : ByteArray := if okT t then textT t else ⟨#[]⟩
def stepB (s : Stp) : ByteArray := if s.map = true then ⟨#[46]⟩ ++ s.key else ⟨#[91]⟩ ++ itoaB s.at' ++ ⟨#[93]⟩
def stepsB : List Stp → ByteArray
  | [] => ⟨#[]⟩
  | s :: p => stepB s ++ stepsB p
noncomputable def pathText (p : List Stp) : ByteArray := if wayOk p then ⟨#[36]⟩ ++ stepsB p else ⟨#[]⟩
noncomputable def sideB (v : T) (b : Bool) : ByteArray := if b = true then valText v else ⟨#[45]⟩
noncomputable def editB (e : Ed) : ByteArray := pathText e.path ++ ⟨#[32]⟩ ++ sideB e.was e.had ++ ⟨#[32]⟩ ++ sideB e.now e.has ++ ⟨#[10]⟩
noncomputable def editsB : List Ed → ByteArray
  | [] => ⟨#[]⟩
  | e :: l => editB e ++ editsB l
theorem stepsB_app : ∀ a b : List Stp, stepsB (a ++ b) = stepsB a ++ stepsB b
  | [], b => by simp [stepsB, ba_nil]
  | t :: a, b => by simp only [List.cons_append, stepsB, stepsB_app a b, ba_assoc]
theorem stepsB_take {l : List Stp} {i : Nat} {t : Stp} (h : l[i]? = some t) : stepsB (l.take (i + 1)) = stepsB (l.take i) ++ stepB t := by
  rw [List.take_add_one, h, stepsB_app]
  simp [stepsB, ba_nil']
theorem editsB_app : ∀ a b : List Ed, editsB (a ++ b) = editsB a ++ editsB b
  | [], b => by simp [editsB, ba_nil]
  | t :: a, b => by simp only [List.cons_append, editsB, editsB_app a b, ba_assoc]
theorem editsB_take {l : List Ed} {i : Nat} {t : Ed} (h : l[i]? = some t) : editsB (l.take (i + 1)) = editsB (l.take i) ++ editB t := by
  rw [List.take_add_one, h, editsB_app]
  simp [editsB, ba_nil']
theorem stepB_size {s : Stp} (h : stpOk s) : (stepB s).size ≤ 23 := by
  unfold stpOk at h
  have e1 : (ByteArray.mk #[46]).size = 1 := rfl
  have e2 : (ByteArray.mk #[91]).size = 1 := rfl
  have e3 : (ByteArray.mk #[93]).size = 1 := rfl
  unfold stepB
  split at h
  · rename_i c
    rw [if_pos c, ByteArray.size_append, e1]
    have := h.1.2; omega
  · rename_i c
    have := itoaB_size (n := s.at') (by omega) (by omega)
    rw [if_neg c, ByteArray.size_append, ByteArray.size_append, e2, e3]; omega
theorem stepsB_size : ∀ {p : List Stp}, (∀ s ∈ p, stpOk s) → (stepsB p).size ≤ 23 * p.length
  | [], _ => by simp [stepsB, ByteArray.size]
  | s :: p, h => by
    have a := stepB_size (h s (by simp))
    have b := stepsB_size (p := p) (fun x hx => h x (List.mem_cons_of_mem _ hx))
    simp only [stepsB, ByteArray.size_append, List.length_cons]; omega
theorem stepsB_take_size {p : List Stp} (h : wayOk p) (i : Nat) : (stepsB (p.take i)).size ≤ 138 := by
  have a := stepsB_size (p := p.take i) (fun s hs => h.1 s (List.mem_of_mem_take hs))
  have b := h.2
  rw [List.length_take] at a; omega
theorem pathText_size (p : List Stp) : (pathText p).size ≤ 139 := by
  unfold pathText
  split
  · rename_i h
    have a := stepsB_take_size h p.length
    rw [List.take_length] at a
    have e1 : (ByteArray.mk #[36]).size = 1 := rfl
    rw [ByteArray.size_append, e1]; omega
  · decide
theorem valText_size (t : T) : (valText t).size ≤ 2400 := by
  unfold valText
  split
  · rename_i h
    have a := textT_size h.1
    have b := okT_size h
    omega
  · decide
theorem sideB_size (v : T) (b : Bool) : (sideB v b).size ≤ 2400 := by
  unfold sideB
  split
  · exact valText_size v
  · decide
theorem editB_size (e : Ed) : (editB e).size ≤ 5000 := by
  have a := pathText_size e.path
  have b := sideB_size e.was e.had
  have c := sideB_size e.now e.has
  have e1 : (ByteArray.mk #[32]).size = 1 := rfl
  have e2 : (ByteArray.mk #[10]).size = 1 := rfl
  simp only [editB, ByteArray.size_append, e1, e2]; omega
theorem editsB_size : ∀ l : List Ed, (editsB l).size ≤ 5000 * l.length
  | [] => by simp [editsB, ByteArray.size]
  | e :: l => by
    have a := editB_size e
    have b := editsB_size l
    simp only [editsB, ByteArray.size_append, List.length_cons]; omega
end Go.Proofs.Pw
