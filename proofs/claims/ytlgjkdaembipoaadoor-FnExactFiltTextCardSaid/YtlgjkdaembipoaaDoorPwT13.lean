/- Texts of trees: both programs. -/
import Derived.Test.YtlgjkdaembipoaaDoorPwT12
import Derived.Test.YtlgjkdaembipoaaDoorPwT10
import Derived.Test.YtlgjkdaembipoaaDoorProg
import Derived.KernelRfl
set_option linter.unusedSimpArgs false
set_option linter.unusedVariables false
set_option linter.unusedSimpArgs false
set_option maxRecDepth 20000
namespace Go.Proofs.Pw
set_option linter.unusedSectionVars false
variable [Globs]
def x_l11Dec : X := (.seq (.reg [⟨some 2, none, .mv (.k (.c (.str ⟨#[]⟩)))⟩] none [0]) (.seq (.seq (.reg [⟨some 4, none, .mv (.t 0)⟩, ⟨some 5, none, .bin false .lss (.t 4) (.k (.c (.int .i64 (-9223372036854775807))))⟩] none [0, 5]) (.cond (.t 5) (.seq (.reg [⟨some 2, none, .mv (.k (.c (.str ⟨#[45, 57, 50, 50, 51, 51, 55, 50, 48, 51, 54, 56, 53, 52, 55, 55, 53, 56, 48, 56]⟩)))⟩] none [2]) .ret) .skip)) (.seq (.seq (.reg [⟨some 6, none, .mv (.t 0)⟩, ⟨some 7, none, .bin false .lss (.t 6) (.k (.c (.int .i64 0)))⟩] none [0, 7]) (.cond (.t 7) (.seq (.reg [⟨some 8, none, .mv (.t 0)⟩, ⟨some 9, none, .bin false .sub (.k (.c (.int .i64 0))) (.t 8)⟩, ⟨some 10, none, .call 55 [(.t 9)]⟩, ⟨some 11, none, .bin false .add (.k (.c (.str ⟨#[45]⟩))) (.t 10)⟩, ⟨some 2, none, .mv (.t 11)⟩] none [2]) .ret) .skip)) (.seq (.reg [⟨some 3, none, .mv (.k (.c (.str ⟨#[]⟩)))⟩] none [0, 3]) (.seq (.block 0 (.loop (.seq (.seq (.reg [⟨some 12, none, .mv (.t 0)⟩, ⟨some 13, none, .bin false .gtr (.t 12) (.k (.c (.int .i64 9)))⟩] none [0, 3, 13]) (.cond (.t 13) .skip (.exit 0))) (.block 1 (.seq (.reg [⟨some 14, none, .mv (.t 0)⟩, ⟨some 15, none, .bin false .rem (.t 14) (.k (.c (.int .i64 10)))⟩, ⟨some 16, none, .bin false .add (.k (.c (.int .i64 48))) (.t 15)⟩, ⟨some 17, none, .conv .u8 (.t 16)⟩, ⟨some 18, none, .bsl 1 [((.t 17), none)]⟩, ⟨some 19, none, .bts (.t 18)⟩, ⟨some 20, none, .mv (.t 3)⟩, ⟨some 21, none, .bin false .add (.t 19) (.t 20)⟩, ⟨some 3, none, .mv (.t 21)⟩] none [0, 3]) (.reg [⟨some 22, none, .mv (.t 0)⟩, ⟨some 23, none, .bin false .quo (.t 22) (.k (.c (.int .i64 10)))⟩, ⟨some 0, none, .mv (.t 23)⟩] none [0, 3])))))) (.seq (.reg [⟨some 24, none, .mv (.t 0)⟩, ⟨some 25, none, .bin false .add (.k (.c (.int .i64 48))) (.t 24)⟩, ⟨some 26, none, .conv .u8 (.t 25)⟩, ⟨some 27, none, .bsl 1 [((.t 26), none)]⟩, ⟨some 28, none, .bts (.t 27)⟩, ⟨some 29, none, .mv (.t 3)⟩, ⟨some 30, none, .bin false .add (.t 28) (.t 29)⟩, ⟨some 2, none, .mv (.t 30)⟩] none [2]) .ret))))))
theorem chk_l11Dec : chkX Go.Proofs.Tryd.prog 31 (Go.Proofs.Tryd.f55.body.getD .skip) x_l11Dec = true := by kernel_rfl
theorem rs_l11Dec : okRs Go.Proofs.Tryd.prog Go.Proofs.Tryd.f55.results.toList [.tmp 2] = true := by kernel_rfl
theorem call_l11Dec : okCallee Go.Proofs.Tryd.prog 55 = true := by kernel_rfl
def x_l1Text : X := (.seq (.reg [⟨some 1, none, .box (.t 0) (some 5)⟩, ⟨some 2, none, .mv (.k (.c (.str ⟨#[]⟩)))⟩] none [1]) (.seq (.seq (.reg [⟨some 5, none, .fa (.t 1) 0⟩, ⟨some 6, none, .load (.t 5) none⟩] none [1, 6]) (.block 0 (.seq (.reg [⟨some 8, none, .bin false .eql (.t 6) (.k (.c (.int .i64 0)))⟩, ⟨some 7, none, .mv (.t 8)⟩] none [1, 6, 7]) (.cond (.t 7) (.seq (.reg [⟨some 2, none, .mv (.k (.c (.str ⟨#[110, 117, 108, 108]⟩)))⟩] none [2]) .ret) (.seq (.reg [⟨some 10, none, .bin false .eql (.t 6) (.k (.c (.int .i64 1)))⟩, ⟨some 9, none, .mv (.t 10)⟩] none [1, 6, 9]) (.cond (.t 9) (.seq (.reg [⟨some 2, none, .mv (.k (.c (.str ⟨#[102, 97, 108, 115, 101]⟩)))⟩] none [2]) .ret) (.seq (.reg [⟨some 12, none, .bin false .eql (.t 6) (.k (.c (.int .i64 2)))⟩, ⟨some 11, none, .mv (.t 12)⟩] none [1, 6, 11]) (.cond (.t 11) (.seq (.reg [⟨some 2, none, .mv (.k (.c (.str ⟨#[116, 114, 117, 101]⟩)))⟩] none [2]) .ret) (.seq (.reg [⟨some 14, none, .bin false .eql (.t 6) (.k (.c (.int .i64 3)))⟩, ⟨some 13, none, .mv (.t 14)⟩] none [1, 6, 13]) (.cond (.t 13) (.seq (.reg [⟨some 15, none, .fa (.t 1) 1⟩, ⟨some 16, none, .load (.t 15) none⟩, ⟨some 17, none, .call 55 [(.t 16)]⟩, ⟨some 2, none, .mv (.t 17)⟩] none [2]) .ret) (.seq (.reg [⟨some 19, none, .bin false .eql (.t 6) (.k (.c (.int .i64 4)))⟩, ⟨some 18, none, .mv (.t 19)⟩] none [1, 18]) (.cond (.t 18) (.seq (.reg [⟨some 20, none, .fa (.t 1) 2⟩, ⟨some 21, none, .load (.t 20) none⟩, ⟨some 22, none, .bin false .add (.k (.c (.str ⟨#[39]⟩))) (.t 21)⟩, ⟨some 23, none, .bin false .add (.t 22) (.k (.c (.str ⟨#[39]⟩)))⟩, ⟨some 2, none, .mv (.t 23)⟩] none [2]) .ret) .skip)))))))))))) (.seq (.reg [⟨some 3, none, .mv (.k (.c (.str ⟨#[]⟩)))⟩] none [1, 3]) (.seq (.seq (.reg [⟨some 4, none, .mv (.k (.c (.int .i64 0)))⟩] none [1, 3, 4]) (.block 1 (.loop (.seq (.seq (.reg [⟨some 24, none, .mv (.t 4)⟩, ⟨some 25, none, .fa (.t 1) 4⟩, ⟨some 26, none, .load (.t 25) none⟩, ⟨some 27, none, .len (.t 26) false⟩, ⟨some 28, none, .bin false .lss (.t 24) (.t 27)⟩] none [1, 3, 4, 28]) (.cond (.t 28) .skip (.exit 1))) (.seq (.block 2 (.seq (.seq (.reg [⟨some 31, none, .mv (.t 4)⟩, ⟨some 32, none, .bin false .gtr (.t 31) (.k (.c (.int .i64 0)))⟩] none [1, 3, 4, 32]) (.cond (.t 32) (.reg [⟨some 33, none, .mv (.t 3)⟩, ⟨some 34, none, .bin false .add (.t 33) (.k (.c (.str ⟨#[44]⟩)))⟩, ⟨some 3, none, .mv (.t 34)⟩] none [1, 3, 4]) .skip)) (.seq (.seq (.reg [⟨some 35, none, .fa (.t 1) 0⟩, ⟨some 36, none, .load (.t 35) none⟩, ⟨some 37, none, .bin false .eql (.t 36) (.k (.c (.int .i64 6)))⟩] none [1, 3, 4, 37]) (.cond (.t 37) (.reg [⟨some 38, none, .mv (.t 3)⟩, ⟨some 39, none, .fa (.t 1) 3⟩, ⟨some 40, none, .load (.t 39) none⟩, ⟨some 41, none, .mv (.t 4)⟩, ⟨some 42, none, .ia (.t 40) (.t 41) 1⟩, ⟨some 43, none, .load (.t 42) none⟩, ⟨some 44, none, .bin false .add (.t 38) (.t 43)⟩, ⟨some 45, none, .bin false .add (.t 44) (.k (.c (.str ⟨#[58]⟩)))⟩, ⟨some 3, none, .mv (.t 45)⟩] none [1, 3, 4]) .skip)) (.reg [⟨some 46, none, .mv (.t 3)⟩, ⟨some 47, none, .fa (.t 1) 4⟩, ⟨some 48, none, .load (.t 47) none⟩, ⟨some 49, none, .mv (.t 4)⟩, ⟨some 50, none, .ia (.t 48) (.t 49) 5⟩, ⟨some 51, none, .load (.t 50) (some 5)⟩, ⟨some 52, none, .call 57 [(.t 51)]⟩, ⟨some 53, none, .bin false .add (.t 46) (.t 52)⟩, ⟨some 3, none, .mv (.t 53)⟩] none [1, 3, 4])))) (.reg [⟨some 29, none, .mv (.t 4)⟩, ⟨some 30, none, .bin false .add (.t 29) (.k (.c (.int .i64 1)))⟩, ⟨some 4, none, .mv (.t 30)⟩] none [1, 3, 4])))))) (.seq (.seq (.reg [⟨some 54, none, .fa (.t 1) 0⟩, ⟨some 55, none, .load (.t 54) none⟩, ⟨some 56, none, .bin false .eql (.t 55) (.k (.c (.int .i64 6)))⟩] none [3, 56]) (.cond (.t 56) (.seq (.reg [⟨some 57, none, .mv (.t 3)⟩, ⟨some 58, none, .bin false .add (.k (.c (.str ⟨#[123]⟩))) (.t 57)⟩, ⟨some 59, none, .bin false .add (.t 58) (.k (.c (.str ⟨#[125]⟩)))⟩, ⟨some 2, none, .mv (.t 59)⟩] none [2]) .ret) .skip)) (.seq (.reg [⟨some 60, none, .mv (.t 3)⟩, ⟨some 61, none, .bin false .add (.k (.c (.str ⟨#[91]⟩))) (.t 60)⟩, ⟨some 62, none, .bin false .add (.t 61) (.k (.c (.str ⟨#[93]⟩)))⟩, ⟨some 2, none, .mv (.t 62)⟩] none [2]) .ret))))))
theorem chk_l1Text : chkX Go.Proofs.Tryd.prog 63 (Go.Proofs.Tryd.f57.body.getD .skip) x_l1Text = true := by kernel_rfl
theorem rs_l1Text : okRs Go.Proofs.Tryd.prog Go.Proofs.Tryd.f57.results.toList [.tmp 2] = true := by kernel_rfl
theorem call_l1Text : okCallee Go.Proofs.Tryd.prog 57 = true := by kernel_rfl
def x_textI : X := (.seq (.reg [⟨some 1, none, .box (.t 0) (some 5)⟩, ⟨some 2, none, .mv (.k (.c (.str ⟨#[]⟩)))⟩] none [1]) (.seq (.seq (.reg [⟨some 7, none, .fa (.t 1) 0⟩, ⟨some 8, none, .load (.t 7) none⟩] none [1, 8]) (.block 0 (.seq (.reg [⟨some 10, none, .bin false .eql (.t 8) (.k (.c (.int .i64 0)))⟩, ⟨some 9, none, .mv (.t 10)⟩] none [1, 8, 9]) (.cond (.t 9) (.seq (.reg [⟨some 2, none, .mv (.k (.c (.str ⟨#[110, 117, 108, 108]⟩)))⟩] none [2]) .ret) (.seq (.reg [⟨some 12, none, .bin false .eql (.t 8) (.k (.c (.int .i64 1)))⟩, ⟨some 11, none, .mv (.t 12)⟩] none [1, 8, 11]) (.cond (.t 11) (.seq (.reg [⟨some 2, none, .mv (.k (.c (.str ⟨#[102, 97, 108, 115, 101]⟩)))⟩] none [2]) .ret) (.seq (.reg [⟨some 14, none, .bin false .eql (.t 8) (.k (.c (.int .i64 2)))⟩, ⟨some 13, none, .mv (.t 14)⟩] none [1, 8, 13]) (.cond (.t 13) (.seq (.reg [⟨some 2, none, .mv (.k (.c (.str ⟨#[116, 114, 117, 101]⟩)))⟩] none [2]) .ret) (.seq (.reg [⟨some 16, none, .bin false .eql (.t 8) (.k (.c (.int .i64 3)))⟩, ⟨some 15, none, .mv (.t 16)⟩] none [1, 8, 15]) (.cond (.t 15) (.seq (.reg [⟨some 17, none, .fa (.t 1) 1⟩, ⟨some 18, none, .load (.t 17) none⟩, ⟨some 19, none, .call 41 [(.t 18)]⟩, ⟨some 2, none, .mv (.t 19)⟩] none [2]) .ret) (.seq (.reg [⟨some 21, none, .bin false .eql (.t 8) (.k (.c (.int .i64 4)))⟩, ⟨some 20, none, .mv (.t 21)⟩] none [1, 20]) (.cond (.t 20) (.seq (.reg [⟨some 22, none, .fa (.t 1) 2⟩, ⟨some 23, none, .load (.t 22) none⟩, ⟨some 24, none, .bin false .add (.k (.c (.str ⟨#[39]⟩))) (.t 23)⟩, ⟨some 25, none, .bin false .add (.t 24) (.k (.c (.str ⟨#[39]⟩)))⟩, ⟨some 2, none, .mv (.t 25)⟩] none [2]) .ret) .skip)))))))))))) (.seq (.reg [⟨some 26, none, .bsl 1 []⟩, ⟨some 3, none, .mv (.t 26)⟩] none [1, 3]) (.seq (.seq (.reg [⟨some 27, none, .fa (.t 1) 4⟩, ⟨some 28, none, .load (.t 27) none⟩, ⟨some 29, none, .len (.t 28) false⟩, ⟨some 30, none, .mv (.k (.c (.int .i64 0)))⟩] none [1, 3, 28, 29, 30]) (.block 1 (.loop (.seq (.reg [⟨some 31, none, .bin false .lss (.t 30) (.t 29)⟩] none [1, 3, 28, 29, 30, 31]) (.seq (.cond (.t 31) .skip (.exit 1)) (.seq (.block 2 (.seq (.reg [⟨some 32, none, .mv (.t 30)⟩, ⟨some 33, none, .ia (.t 28) (.t 30) 5⟩, ⟨some 34, none, .load (.t 33) (some 5)⟩, ⟨some 5, none, .alloc [(.c (.int .i64 0)), (.c (.int .i64 0)), (.c (.str ⟨#[]⟩)), (.z 1), (.z 5)]⟩, ⟨some 4, none, .mv (.t 32)⟩, ⟨none, none, .st (.t 5) (.t 34) (some 5)⟩] none [1, 3, 4, 5, 28, 29, 30]) (.seq (.reg [⟨some 35, none, .load (.t 5) (some 5)⟩, ⟨some 36, none, .call 39 [(.t 35)]⟩, ⟨some 6, none, .mv (.t 36)⟩] none [1, 3, 4, 6, 28, 29, 30]) (.seq (.seq (.reg [⟨some 37, none, .fa (.t 1) 0⟩, ⟨some 38, none, .load (.t 37) none⟩, ⟨some 39, none, .bin false .eql (.t 38) (.k (.c (.int .i64 6)))⟩] none [1, 3, 4, 6, 28, 29, 30, 39]) (.cond (.t 39) (.reg [⟨some 40, none, .fa (.t 1) 3⟩, ⟨some 41, none, .load (.t 40) none⟩, ⟨some 42, none, .mv (.t 4)⟩, ⟨some 43, none, .ia (.t 41) (.t 42) 1⟩, ⟨some 44, none, .load (.t 43) none⟩, ⟨some 45, none, .bin false .add (.t 44) (.k (.c (.str ⟨#[58]⟩)))⟩, ⟨some 46, none, .mv (.t 6)⟩, ⟨some 47, none, .bin false .add (.t 45) (.t 46)⟩, ⟨some 6, none, .mv (.t 47)⟩] none [1, 3, 6, 28, 29, 30]) .skip)) (.reg [⟨some 48, none, .mv (.t 3)⟩, ⟨some 49, none, .mv (.t 6)⟩, ⟨some 50, none, .bsl 1 [((.t 49), none)]⟩, ⟨some 51, none, .app (.t 48) (.t 50) 1 16 []⟩, ⟨some 3, none, .mv (.t 51)⟩] none [1, 3, 28, 29, 30]))))) (.reg [⟨some 52, none, .bin false .add (.t 30) (.k (.c (.int .i64 1)))⟩, ⟨some 30, none, .mv (.t 52)⟩] none [1, 3, 28, 29, 30]))))))) (.seq (.seq (.reg [⟨some 53, none, .fa (.t 1) 0⟩, ⟨some 54, none, .load (.t 53) none⟩, ⟨some 55, none, .bin false .eql (.t 54) (.k (.c (.int .i64 6)))⟩] none [3, 55]) (.cond (.t 55) (.seq (.reg [⟨some 56, none, .mv (.t 3)⟩, ⟨some 57, none, .call 60 [(.t 56), (.k (.c (.str ⟨#[44]⟩)))]⟩, ⟨some 58, none, .bin false .add (.k (.c (.str ⟨#[123]⟩))) (.t 57)⟩, ⟨some 59, none, .bin false .add (.t 58) (.k (.c (.str ⟨#[125]⟩)))⟩, ⟨some 2, none, .mv (.t 59)⟩] none [2]) .ret) .skip)) (.seq (.reg [⟨some 60, none, .mv (.t 3)⟩, ⟨some 61, none, .call 60 [(.t 60), (.k (.c (.str ⟨#[44]⟩)))]⟩, ⟨some 62, none, .bin false .add (.k (.c (.str ⟨#[91]⟩))) (.t 61)⟩, ⟨some 63, none, .bin false .add (.t 62) (.k (.c (.str ⟨#[93]⟩)))⟩, ⟨some 2, none, .mv (.t 63)⟩] none [2]) .ret))))))
theorem chk_textI : chkX Go.Proofs.Tryd.prog 64 (Go.Proofs.Tryd.f39.body.getD .skip) x_textI = true := by kernel_rfl
theorem rs_textI : okRs Go.Proofs.Tryd.prog Go.Proofs.Tryd.f39.results.toList [.tmp 2] = true := by kernel_rfl
theorem call_textI : okCallee Go.Proofs.Tryd.prog 39 = true := by kernel_rfl
attribute [go_sem] bytesL flatC
theorem bytesS1 (n : Int) : (bytesS [n]).size = 1 := rfl
noncomputable def spDec (k:Nat) : Spec := Spec.of (ι := Int) [false] (fun i => [.d (.one (.int .i64 i))]) (fun i => (-1000000 ≤ i ∧ i ≤ 1000000) ∧ (if i < 0 then 1 else 0) < k) (fun i => [.d (.one (.str (itoaB i)))]) (fun _ => [.gone])
theorem spDec_inj : ∀ i j : Int, (fun (i : Int) => ([.d (.one (.int .i64 i))] : List AV)) i = (fun (i : Int) => ([.d (.one (.int .i64 i))] : List AV)) j → i = j := by
  intro n n' h
  simpa [strs_eq, T.enc_eq, encL_eq, F.enc_eq, encF_eq, Tk.enc_eq, encTk_eq, Gn.enc_eq, ints_eq] using h
theorem spDec_md (k:Nat) : (spDec k).md = [false] := rfl
theorem spDec_pre (k:Nat) (n : Int) : (spDec k).pre [.d (.one (.int .i64 n))] = ((-1000000 ≤ n ∧ n ≤ 1000000) ∧ (if n < 0 then 1 else 0) < k) := Spec.of_pre' spDec_inj n
theorem spDec_alts (k:Nat) : (spDec k).alts = none := rfl
theorem spDec_res (k:Nat) (n : Int) : (spDec k).res [.d (.one (.int .i64 n))] = [.d (.one (.str (itoaB n)))] := Spec.of_res spDec_inj n
theorem spDec_out (k:Nat) (n : Int) : (spDec k).out [.d (.one (.int .i64 n))] = [.gone] := Spec.of_out spDec_inj n
theorem dec_sound (k : Nat) (hS : Sound Go.Proofs.Tryd.prog 55 (spDec k)) : Sound Go.Proofs.Tryd.prog 55 (spDec (k + 1)) := by
  refine sound_fam (GOK.cons call_l11Dec hS GOK.nil) Go.Proofs.Tryd.func55 (c := Go.Proofs.Tryd.f55.body.getD .skip) rfl (n := 31) rfl chk_l11Dec rs_l11Dec (fun _ => by simp) ?_ ?_
  · exact spDec_inj
  · rintro n ⟨⟨h1, h2⟩, h3⟩
    have a1 : (n < -9223372036854775807) = False := eq_false (by omega)
    by_cases c : n < 0
    · have a2 : (n < 0) = True := eq_true c
      have e := itoaB_neg c
      have z := itoaB_size (n := 0 - n) (by omega) (by omega)
      have e1 : (ByteArray.mk #[45]).size = 1 := rfl
      have m : (if (0 : Int) - n < 0 then 1 else 0) < k := by rw [if_neg (by omega)]; rw [if_pos c] at h3; omega
      simp only [x_l11Dec, rg, go_sem, seval, a1, a2, e1, spDec_md, spDec_pre, spDec_alts, spDec_res, spDec_out]
      repeat' (first | with_reducible assumption | with_reducible refine And.intro ?_ ?_ | intro _)
      all_goals first | omega | assumption | exact e | exact e.symm | skip
    · have a2 : (n < 0) = False := eq_false c
      simp only [x_l11Dec, rg, go_sem, seval, a1, a2]
      refine pw_loop (ι := Int × ByteArray) (fun i => i.1.toNat) (fun i => 0 ≤ i.1 ∧ i.1 ≤ n ∧ i.2.size + i.1 ≤ n ∧ decB i.1.toNat ++ i.2 = itoaB n)
        (fun i => ⟨[(0, .q (.c (.int .i64 i.1))), (3, .q (.c (.str i.2)))], [], []⟩) (n, ⟨#[]⟩) ⟨by omega, by omega, by simp [ByteArray.size], by rw [itoaB_pos (by omega), ba_nil']⟩ (Le.refl _) ?_
      rintro ⟨m, out⟩ ⟨g1, g2, g3, g4⟩
      simp only at g1 g2 g3 g4
      by_cases c2 : 9 < m
      · have a3 : (9 < m) = True := eq_true c2
        have e1 : m.tdiv 10 = m / 10 := Int.tdiv_eq_ediv_of_nonneg (by omega)
        have e2 : m.tmod 10 = m % 10 := Int.tmod_eq_emod_of_nonneg (by omega)
        have e3 : (m / 10).toNat = m.toNat / 10 := by omega
        have e4 : ((48 + m.toNat % 10 : Nat) : Int) = 48 + m % 10 := by omega
        have e5 := decB_step (u := m.toNat) (by omega) out
        rw [e4, ← e3] at e5
        simp only [rg, go_sem, seval, a3, e1, e2, bytesS1]
        repeat' (first | with_reducible assumption | with_reducible refine And.intro ?_ ?_ | intro _)
        all_goals first | omega | skip
        exact ⟨(m / 10, bytesS [48 + m % 10] ++ out), ⟨by omega, by omega, by simp only [ByteArray.size_append, bytesS1]; omega, by simp only; rw [← e5]; exact g4⟩, by simp only; omega, Le.refl _⟩
      · have a3 : (9 < m) = False := eq_false c2
        have e4 : ((48 + m.toNat : Nat) : Int) = 48 + m := by omega
        have e5 := decB_small (u := m.toNat) (by omega)
        rw [e4] at e5
        rw [e5] at g4
        simp only [rg, go_sem, seval, a3, bytesS1]
        repeat' (first | with_reducible assumption | with_reducible refine And.intro ?_ ?_ | intro _)
        all_goals first | omega | exact g4 | exact g4.symm | skip
theorem dec_all (k : Nat) : Sound Go.Proofs.Tryd.prog 55 (spDec k) := by
  induction k with
  | zero => exact Sound.none
  | succ k ih => exact dec_sound k ih
noncomputable def spDecV  : Spec := Spec.of (ι := Int) [false] (fun i => [.d (.one (.int .i64 i))]) (fun i => -1000000 ≤ i ∧ i ≤ 1000000) (fun i => [.d (.one (.str (itoaB i)))]) (fun _ => [.gone])
theorem spDecV_inj : ∀ i j : Int, (fun (i : Int) => ([.d (.one (.int .i64 i))] : List AV)) i = (fun (i : Int) => ([.d (.one (.int .i64 i))] : List AV)) j → i = j := by
  intro n n' h
  simpa [strs_eq, T.enc_eq, encL_eq, F.enc_eq, encF_eq, Tk.enc_eq, encTk_eq, Gn.enc_eq, ints_eq] using h
theorem spDecV_md  : (spDecV).md = [false] := rfl
theorem spDecV_pre  (n : Int) : (spDecV).pre [.d (.one (.int .i64 n))] = (-1000000 ≤ n ∧ n ≤ 1000000) := Spec.of_pre' spDecV_inj n
theorem spDecV_alts  : (spDecV).alts = none := rfl
theorem spDecV_res  (n : Int) : (spDecV).res [.d (.one (.int .i64 n))] = [.d (.one (.str (itoaB n)))] := Spec.of_res spDecV_inj n
theorem spDecV_out  (n : Int) : (spDecV).out [.d (.one (.int .i64 n))] = [.gone] := Spec.of_out spDecV_inj n
theorem decV_sound : Sound Go.Proofs.Tryd.prog 55 spDecV := Sound.all (μ := fun n => if n < 0 then 1 else 0) dec_all
def okTx (t : T) : Prop := (∃ d, formT t d) ∧ sizeT t ≤ 60
theorem okTx_of {t : T} (h : okT t) : okTx t := ⟨⟨_, h.1⟩, okT_size h⟩
theorem okTx_kid {k n : Int} {s : ByteArray} {ks : List ByteArray} {l : List T} (h : okTx (.mk k n s ks l)) {t : T} (ht : t ∈ l) : okTx t := by
  obtain ⟨⟨d, h1⟩, h2⟩ := h
  simp only [formT] at h1
  simp only [sizeT] at h2
  exact ⟨⟨_, formL_mem.1 h1.2.2.2.2.2.2.2.2.2.2.2 t ht⟩, by have := sizeL_mem' ht; omega⟩
theorem okTx_size {t : T} (h : okTx t) : (textT t).size ≤ 2400 := by
  obtain ⟨⟨d, h1⟩, h2⟩ := h
  have := textT_size h1; omega
noncomputable def spTxt (k:Nat) : Spec := Spec.of (ι := T) [false] (fun i => [.d (.agg i.enc)]) (fun i => (okTx i) ∧ SizeOf.sizeOf i < k) (fun i => [.d (.one (.str (textT i)))]) (fun _ => [.gone])
theorem spTxt_inj : ∀ i j : T, (fun (i : T) => ([.d (.agg i.enc)] : List AV)) i = (fun (i : T) => ([.d (.agg i.enc)] : List AV)) j → i = j := by
  intro t t' h
  simpa [strs_eq, T.enc_eq, encL_eq, F.enc_eq, encF_eq, Tk.enc_eq, encTk_eq, Gn.enc_eq, ints_eq] using h
theorem spTxt_md (k:Nat) : (spTxt k).md = [false] := rfl
theorem spTxt_pre (k:Nat) (t : T) : (spTxt k).pre [.d (.agg t.enc)] = ((okTx t) ∧ SizeOf.sizeOf t < k) := Spec.of_pre' spTxt_inj t
theorem spTxt_alts (k:Nat) : (spTxt k).alts = none := rfl
theorem spTxt_res (k:Nat) (t : T) : (spTxt k).res [.d (.agg t.enc)] = [.d (.one (.str (textT t)))] := Spec.of_res spTxt_inj t
theorem spTxt_out (k:Nat) (t : T) : (spTxt k).out [.d (.agg t.enc)] = [.gone] := Spec.of_out spTxt_inj t
set_option maxHeartbeats 2000000 in
theorem txt_sound (k : Nat) (hS : Sound Go.Proofs.Tryd.prog 57 (spTxt k)) : Sound Go.Proofs.Tryd.prog 57 (spTxt (k + 1)) := by
  refine sound_fam (GOK.cons (l := [(57, spTxt k)]) call_l11Dec decV_sound (GOK.cons call_l1Text hS GOK.nil)) Go.Proofs.Tryd.func57 (c := Go.Proofs.Tryd.f57.body.getD .skip) rfl (n := 63) rfl chk_l1Text rs_l1Text (fun _ => by simp) ?_ ?_
  · exact spTxt_inj
  · rintro t ⟨h1, h4⟩
    obtain ⟨kk, n, s, ks, l⟩ := t
    have hkid := fun t ht => okTx_kid h1 (t := t) ht
    have hT := okTx_size h1
    obtain ⟨⟨d, h1⟩, h2⟩ := h1
    have hks := keys_small h1
    have e3 : SizeOf.sizeOf l < k := by have e : SizeOf.sizeOf (T.mk kk n s ks l) < k + 1 := h4
                                        rw [T.mk.sizeOf_spec] at e; omega
    clear h4
    simp only [formT] at h1
    obtain ⟨f1, f2, f3, f4, f5, f6, f7, f8, f9, f10, f11, f12⟩ := h1
    have f13 := f10.2
    simp only [sizeT] at h2
    have f14 := len_sizeL l
    have hz := fun i => join_take (k := kk) hks f12 (by omega) i
    have q1 : (ByteArray.mk #[39]).size = 1 := rfl
    have q2 : (ByteArray.mk #[123]).size = 1 := rfl
    have q3 : (ByteArray.mk #[125]).size = 1 := rfl
    have q4 : (ByteArray.mk #[91]).size = 1 := rfl
    have q5 : (ByteArray.mk #[93]).size = 1 := rfl
    have q6 : (ByteArray.mk #[58]).size = 1 := rfl
    have hkk : kk = 0 ∨ kk = 1 ∨ kk = 2 ∨ kk = 3 ∨ kk = 4 ∨ kk = 5 ∨ kk = 6 := by omega
    rcases hkk with rfl | rfl | rfl | rfl | rfl | hkk
    · simp only [x_l1Text, T.enc, rg, go_sem, seval, Prod.fst, textT]
      repeat' (first | with_reducible assumption | with_reducible refine And.intro ?_ ?_ | intro _)
    · simp only [x_l1Text, T.enc, rg, go_sem, seval, Prod.fst, textT]
      repeat' (first | with_reducible assumption | with_reducible refine And.intro ?_ ?_ | intro _)
      all_goals first | omega | simp
    · simp only [x_l1Text, T.enc, rg, go_sem, seval, Prod.fst, textT]
      repeat' (first | with_reducible assumption | with_reducible refine And.intro ?_ ?_ | intro _)
      all_goals first | omega | simp
    · simp only [x_l1Text, T.enc, rg, go_sem, seval, Prod.fst, textT, spDecV_md, spDecV_pre, spDecV_alts, spDecV_res, spDecV_out]
      repeat' (first | with_reducible assumption | with_reducible refine And.intro ?_ ?_ | intro _)
      all_goals first | omega | simp
    · simp only [x_l1Text, T.enc, rg, go_sem, seval, Prod.fst, textT, q1]
      repeat' (first | with_reducible assumption | with_reducible refine And.intro ?_ ?_ | intro _)
      all_goals first | omega | simp
    have b0 : (kk = 0) = False := eq_false (by omega)
    have b1 : (kk = 1) = False := eq_false (by omega)
    have b2 : (kk = 2) = False := eq_false (by omega)
    have b3 : (kk = 3) = False := eq_false (by omega)
    have b4 : (kk = 4) = False := eq_false (by omega)
    simp only [x_l1Text, T.enc, rg, go_sem, seval, Prod.fst, b0, b1, b2, b3, b4]
    repeat' (first | with_reducible assumption | with_reducible refine And.intro ?_ ?_ | intro _)
    all_goals first | omega | skip
    refine pw_loop (ι := Nat) (fun i => l.length - i) (fun i => i ≤ l.length)
      (fun i => ⟨[(1, .q (.box 1 0)), (3, .q (.c (.str (joinB ((textLs kk ks l).take i) ⟨#[44]⟩)))), (4, .q (.c (.int .i64 i)))],
        [(1, [.c (.int .i64 kk), .c (.int .i64 n), .c (.str s), .c (.row 1 (strs ks)), .c (.row 5 (encL l))])], []⟩) 0 (Nat.zero_le _) (Le.of_eq (by simp [joinB_nil])) ?_
    intro i hi
    rcases Nat.lt_or_ge i l.length with hlt | hge
    · obtain ⟨t, ht, _, hmem⟩ := drop_at hlt
      have a1 := encL_at ht
      have a2 : ((i : Int) < (l.length : Int)) = True := by simp; omega
      have a4 := size_mem hmem
      have a5 := hkid t hmem
      have a6 := T.enc_len t
      have a7 := okTx_size a5
      have a8 := hz i
      have a9 := join_step (textLs_take kk l ks i t ht) (by rw [textLs_len]; exact hlt)
      rcases hkk with hkk | hkk
      · have b5 : (kk = 6) = False := eq_false (by omega)
        simp only [b5, if_false] at a9
        by_cases ci : i = 0
        · have c1 : ((0 : Int) < i) = False := eq_false (by omega)
          rw [if_pos ci] at a9
          subst ci
          simp only [rg, go_sem, seval, Prod.fst, a1, a2, a6, b5, c1, List.take_zero, joinB_nil, ba_nil, encL_len, spTxt_md, spTxt_pre, spTxt_alts, spTxt_res, spTxt_out]
          repeat' (first | with_reducible assumption | with_reducible refine And.intro ?_ ?_ | intro _)
          all_goals first | omega | with_reducible assumption | (rw [show (#[] : Array UInt8).size = 0 from rfl]; omega) | skip
          refine ⟨0 + 1, hlt, by omega, Le.of_eq ?_⟩
          rw [a9]
          simp [ba_nil, ba_assoc]
        · have c1 : ((0 : Int) < i) = True := eq_true (by omega)
          rw [if_neg ci] at a9
          simp only [rg, go_sem, seval, Prod.fst, a1, a2, a6, b5, c1, encL_len, sep_size, ByteArray.size_append, spTxt_md, spTxt_pre, spTxt_alts, spTxt_res, spTxt_out]
          repeat' (first | with_reducible assumption | with_reducible refine And.intro ?_ ?_ | intro _)
          all_goals first | omega | with_reducible assumption | (rw [show (#[] : Array UInt8).size = 0 from rfl]; omega) | skip
          refine ⟨i + 1, hlt, by omega, Le.of_eq ?_⟩
          rw [a9]
          simp [ba_assoc]
      · have b5 : (kk = 6) = True := eq_true (by omega)
        obtain ⟨key, hkey⟩ : ∃ y, ks[i]? = some y := ⟨ks[i]'(by have := (f11 hkk).1; omega), List.getElem?_eq_getElem _⟩
        have b6 := strs_at hkey
        have b7 : ks.getD i ⟨#[]⟩ = key := by simp [List.getD, hkey]
        have b8 := hks key (List.mem_of_getElem? hkey)
        have b9 := (f11 hkk).1
        simp only [b5, if_true, b7] at a9
        by_cases ci : i = 0
        · have c1 : ((0 : Int) < i) = False := eq_false (by omega)
          rw [if_pos ci] at a9
          subst ci
          simp only [rg, go_sem, seval, Prod.fst, a1, a2, a6, b5, b6, c1, q6, List.take_zero, joinB_nil, ba_nil, encL_len, strs_len, ByteArray.size_append, spTxt_md, spTxt_pre, spTxt_alts, spTxt_res, spTxt_out]
          repeat' (first | with_reducible assumption | with_reducible refine And.intro ?_ ?_ | intro _)
          all_goals first | omega | with_reducible assumption | (rw [show (#[] : Array UInt8).size = 0 from rfl]; omega) | skip
          refine ⟨0 + 1, hlt, by omega, Le.of_eq ?_⟩
          rw [a9]
          simp [ba_nil, ba_assoc]
        · have c1 : ((0 : Int) < i) = True := eq_true (by omega)
          rw [if_neg ci] at a9
          simp only [rg, go_sem, seval, Prod.fst, a1, a2, a6, b5, b6, c1, q6, encL_len, strs_len, sep_size, ByteArray.size_append, spTxt_md, spTxt_pre, spTxt_alts, spTxt_res, spTxt_out]
          repeat' (first | with_reducible assumption | with_reducible refine And.intro ?_ ?_ | intro _)
          all_goals first | omega | with_reducible assumption | (rw [show (#[] : Array UInt8).size = 0 from rfl]; omega) | skip
          refine ⟨i + 1, hlt, by omega, Le.of_eq ?_⟩
          rw [a9]
          simp [ba_assoc]
    · have a2 : ((i : Int) < (l.length : Int)) = False := by simp; omega
      have a3 : (textLs kk ks l).take i = textLs kk ks l := List.take_of_length_le (by rw [textLs_len]; exact hge)
      have a4 := hz i
      rw [a3] at a4
      rcases hkk with hkk | hkk
      · have b5 : (kk = 6) = False := eq_false (by omega)
        simp only [rg, go_sem, seval, Prod.fst, a2, a3, b5, encL_len, q4, q5, ByteArray.size_append]
        repeat' (first | with_reducible assumption | with_reducible refine And.intro ?_ ?_ | intro _)
        all_goals first | omega | with_reducible assumption | (rw [show (#[] : Array UInt8).size = 0 from rfl]; omega) | skip
        all_goals (simp only [textT, b0, b1, b2, b3, b4, b5, if_false])
      · have b5 : (kk = 6) = True := eq_true (by omega)
        simp only [rg, go_sem, seval, Prod.fst, a2, a3, b5, encL_len, q2, q3, ByteArray.size_append]
        repeat' (first | with_reducible assumption | with_reducible refine And.intro ?_ ?_ | intro _)
        all_goals first | omega | with_reducible assumption | (rw [show (#[] : Array UInt8).size = 0 from rfl]; omega) | skip
        all_goals (simp only [textT, b0, b1, b2, b3, b4, b5, if_false, if_true])
theorem txt_all (k : Nat) : Sound Go.Proofs.Tryd.prog 57 (spTxt k) := by
  induction k with
  | zero => exact Sound.none
  | succ k ih => exact txt_sound k ih
noncomputable def spTxtV  : Spec := Spec.of (ι := T) [false] (fun i => [.d (.agg i.enc)]) (fun i => okTx i) (fun i => [.d (.one (.str (textT i)))]) (fun _ => [.gone])
theorem spTxtV_inj : ∀ i j : T, (fun (i : T) => ([.d (.agg i.enc)] : List AV)) i = (fun (i : T) => ([.d (.agg i.enc)] : List AV)) j → i = j := by
  intro t t' h
  simpa [strs_eq, T.enc_eq, encL_eq, F.enc_eq, encF_eq, Tk.enc_eq, encTk_eq, Gn.enc_eq, ints_eq] using h
theorem spTxtV_md  : (spTxtV).md = [false] := rfl
theorem spTxtV_pre  (t : T) : (spTxtV).pre [.d (.agg t.enc)] = (okTx t) := Spec.of_pre' spTxtV_inj t
theorem spTxtV_alts  : (spTxtV).alts = none := rfl
theorem spTxtV_res  (t : T) : (spTxtV).res [.d (.agg t.enc)] = [.d (.one (.str (textT t)))] := Spec.of_res spTxtV_inj t
theorem spTxtV_out  (t : T) : (spTxtV).out [.d (.agg t.enc)] = [.gone] := Spec.of_out spTxtV_inj t
theorem txtV_sound : Sound Go.Proofs.Tryd.prog 57 spTxtV := Sound.all (μ := fun t => SizeOf.sizeOf t) txt_all
set_option maxHeartbeats 2000000 in
theorem txtI_sound (hK : tabK) (k : Nat) (hS : Sound Go.Proofs.Tryd.prog 39 (spTxt k)) : Sound Go.Proofs.Tryd.prog 39 (spTxt (k + 1)) := by
  refine sound_fam (GOK.cons (l := [(39, spTxt k), (60, spJoin)]) call_Itoa (itoa_sound hK) (GOK.cons (l := [(60, spJoin)]) call_textI hS (GOK.cons call_Join join_sound GOK.nil))) Go.Proofs.Tryd.func39 (c := Go.Proofs.Tryd.f39.body.getD .skip) rfl (n := 64) rfl chk_textI rs_textI (fun _ => by simp) ?_ ?_
  · exact spTxt_inj
  · rintro t ⟨h1, h4⟩
    obtain ⟨kk, n, s, ks, l⟩ := t
    have hkid := fun t ht => okTx_kid h1 (t := t) ht
    have hT := okTx_size h1
    obtain ⟨⟨d, h1⟩, h2⟩ := h1
    have hks := keys_small h1
    have e3 : SizeOf.sizeOf l < k := by have e : SizeOf.sizeOf (T.mk kk n s ks l) < k + 1 := h4
                                        rw [T.mk.sizeOf_spec] at e; omega
    clear h4
    simp only [formT] at h1
    obtain ⟨f1, f2, f3, f4, f5, f6, f7, f8, f9, f10, f11, f12⟩ := h1
    have f13 := f10.2
    simp only [sizeT] at h2
    have f14 := len_sizeL l
    have hz := fun i => join_take (k := kk) hks f12 (by omega) i
    have q1 : (ByteArray.mk #[39]).size = 1 := rfl
    have q2 : (ByteArray.mk #[123]).size = 1 := rfl
    have q3 : (ByteArray.mk #[125]).size = 1 := rfl
    have q4 : (ByteArray.mk #[91]).size = 1 := rfl
    have q5 : (ByteArray.mk #[93]).size = 1 := rfl
    have q6 : (ByteArray.mk #[58]).size = 1 := rfl
    have hkk : kk = 0 ∨ kk = 1 ∨ kk = 2 ∨ kk = 3 ∨ kk = 4 ∨ kk = 5 ∨ kk = 6 := by omega
    rcases hkk with rfl | rfl | rfl | rfl | rfl | hkk
    · simp only [x_textI, T.enc, rg, go_sem, seval, Prod.fst, textT]
      repeat' (first | with_reducible assumption | with_reducible refine And.intro ?_ ?_ | intro _)
    · simp only [x_textI, T.enc, rg, go_sem, seval, Prod.fst, textT]
      repeat' (first | with_reducible assumption | with_reducible refine And.intro ?_ ?_ | intro _)
      all_goals first | omega | simp
    · simp only [x_textI, T.enc, rg, go_sem, seval, Prod.fst, textT]
      repeat' (first | with_reducible assumption | with_reducible refine And.intro ?_ ?_ | intro _)
      all_goals first | omega | simp
    · simp only [x_textI, T.enc, rg, go_sem, seval, Prod.fst, textT, spItoa_md, spItoa_pre, spItoa_alts, spItoa_res, spItoa_out]
      repeat' (first | with_reducible assumption | with_reducible refine And.intro ?_ ?_ | intro _)
      all_goals first | omega | (unfold i64; omega) | simp
    · simp only [x_textI, T.enc, rg, go_sem, seval, Prod.fst, textT, q1]
      repeat' (first | with_reducible assumption | with_reducible refine And.intro ?_ ?_ | intro _)
      all_goals first | omega | simp
    have b0 : (kk = 0) = False := eq_false (by omega)
    have b1 : (kk = 1) = False := eq_false (by omega)
    have b2 : (kk = 2) = False := eq_false (by omega)
    have b3 : (kk = 3) = False := eq_false (by omega)
    have b4 : (kk = 4) = False := eq_false (by omega)
    simp only [x_textI, T.enc, rg, go_sem, seval, Prod.fst, b0, b1, b2, b3, b4, encL_len]
    repeat' (first | with_reducible assumption | with_reducible refine And.intro ?_ ?_ | intro _)
    all_goals first | omega | skip
    have hA : (l.length : Int) = l.length := rfl
    refine pw_loop (ι := Nat) (fun i => l.length - i) (fun i => i ≤ l.length)
      (fun i => ⟨[(1, .q (.box 1 0)), (3, .q (.own 51)), (28, .q (.c (.row 5 (encL l)))), (29, .q (.c (.int .i64 l.length))), (30, .q (.c (.int .i64 i)))],
        [(1, [.c (.int .i64 kk), .c (.int .i64 n), .c (.str s), .c (.row 1 (strs ks)), .c (.row 5 (encL l))])], [(51, 1, strs ((textLs kk ks l).take i))]⟩) 0 (Nat.zero_le _) ?_ ?_
    · refine Le.own (t := 3) (d := 51) (sz := 1) (by decide) (by simp) (by simp [Q.killO]) ?_
      simp [PV.map, Q.killO, strs]
    intro i hi
    rcases Nat.lt_or_ge i l.length with hlt | hge
    · obtain ⟨t, ht, _, hmem⟩ := drop_at hlt
      have a1 := encL_at ht
      have a2 : ((i : Int) < (l.length : Int)) = True := by simp; omega
      have a4 := size_mem hmem
      have a5 := hkid t hmem
      have a6 := T.enc_len t
      have a7 := okTx_size a5
      have a9 := textLs_take kk l ks i t ht
      have a10 : ((textLs kk ks l).take i).length = i := by rw [List.length_take, textLs_len]; omega
      rcases hkk with hkk | hkk
      · have b5 : (kk = 6) = False := eq_false (by omega)
        simp only [b5, if_false] at a9
        simp only [rg, go_sem, seval, Prod.fst, a1, a2, a6, a10, b5, encL_len, strs_len, spTxt_md, spTxt_pre, spTxt_alts, spTxt_res, spTxt_out]
        repeat' (first | with_reducible assumption | with_reducible refine And.intro ?_ ?_ | intro _)
        all_goals first | omega | with_reducible assumption | skip
        refine ⟨i + 1, hlt, by omega, ?_⟩
        rw [a9, strs_app]
        exact Le.sub (by simp) (by simp) (by simp [strs])
      · have b5 : (kk = 6) = True := eq_true (by omega)
        obtain ⟨key, hkey⟩ : ∃ y, ks[i]? = some y := ⟨ks[i]'(by have := (f11 hkk).1; omega), List.getElem?_eq_getElem _⟩
        have b6 := strs_at hkey
        have b7 : ks.getD i ⟨#[]⟩ = key := by simp [List.getD, hkey]
        have b8 := hks key (List.mem_of_getElem? hkey)
        have b9 := (f11 hkk).1
        simp only [b5, if_true, b7] at a9
        simp only [rg, go_sem, seval, Prod.fst, a1, a2, a6, a10, b5, b6, q6, encL_len, strs_len, ByteArray.size_append, spTxt_md, spTxt_pre, spTxt_alts, spTxt_res, spTxt_out]
        repeat' (first | with_reducible assumption | with_reducible refine And.intro ?_ ?_ | intro _)
        all_goals first | omega | with_reducible assumption | skip
        refine ⟨i + 1, hlt, by omega, ?_⟩
        rw [a9, strs_app]
        exact Le.sub (by simp) (by simp) (by simp [strs])
    · have a2 : ((i : Int) < (l.length : Int)) = False := by simp; omega
      have a3 : (textLs kk ks l).take i = textLs kk ks l := List.take_of_length_le (by rw [textLs_len]; exact hge)
      have a4 := hz i
      have a5 := textLs_len kk ks l
      rw [a3] at a4
      rcases hkk with hkk | hkk
      · have b5 : (kk = 6) = False := eq_false (by omega)
        simp only [rg, go_sem, seval, Prod.fst, a2, a3, a5, b5, encL_len, q4, q5, ByteArray.size_append, lenB, spJoin_md, spJoin_pre, spJoin_alts, spJoin_res, spJoin_out]
        repeat' (first | with_reducible assumption | with_reducible refine And.intro ?_ ?_ | intro _)
        all_goals first | omega | with_reducible assumption | skip
        all_goals (simp only [textT, b0, b1, b2, b3, b4, b5, if_false])
      · have b5 : (kk = 6) = True := eq_true (by omega)
        simp only [rg, go_sem, seval, Prod.fst, a2, a3, a5, b5, encL_len, q2, q3, ByteArray.size_append, lenB, spJoin_md, spJoin_pre, spJoin_alts, spJoin_res, spJoin_out]
        repeat' (first | with_reducible assumption | with_reducible refine And.intro ?_ ?_ | intro _)
        all_goals first | omega | with_reducible assumption | skip
        all_goals (simp only [textT, b0, b1, b2, b3, b4, b5, if_false, if_true])
theorem txtI_all (hK : tabK) (k : Nat) : Sound Go.Proofs.Tryd.prog 39 (spTxt k) := by
  induction k with
  | zero => exact Sound.none
  | succ k ih => exact txtI_sound hK k ih
theorem txtIV_sound (hK : tabK) : Sound Go.Proofs.Tryd.prog 39 spTxtV := Sound.all (μ := fun t => SizeOf.sizeOf t) (txtI_all hK)
end Go.Proofs.Pw
/- Whether two trees are the same: the specification's function and the program's. -/
set_option linter.unusedSimpArgs false
set_option maxRecDepth 20000
namespace Go.Proofs.Pw
set_option linter.unusedSectionVars false
variable [Globs]
def x_ValSame : X := (.seq (.reg [⟨some 2, none, .box (.t 0) (some 5)⟩, ⟨some 3, none, .box (.t 1) (some 5)⟩, ⟨some 4, none, .mv (.k (.c (.bool false)))⟩] none [2, 3]) (.seq (.seq (.reg [⟨some 7, none, .fa (.t 2) 0⟩, ⟨some 8, none, .load (.t 7) none⟩, ⟨some 9, none, .fa (.t 3) 0⟩, ⟨some 10, none, .load (.t 9) none⟩, ⟨some 11, none, .bin false .neq (.t 8) (.t 10)⟩, ⟨some 12, none, .mv (.t 11)⟩, ⟨some 13, some (12, false), .fa (.t 2) 1⟩, ⟨some 14, some (12, false), .load (.t 13) none⟩, ⟨some 15, some (12, false), .fa (.t 3) 1⟩, ⟨some 16, some (12, false), .load (.t 15) none⟩, ⟨some 17, some (12, false), .bin false .neq (.t 14) (.t 16)⟩, ⟨some 18, none, .pick (.t 12) (.k (.c (.bool true))) (.t 17)⟩, ⟨some 19, none, .mv (.t 18)⟩, ⟨some 20, some (19, false), .fa (.t 2) 2⟩, ⟨some 21, some (19, false), .load (.t 20) none⟩, ⟨some 22, some (19, false), .fa (.t 3) 2⟩, ⟨some 23, some (19, false), .load (.t 22) none⟩, ⟨some 24, some (19, false), .bin false .neq (.t 21) (.t 23)⟩, ⟨some 25, none, .pick (.t 19) (.k (.c (.bool true))) (.t 24)⟩, ⟨some 26, none, .mv (.t 25)⟩, ⟨some 27, some (26, false), .fa (.t 2) 3⟩, ⟨some 28, some (26, false), .load (.t 27) none⟩, ⟨some 29, some (26, false), .len (.t 28) false⟩, ⟨some 30, some (26, false), .fa (.t 3) 3⟩, ⟨some 31, some (26, false), .load (.t 30) none⟩, ⟨some 32, some (26, false), .len (.t 31) false⟩, ⟨some 33, some (26, false), .bin false .neq (.t 29) (.t 32)⟩, ⟨some 34, none, .pick (.t 26) (.k (.c (.bool true))) (.t 33)⟩, ⟨some 35, none, .mv (.t 34)⟩, ⟨some 36, some (35, false), .fa (.t 2) 4⟩, ⟨some 37, some (35, false), .load (.t 36) none⟩, ⟨some 38, some (35, false), .len (.t 37) false⟩, ⟨some 39, some (35, false), .fa (.t 3) 4⟩, ⟨some 40, some (35, false), .load (.t 39) none⟩, ⟨some 41, some (35, false), .len (.t 40) false⟩, ⟨some 42, some (35, false), .bin false .neq (.t 38) (.t 41)⟩, ⟨some 43, none, .pick (.t 35) (.k (.c (.bool true))) (.t 42)⟩] none [2, 3, 43]) (.cond (.t 43) (.seq (.reg [⟨some 4, none, .mv (.k (.c (.bool false)))⟩] none [4]) .ret) .skip)) (.seq (.seq (.reg [⟨some 5, none, .mv (.k (.c (.int .i64 0)))⟩] none [2, 3, 5]) (.block 0 (.loop (.seq (.seq (.reg [⟨some 44, none, .mv (.t 5)⟩, ⟨some 45, none, .fa (.t 2) 3⟩, ⟨some 46, none, .load (.t 45) none⟩, ⟨some 47, none, .len (.t 46) false⟩, ⟨some 48, none, .bin false .lss (.t 44) (.t 47)⟩] none [2, 3, 5, 48]) (.cond (.t 48) .skip (.exit 0))) (.seq (.block 1 (.seq (.reg [⟨some 51, none, .fa (.t 2) 3⟩, ⟨some 52, none, .load (.t 51) none⟩, ⟨some 53, none, .mv (.t 5)⟩, ⟨some 54, none, .ia (.t 52) (.t 53) 1⟩, ⟨some 55, none, .load (.t 54) none⟩, ⟨some 56, none, .fa (.t 3) 3⟩, ⟨some 57, none, .load (.t 56) none⟩, ⟨some 58, none, .mv (.t 5)⟩, ⟨some 59, none, .ia (.t 57) (.t 58) 1⟩, ⟨some 60, none, .load (.t 59) none⟩, ⟨some 61, none, .bin false .neq (.t 55) (.t 60)⟩] (some 10) [2, 3, 5, 61]) (.cond (.t 61) (.seq (.reg [⟨some 4, none, .mv (.k (.c (.bool false)))⟩] none [4]) .ret) .skip))) (.reg [⟨some 49, none, .mv (.t 5)⟩, ⟨some 50, none, .bin false .add (.t 49) (.k (.c (.int .i64 1)))⟩, ⟨some 5, none, .mv (.t 50)⟩] none [2, 3, 5])))))) (.seq (.seq (.reg [⟨some 6, none, .mv (.k (.c (.int .i64 0)))⟩] none [2, 3, 6]) (.block 2 (.loop (.seq (.seq (.reg [⟨some 62, none, .mv (.t 6)⟩, ⟨some 63, none, .fa (.t 2) 4⟩, ⟨some 64, none, .load (.t 63) none⟩, ⟨some 65, none, .len (.t 64) false⟩, ⟨some 66, none, .bin false .lss (.t 62) (.t 65)⟩] none [2, 3, 6, 66]) (.cond (.t 66) .skip (.exit 2))) (.seq (.block 3 (.seq (.reg [⟨some 69, none, .fa (.t 2) 4⟩, ⟨some 70, none, .load (.t 69) none⟩, ⟨some 71, none, .mv (.t 6)⟩, ⟨some 72, none, .ia (.t 70) (.t 71) 5⟩, ⟨some 73, none, .load (.t 72) (some 5)⟩, ⟨some 74, none, .fa (.t 3) 4⟩, ⟨some 75, none, .load (.t 74) none⟩, ⟨some 76, none, .mv (.t 6)⟩, ⟨some 77, none, .ia (.t 75) (.t 76) 5⟩, ⟨some 78, none, .load (.t 77) (some 5)⟩, ⟨some 79, none, .call 78 [(.t 73), (.t 78)]⟩, ⟨some 80, none, .not (.t 79)⟩] (some 10) [2, 3, 6, 80]) (.cond (.t 80) (.seq (.reg [⟨some 4, none, .mv (.k (.c (.bool false)))⟩] none [4]) .ret) .skip))) (.reg [⟨some 67, none, .mv (.t 6)⟩, ⟨some 68, none, .bin false .add (.t 67) (.k (.c (.int .i64 1)))⟩, ⟨some 6, none, .mv (.t 68)⟩] none [2, 3, 6])))))) (.seq (.reg [⟨some 4, none, .mv (.k (.c (.bool true)))⟩] none [4]) .ret)))))
theorem chk_ValSame : chkX Go.Proofs.Tryd.prog 81 (Go.Proofs.Tryd.f78.body.getD .skip) x_ValSame = true := by kernel_rfl
theorem rs_ValSame : okRs Go.Proofs.Tryd.prog Go.Proofs.Tryd.f78.results.toList [.tmp 4] = true := by kernel_rfl
theorem call_ValSame : okCallee Go.Proofs.Tryd.prog 78 = true := by kernel_rfl
def x_EqualS : X := (.seq (.reg [⟨some 4, none, .mv (.k (.c (.bool false)))⟩] none [0, 1]) (.seq (.seq (.reg [⟨some 6, none, .mv (.t 0)⟩, ⟨some 7, none, .len (.t 6) false⟩, ⟨some 8, none, .mv (.t 1)⟩, ⟨some 9, none, .len (.t 8) false⟩, ⟨some 10, none, .bin false .neq (.t 7) (.t 9)⟩] none [0, 1, 10]) (.cond (.t 10) (.seq (.reg [⟨some 4, none, .mv (.k (.c (.bool false)))⟩] none [4]) .ret) .skip)) (.seq (.seq (.reg [⟨some 11, none, .mv (.t 0)⟩, ⟨some 12, none, .len (.t 11) false⟩, ⟨some 13, none, .mv (.k (.c (.int .i64 0)))⟩] none [0, 1, 12, 13]) (.block 0 (.loop (.seq (.reg [⟨some 14, none, .bin false .lss (.t 13) (.t 12)⟩] none [0, 1, 12, 13, 14]) (.seq (.cond (.t 14) .skip (.exit 0)) (.seq (.block 1 (.seq (.reg [⟨some 15, none, .mv (.t 13)⟩, ⟨some 5, none, .mv (.t 15)⟩] none [0, 1, 5, 12, 13]) (.seq (.reg [⟨some 16, none, .mv (.t 0)⟩, ⟨some 17, none, .mv (.t 5)⟩, ⟨some 18, none, .ia (.t 16) (.t 17) 1⟩, ⟨some 19, none, .load (.t 18) none⟩, ⟨some 20, none, .mv (.t 1)⟩, ⟨some 21, none, .mv (.t 5)⟩, ⟨some 22, none, .ia (.t 20) (.t 21) 1⟩, ⟨some 23, none, .load (.t 22) none⟩, ⟨some 24, none, .bin false .neq (.t 19) (.t 23)⟩] (some 8) [0, 1, 12, 13, 24]) (.cond (.t 24) (.seq (.reg [⟨some 4, none, .mv (.k (.c (.bool false)))⟩] none [4]) .ret) .skip)))) (.reg [⟨some 25, none, .bin false .add (.t 13) (.k (.c (.int .i64 1)))⟩, ⟨some 13, none, .mv (.t 25)⟩] none [0, 1, 12, 13]))))))) (.seq (.reg [⟨some 4, none, .mv (.k (.c (.bool true)))⟩] none [4]) .ret))))
theorem chk_EqualS : chkX Go.Proofs.Tryd.prog 26 (Go.Proofs.Tryd.f87.body.getD .skip) x_EqualS = true := by kernel_rfl
theorem rs_EqualS : okRs Go.Proofs.Tryd.prog Go.Proofs.Tryd.f87.results.toList [.tmp 4] = true := by kernel_rfl
theorem call_EqualS : okCallee Go.Proofs.Tryd.prog 87 = true := by kernel_rfl
def x_EqualF : X := (.seq (.reg [⟨some 6, none, .mv (.k (.c (.bool false)))⟩] none [0, 1, 2]) (.seq (.seq (.reg [⟨some 10, none, .mv (.t 0)⟩, ⟨some 11, none, .len (.t 10) false⟩, ⟨some 12, none, .mv (.t 1)⟩, ⟨some 13, none, .len (.t 12) false⟩, ⟨some 14, none, .bin false .neq (.t 11) (.t 13)⟩] none [0, 1, 2, 14]) (.cond (.t 14) (.seq (.reg [⟨some 6, none, .mv (.k (.c (.bool false)))⟩] none [6]) .ret) .skip)) (.seq (.seq (.reg [⟨some 15, none, .mv (.t 0)⟩, ⟨some 16, none, .len (.t 15) false⟩, ⟨some 17, none, .mv (.k (.c (.int .i64 0)))⟩] none [1, 2, 15, 16, 17]) (.block 0 (.loop (.seq (.reg [⟨some 18, none, .bin false .lss (.t 17) (.t 16)⟩] none [1, 2, 15, 16, 17, 18]) (.seq (.cond (.t 18) .skip (.exit 0)) (.seq (.block 1 (.seq (.reg [⟨some 19, none, .mv (.t 17)⟩, ⟨some 20, none, .ia (.t 15) (.t 17) 5⟩, ⟨some 21, none, .load (.t 20) (some 5)⟩, ⟨some 8, none, .alloc [(.c (.int .i64 0)), (.c (.int .i64 0)), (.c (.str ⟨#[]⟩)), (.z 1), (.z 5)]⟩, ⟨some 7, none, .mv (.t 19)⟩, ⟨none, none, .st (.t 8) (.t 21) (some 5)⟩] none [1, 2, 7, 8, 15, 16, 17]) (.seq (.reg [⟨some 22, none, .mv (.t 1)⟩, ⟨some 23, none, .mv (.t 7)⟩, ⟨some 24, none, .ia (.t 22) (.t 23) 5⟩, ⟨some 25, none, .load (.t 24) (some 5)⟩, ⟨some 9, none, .alloc [(.c (.int .i64 0)), (.c (.int .i64 0)), (.c (.str ⟨#[]⟩)), (.z 1), (.z 5)]⟩, ⟨none, none, .st (.t 9) (.t 25) (some 5)⟩] none [1, 2, 8, 9, 15, 16, 17]) (.seq (.reg [⟨some 26, none, .mv (.t 2)⟩, ⟨some 27, none, .load (.t 8) (some 5)⟩, ⟨some 28, none, .load (.t 9) (some 5)⟩, ⟨some 29, none, .calli (.t 26) [(.t 27), (.t 28)]⟩, ⟨some 30, none, .not (.t 29)⟩] none [1, 2, 15, 16, 17, 30]) (.cond (.t 30) (.seq (.reg [⟨some 6, none, .mv (.k (.c (.bool false)))⟩] none [6]) .ret) .skip))))) (.reg [⟨some 31, none, .bin false .add (.t 17) (.k (.c (.int .i64 1)))⟩, ⟨some 17, none, .mv (.t 31)⟩] none [1, 2, 15, 16, 17]))))))) (.seq (.reg [⟨some 6, none, .mv (.k (.c (.bool true)))⟩] none [6]) .ret))))
theorem chk_EqualF : chkX Go.Proofs.Tryd.prog 32 (Go.Proofs.Tryd.f88.body.getD .skip) x_EqualF = true := by kernel_rfl
theorem rs_EqualF : okRs Go.Proofs.Tryd.prog Go.Proofs.Tryd.f88.results.toList [.tmp 6] = true := by kernel_rfl
theorem call_EqualF : okCallee Go.Proofs.Tryd.prog 88 = true := by kernel_rfl
def x_ValSameI : X := (.seq (.reg [⟨some 2, none, .box (.t 0) (some 5)⟩, ⟨some 3, none, .box (.t 1) (some 5)⟩, ⟨some 4, none, .mv (.k (.c (.bool false)))⟩] none [2, 3]) (.seq (.reg [⟨some 5, none, .fa (.t 2) 0⟩, ⟨some 6, none, .load (.t 5) none⟩, ⟨some 7, none, .fa (.t 3) 0⟩, ⟨some 8, none, .load (.t 7) none⟩, ⟨some 9, none, .bin false .eql (.t 6) (.t 8)⟩, ⟨some 10, none, .mv (.t 9)⟩, ⟨some 11, some (10, true), .fa (.t 2) 1⟩, ⟨some 12, some (10, true), .load (.t 11) none⟩, ⟨some 13, some (10, true), .fa (.t 3) 1⟩, ⟨some 14, some (10, true), .load (.t 13) none⟩, ⟨some 15, some (10, true), .bin false .eql (.t 12) (.t 14)⟩, ⟨some 16, none, .pick (.t 10) (.t 15) (.k (.c (.bool false)))⟩, ⟨some 17, none, .mv (.t 16)⟩, ⟨some 18, some (17, true), .fa (.t 2) 2⟩, ⟨some 19, some (17, true), .load (.t 18) none⟩, ⟨some 20, some (17, true), .fa (.t 3) 2⟩, ⟨some 21, some (17, true), .load (.t 20) none⟩, ⟨some 22, some (17, true), .bin false .eql (.t 19) (.t 21)⟩, ⟨some 23, none, .pick (.t 17) (.t 22) (.k (.c (.bool false)))⟩, ⟨some 24, none, .mv (.t 23)⟩, ⟨some 25, some (24, true), .fa (.t 2) 3⟩, ⟨some 26, some (24, true), .load (.t 25) none⟩, ⟨some 27, some (24, true), .fa (.t 3) 3⟩, ⟨some 28, some (24, true), .load (.t 27) none⟩, ⟨some 29, some (24, true), .call 87 [(.t 26), (.t 28)]⟩, ⟨some 30, none, .pick (.t 24) (.t 29) (.k (.c (.bool false)))⟩, ⟨some 31, none, .mv (.t 30)⟩, ⟨some 32, some (31, true), .fa (.t 2) 4⟩, ⟨some 33, some (31, true), .load (.t 32) none⟩, ⟨some 34, some (31, true), .fa (.t 3) 4⟩, ⟨some 35, some (31, true), .load (.t 34) none⟩, ⟨some 36, some (31, true), .call 88 [(.t 33), (.t 35), (.k (.c (.fn 79)))]⟩, ⟨some 37, none, .pick (.t 31) (.t 36) (.k (.c (.bool false)))⟩, ⟨some 4, none, .mv (.t 37)⟩] none [4]) .ret))
theorem chk_ValSameI : chkX Go.Proofs.Tryd.prog 38 (Go.Proofs.Tryd.f79.body.getD .skip) x_ValSameI = true := by kernel_rfl
theorem rs_ValSameI : okRs Go.Proofs.Tryd.prog Go.Proofs.Tryd.f79.results.toList [.tmp 4] = true := by kernel_rfl
theorem call_ValSameI : okCallee Go.Proofs.Tryd.prog 79 = true := by kernel_rfl
def x_noneI : X := (.seq (.reg [⟨some 1, none, .box (.t 0) (some 5)⟩, ⟨some 2, none, .mv (.k (.c (.bool false)))⟩] none [1]) (.seq (.reg [⟨some 3, none, .load (.t 1) (some 5)⟩, ⟨some 4, none, .build [(.c (.int .i64 0)), (.c (.int .i64 0)), (.c (.str ⟨#[]⟩)), (.z 1), (.z 5)] []⟩, ⟨some 5, none, .call 79 [(.t 3), (.t 4)]⟩, ⟨some 2, none, .mv (.t 5)⟩] none [2]) .ret))
theorem chk_noneI : chkX Go.Proofs.Tryd.prog 6 (Go.Proofs.Tryd.f70.body.getD .skip) x_noneI = true := by kernel_rfl
theorem rs_noneI : okRs Go.Proofs.Tryd.prog Go.Proofs.Tryd.f70.results.toList [.tmp 2] = true := by kernel_rfl
theorem call_noneI : okCallee Go.Proofs.Tryd.prog 70 = true := by kernel_rfl
noncomputable def spSame (k:Nat) : Spec := Spec.of (ι := T × T) [false, false] (fun i => [.d (.agg i.1.enc), .d (.agg i.2.enc)]) (fun i => (i.1.fit 140737488355328 ∧ i.2.fit 140737488355328) ∧ SizeOf.sizeOf i.1 < k) (fun i => [.d (.one (.bool (decide (i.1 = i.2))))]) (fun _ => [.gone, .gone])
theorem spSame_inj : ∀ i j : T × T, (fun (i : T × T) => ([.d (.agg i.1.enc), .d (.agg i.2.enc)] : List AV)) i = (fun (i : T × T) => ([.d (.agg i.1.enc), .d (.agg i.2.enc)] : List AV)) j → i = j := by
  rintro ⟨a, b⟩ ⟨a', b'⟩ h
  simp only [Prod.mk.injEq]
  simpa [strs_eq, T.enc_eq, encL_eq, F.enc_eq, encF_eq, Tk.enc_eq, encTk_eq, Gn.enc_eq, ints_eq] using h
theorem spSame_md (k:Nat) : (spSame k).md = [false, false] := rfl
theorem spSame_pre (k:Nat) (a : T) (b : T) : (spSame k).pre [.d (.agg a.enc), .d (.agg b.enc)] = ((a.fit 140737488355328 ∧ b.fit 140737488355328) ∧ SizeOf.sizeOf a < k) := Spec.of_pre' spSame_inj (a, b)
theorem spSame_alts (k:Nat) : (spSame k).alts = none := rfl
theorem spSame_res (k:Nat) (a : T) (b : T) : (spSame k).res [.d (.agg a.enc), .d (.agg b.enc)] = [.d (.one (.bool (decide (a = b))))] := Spec.of_res spSame_inj (a, b)
theorem spSame_out (k:Nat) (a : T) (b : T) : (spSame k).out [.d (.agg a.enc), .d (.agg b.enc)] = [.gone, .gone] := Spec.of_out spSame_inj (a, b)
theorem same_sound (k : Nat) (hS : Sound Go.Proofs.Tryd.prog 78 (spSame k)) : Sound Go.Proofs.Tryd.prog 78 (spSame (k + 1)) := by
  refine sound_fam (GOK.cons call_ValSame hS GOK.nil) Go.Proofs.Tryd.func78 (c := Go.Proofs.Tryd.f78.body.getD .skip) rfl (n := 81) rfl chk_ValSame rs_ValSame (fun _ => by simp) ?_ ?_
  · exact spSame_inj
  · rintro ⟨a, b⟩ ⟨⟨h1, h2⟩, h4⟩
    obtain ⟨kk, n, s, ks, l⟩ := a
    obtain ⟨kk', n', s', ks', l'⟩ := b
    simp only [T.fit, lenB, strsFit] at h1 h2
    obtain ⟨_, _, f1, ⟨f2, f2'⟩, f3, f4⟩ := h1
    obtain ⟨_, _, g1, ⟨g2, g2'⟩, g3, g4⟩ := h2
    have e3 : SizeOf.sizeOf l < k := by have e : SizeOf.sizeOf (T.mk kk n s ks l) < k + 1 := h4
                                        rw [T.mk.sizeOf_spec] at e; omega
    clear h4
    have c1 : ks = ks' → ks.length = ks'.length := fun h => by rw [h]
    have c2 : l = l' → l.length = l'.length := fun h => by rw [h]
    simp only [x_ValSame, T.enc, go_sem, seval, rg, T.mk.injEq]
    repeat' (first | with_reducible assumption | with_reducible refine And.intro ?_ ?_ | intro _)
    all_goals first | omega | (grind; done) | skip
    have hl : ks.length = ks'.length := by grind
    have hl' : l.length = l'.length := by grind
    have hb : (kk = kk' ∧ n = n' ∧ s = s' ∧ ks = ks' ∧ l = l') ↔ (ks = ks' ∧ l = l') := by grind
    clear c1 c2
    repeat (rename_i hx; clear hx)
    refine pw_loop (ι := Nat) (fun i => ks.length - i) (fun i => i ≤ ks.length ∧ ks.take i = ks'.take i)
      (fun i => ⟨[(2, .q (.box 2 0)), (3, .q (.box 3 0)), (5, .q (.c (.int .i64 i)))], [(2, [.c (.int .i64 kk), .c (.int .i64 n), .c (.str s), .c (.row 1 (strs ks)), .c (.row 5 (encL l))]), (3, [.c (.int .i64 kk'), .c (.int .i64 n'), .c (.str s'), .c (.row 1 (strs ks')), .c (.row 5 (encL l'))])], []⟩) 0 ⟨Nat.zero_le _, rfl⟩ (Le.refl _) ?_
    rintro i ⟨hi, heq⟩
    rcases Nat.lt_or_ge i ks.length with hlt | hge
    · obtain ⟨x, hx, _, hmem⟩ := drop_at hlt
      obtain ⟨x', hx', _, hmem'⟩ := drop_at (l := ks') (i := i) (by omega)
      have a1 := strs_at hx
      have a1' := strs_at hx'
      have a2 : ((i : Int) < (ks.length : Int)) = True := by simp; omega
      have a3 : ((i : Int) < (ks'.length : Int)) = True := by simp; omega
      by_cases hc : x = x'
      · have c1 : (x = x') = True := by simp [hc]
        simp only [go_sem, seval, rg, a1, a1', a2, a3, c1]
        repeat' (first | with_reducible assumption | with_reducible refine And.intro ?_ ?_ | intro _)
        all_goals first | omega | skip
        exact ⟨i + 1, ⟨by omega, take_at hx (hc ▸ hx') heq⟩, by omega, Le.refl _⟩
      · have c1 : (x = x') = False := by simp [hc]
        have hne := ne_at hx hx' hc
        simp only [go_sem, seval, rg, a1, a1', a2, a3, c1]
        repeat' (first | with_reducible assumption | with_reducible refine And.intro ?_ ?_ | intro _)
        all_goals first | omega | skip
        rename_i h; exact hne (hb.1 h).1
    · have a2 : ((i : Int) < (ks.length : Int)) = False := by simp; omega
      have hie : i = ks.length := by omega
      subst hie
      have hks := take_all hl heq
      simp only [go_sem, seval, a2]
      refine pw_loop (ι := Nat) (fun i => l.length - i) (fun i => i ≤ l.length ∧ l.take i = l'.take i)
        (fun i => ⟨[(2, .q (.box 2 0)), (3, .q (.box 3 0)), (6, .q (.c (.int .i64 i)))], [(2, [.c (.int .i64 kk), .c (.int .i64 n), .c (.str s), .c (.row 1 (strs ks)), .c (.row 5 (encL l))]), (3, [.c (.int .i64 kk'), .c (.int .i64 n'), .c (.str s'), .c (.row 1 (strs ks')), .c (.row 5 (encL l'))])], []⟩) 0 ⟨Nat.zero_le _, rfl⟩ (Le.refl _) ?_
      rintro i ⟨hi, heq⟩
      rcases Nat.lt_or_ge i l.length with hlt | hge
      · obtain ⟨x, hx, _, hmem⟩ := drop_at hlt
        obtain ⟨x', hx', _, hmem'⟩ := drop_at (l := l') (i := i) (by omega)
        have a1 := encL_at hx
        have a1' := encL_at hx'
        have a2 : ((i : Int) < (l.length : Int)) = True := by simp; omega
        have a3 : ((i : Int) < (l'.length : Int)) = True := by simp; omega
        have a4 := fitL_mem f4 x hmem
        have a5 := fitL_mem g4 x' hmem'
        have a6 := T.enc_len x
        have a6' := T.enc_len x'
        have a8 := size_mem hmem
        by_cases hc : x = x'
        · have c1 : (x = x') = True := by simp [hc]
          simp only [go_sem, seval, rg, a1, a1', a2, a3, a6, a6', c1, spSame_md, spSame_pre, spSame_alts, spSame_res, spSame_out]
          repeat' (first | with_reducible assumption | with_reducible refine And.intro ?_ ?_ | intro _)
          all_goals first | omega | skip
          exact ⟨i + 1, ⟨by omega, take_at hx (hc ▸ hx') heq⟩, by omega, Le.refl _⟩
        · have c1 : (x = x') = False := by simp [hc]
          have hne := ne_at hx hx' hc
          simp only [go_sem, seval, rg, a1, a1', a2, a3, a6, a6', c1, spSame_md, spSame_pre, spSame_alts, spSame_res, spSame_out]
          repeat' (first | with_reducible assumption | with_reducible refine And.intro ?_ ?_ | intro _)
          all_goals first | omega | skip
          rename_i h; exact hne (hb.1 h).2
      · have a2 : ((i : Int) < (l.length : Int)) = False := by simp; omega
        have hie : i = l.length := by omega
        subst hie
        have hls := take_all hl' heq
        simp only [go_sem, seval, a2]
        exact hb.2 ⟨hks, hls⟩
theorem same_all : ∀ k, Sound Go.Proofs.Tryd.prog 78 (spSame k) := fun k => Nat.rec Sound.none (fun k ih => same_sound k ih) k
noncomputable def spSameV  : Spec := Spec.of (ι := T × T) [false, false] (fun i => [.d (.agg i.1.enc), .d (.agg i.2.enc)]) (fun i => i.1.fit 140737488355328 ∧ i.2.fit 140737488355328) (fun i => [.d (.one (.bool (decide (i.1 = i.2))))]) (fun _ => [.gone, .gone])
theorem spSameV_inj : ∀ i j : T × T, (fun (i : T × T) => ([.d (.agg i.1.enc), .d (.agg i.2.enc)] : List AV)) i = (fun (i : T × T) => ([.d (.agg i.1.enc), .d (.agg i.2.enc)] : List AV)) j → i = j := by
  rintro ⟨a, b⟩ ⟨a', b'⟩ h
  simp only [Prod.mk.injEq]
  simpa [strs_eq, T.enc_eq, encL_eq, F.enc_eq, encF_eq, Tk.enc_eq, encTk_eq, Gn.enc_eq, ints_eq] using h
theorem spSameV_md  : (spSameV).md = [false, false] := rfl
theorem spSameV_pre  (a : T) (b : T) : (spSameV).pre [.d (.agg a.enc), .d (.agg b.enc)] = (a.fit 140737488355328 ∧ b.fit 140737488355328) := Spec.of_pre' spSameV_inj (a, b)
theorem spSameV_alts  : (spSameV).alts = none := rfl
theorem spSameV_res  (a : T) (b : T) : (spSameV).res [.d (.agg a.enc), .d (.agg b.enc)] = [.d (.one (.bool (decide (a = b))))] := Spec.of_res spSameV_inj (a, b)
theorem spSameV_out  (a : T) (b : T) : (spSameV).out [.d (.agg a.enc), .d (.agg b.enc)] = [.gone, .gone] := Spec.of_out spSameV_inj (a, b)
theorem sameV_sound : Sound Go.Proofs.Tryd.prog 78 spSameV := Sound.all (μ := fun i => SizeOf.sizeOf i.1) same_all
noncomputable def spEqualS  : Spec := Spec.of (ι := (List ByteArray) × (List ByteArray)) [false, false] (fun i => [.d (.one (.row 1 (strs i.1))), .d (.one (.row 1 (strs i.2)))]) (fun i => lenB 140737488355328 i.1.length ∧ lenB 140737488355328 i.2.length) (fun i => [.d (.one (.bool (decide (i.1 = i.2))))]) (fun _ => [.gone, .gone])
theorem spEqualS_inj : ∀ i j : (List ByteArray) × (List ByteArray), (fun (i : (List ByteArray) × (List ByteArray)) => ([.d (.one (.row 1 (strs i.1))), .d (.one (.row 1 (strs i.2)))] : List AV)) i = (fun (i : (List ByteArray) × (List ByteArray)) => ([.d (.one (.row 1 (strs i.1))), .d (.one (.row 1 (strs i.2)))] : List AV)) j → i = j := by
  rintro ⟨a, b⟩ ⟨a', b'⟩ h
  simp only [Prod.mk.injEq]
  simpa [strs_eq, T.enc_eq, encL_eq, F.enc_eq, encF_eq, Tk.enc_eq, encTk_eq, Gn.enc_eq, ints_eq] using h
theorem spEqualS_md  : (spEqualS).md = [false, false] := rfl
theorem spEqualS_pre  (a : List ByteArray) (b : List ByteArray) : (spEqualS).pre [.d (.one (.row 1 (strs a))), .d (.one (.row 1 (strs b)))] = (lenB 140737488355328 a.length ∧ lenB 140737488355328 b.length) := Spec.of_pre' spEqualS_inj (a, b)
theorem spEqualS_alts  : (spEqualS).alts = none := rfl
theorem spEqualS_res  (a : List ByteArray) (b : List ByteArray) : (spEqualS).res [.d (.one (.row 1 (strs a))), .d (.one (.row 1 (strs b)))] = [.d (.one (.bool (decide (a = b))))] := Spec.of_res spEqualS_inj (a, b)
theorem spEqualS_out  (a : List ByteArray) (b : List ByteArray) : (spEqualS).out [.d (.one (.row 1 (strs a))), .d (.one (.row 1 (strs b)))] = [.gone, .gone] := Spec.of_out spEqualS_inj (a, b)
theorem equalS_sound : Sound Go.Proofs.Tryd.prog 87 spEqualS := by
  refine sound_fam GOK.nil Go.Proofs.Tryd.func87 (c := Go.Proofs.Tryd.f87.body.getD .skip) rfl (n := 26) rfl chk_EqualS rs_EqualS (fun _ => by simp) ?_ ?_
  · exact spEqualS_inj
  · rintro ⟨a, b⟩ h1
    simp only [lenB] at h1
    by_cases hl : a.length = b.length
    · have b1 : ((a.length : Int) = (b.length : Int)) = True := by simp [hl]
      simp only [x_EqualS, rg, go_sem, seval, b1]
      refine pw_loop (ι := Nat) (fun i => a.length - i) (fun i => i ≤ a.length ∧ a.take i = b.take i)
        (fun i => ⟨[(0, .q (.c (.row 1 (strs a)))), (1, .q (.c (.row 1 (strs b)))), (12, .q (.c (.int .i64 a.length))), (13, .q (.c (.int .i64 i)))], [], []⟩) 0 ⟨Nat.zero_le _, rfl⟩ (Le.refl _) ?_
      rintro i ⟨hi, heq⟩
      rcases Nat.lt_or_ge i a.length with hlt | hge
      · obtain ⟨s, hs, _, hmem⟩ := drop_at hlt
        obtain ⟨s', hs', _, hmem'⟩ := drop_at (l := b) (i := i) (by omega)
        have a1 := strs_at hs
        have a1' := strs_at hs'
        have a2 : ((i : Int) < (a.length : Int)) = True := by simp; omega
        have a3 : ((i : Int) < (b.length : Int)) = True := by simp; omega
        by_cases hc : s = s'
        · have c1 : (s = s') = True := by simp [hc]
          simp only [go_sem, seval, rg, a1, a1', a2, a3, c1]
          repeat' (first | with_reducible assumption | with_reducible refine And.intro ?_ ?_ | intro _)
          all_goals first | omega | skip
          exact ⟨i + 1, ⟨by omega, take_at hs (hc ▸ hs') heq⟩, by omega, Le.refl _⟩
        · have c1 : (s = s') = False := by simp [hc]
          simp only [go_sem, seval, rg, a1, a1', a2, a3, c1]
          repeat' (first | with_reducible assumption | with_reducible refine And.intro ?_ ?_ | intro _)
          all_goals first | omega | skip
          rename_i h; exact ne_at hs hs' hc h
      · have a2 : ((i : Int) < (a.length : Int)) = False := by simp; omega
        have hie : i = a.length := by omega
        subst hie
        simp only [go_sem, seval, a2]
        exact take_all hl heq
    · have b1 : ((a.length : Int) = (b.length : Int)) = False := by simp; omega
      simp only [x_EqualS, rg, go_sem, seval, b1]
      exact fun e => hl (by rw [e])
noncomputable def spSameI (k:Nat) : Spec := Spec.of (ι := T × T) [false, false] (fun i => [.d (.agg i.1.enc), .d (.agg i.2.enc)]) (fun i => (i.1.fit 140737488355328 ∧ i.2.fit 140737488355328) ∧ SizeOf.sizeOf i.1 < k) (fun i => [.d (.one (.bool (decide (i.1 = i.2))))]) (fun _ => [.gone, .gone])
theorem spSameI_inj : ∀ i j : T × T, (fun (i : T × T) => ([.d (.agg i.1.enc), .d (.agg i.2.enc)] : List AV)) i = (fun (i : T × T) => ([.d (.agg i.1.enc), .d (.agg i.2.enc)] : List AV)) j → i = j := by
  rintro ⟨a, b⟩ ⟨a', b'⟩ h
  simp only [Prod.mk.injEq]
  simpa [strs_eq, T.enc_eq, encL_eq, F.enc_eq, encF_eq, Tk.enc_eq, encTk_eq, Gn.enc_eq, ints_eq] using h
theorem spSameI_md (k:Nat) : (spSameI k).md = [false, false] := rfl
theorem spSameI_pre (k:Nat) (a : T) (b : T) : (spSameI k).pre [.d (.agg a.enc), .d (.agg b.enc)] = ((a.fit 140737488355328 ∧ b.fit 140737488355328) ∧ SizeOf.sizeOf a < k) := Spec.of_pre' spSameI_inj (a, b)
theorem spSameI_alts (k:Nat) : (spSameI k).alts = none := rfl
theorem spSameI_res (k:Nat) (a : T) (b : T) : (spSameI k).res [.d (.agg a.enc), .d (.agg b.enc)] = [.d (.one (.bool (decide (a = b))))] := Spec.of_res spSameI_inj (a, b)
theorem spSameI_out (k:Nat) (a : T) (b : T) : (spSameI k).out [.d (.agg a.enc), .d (.agg b.enc)] = [.gone, .gone] := Spec.of_out spSameI_inj (a, b)
noncomputable def spEqualF (k:Nat) : Spec := Spec.of (ι := (List T) × (List T)) [false, false, false] (fun i => [.d (.one (.row 5 (encL i.1))), .d (.one (.row 5 (encL i.2))), .d (.one (.fn 79))]) (fun i => (lenB 140737488355328 i.1.length ∧ fitL 140737488355328 i.1 ∧ lenB 140737488355328 i.2.length ∧ fitL 140737488355328 i.2) ∧ SizeOf.sizeOf i.1 < k) (fun i => [.d (.one (.bool (decide (i.1 = i.2))))]) (fun _ => [.gone, .gone, .gone])
theorem spEqualF_inj : ∀ i j : (List T) × (List T), (fun (i : (List T) × (List T)) => ([.d (.one (.row 5 (encL i.1))), .d (.one (.row 5 (encL i.2))), .d (.one (.fn 79))] : List AV)) i = (fun (i : (List T) × (List T)) => ([.d (.one (.row 5 (encL i.1))), .d (.one (.row 5 (encL i.2))), .d (.one (.fn 79))] : List AV)) j → i = j := by
  rintro ⟨a, b⟩ ⟨a', b'⟩ h
  simp only [Prod.mk.injEq]
  simpa [strs_eq, T.enc_eq, encL_eq, F.enc_eq, encF_eq, Tk.enc_eq, encTk_eq, Gn.enc_eq, ints_eq] using h
theorem spEqualF_md (k:Nat) : (spEqualF k).md = [false, false, false] := rfl
theorem spEqualF_pre (k:Nat) (a : List T) (b : List T) : (spEqualF k).pre [.d (.one (.row 5 (encL a))), .d (.one (.row 5 (encL b))), .d (.one (.fn 79))] = ((lenB 140737488355328 a.length ∧ fitL 140737488355328 a ∧ lenB 140737488355328 b.length ∧ fitL 140737488355328 b) ∧ SizeOf.sizeOf a < k) := Spec.of_pre' spEqualF_inj (a, b)
theorem spEqualF_alts (k:Nat) : (spEqualF k).alts = none := rfl
theorem spEqualF_res (k:Nat) (a : List T) (b : List T) : (spEqualF k).res [.d (.one (.row 5 (encL a))), .d (.one (.row 5 (encL b))), .d (.one (.fn 79))] = [.d (.one (.bool (decide (a = b))))] := Spec.of_res spEqualF_inj (a, b)
theorem spEqualF_out (k:Nat) (a : List T) (b : List T) : (spEqualF k).out [.d (.one (.row 5 (encL a))), .d (.one (.row 5 (encL b))), .d (.one (.fn 79))] = [.gone, .gone, .gone] := Spec.of_out spEqualF_inj (a, b)
theorem sameI_sound (k : Nat) (hS : Sound Go.Proofs.Tryd.prog 88 (spEqualF k)) : Sound Go.Proofs.Tryd.prog 79 (spSameI (k + 1)) := by
  refine sound_fam (GOK.cons (l := [(88, spEqualF k)]) call_EqualS equalS_sound (GOK.cons call_EqualF hS GOK.nil)) Go.Proofs.Tryd.func79 (c := Go.Proofs.Tryd.f79.body.getD .skip) rfl (n := 38) rfl chk_ValSameI rs_ValSameI (fun _ => by simp) ?_ ?_
  · exact spSameI_inj
  · rintro ⟨a, b⟩ ⟨⟨h1, h2⟩, h4⟩
    obtain ⟨kk, n, s, ks, l⟩ := a
    obtain ⟨kk', n', s', ks', l'⟩ := b
    simp only [T.fit, strsFit] at h1 h2
    obtain ⟨_, _, f1, ⟨f2, f2'⟩, f3, f4⟩ := h1
    obtain ⟨_, _, g1, ⟨g2, g2'⟩, g3, g4⟩ := h2
    have e3 : SizeOf.sizeOf l < k := by have e : SizeOf.sizeOf (T.mk kk n s ks l) < k + 1 := h4
                                        rw [T.mk.sizeOf_spec] at e; omega
    clear h4
    simp only [x_ValSameI, T.enc, go_sem, seval, rg, T.mk.injEq, spEqualS_md, spEqualS_pre, spEqualS_alts, spEqualS_res, spEqualS_out, spEqualF_md, spEqualF_pre, spEqualF_alts, spEqualF_res, spEqualF_out]
    repeat' (first | with_reducible assumption | with_reducible refine And.intro ?_ ?_ | intro _)
    all_goals first | omega | (grind; done) | skip
theorem equalF_sound (k : Nat) (hS : Sound Go.Proofs.Tryd.prog 79 (spSameI k)) : Sound Go.Proofs.Tryd.prog 88 (spEqualF (k + 1)) := by
  refine sound_fam (GOK.cons call_ValSameI hS GOK.nil) Go.Proofs.Tryd.func88 (c := Go.Proofs.Tryd.f88.body.getD .skip) rfl (n := 32) rfl chk_EqualF rs_EqualF (fun _ => by simp) ?_ ?_
  · exact spEqualF_inj
  · rintro ⟨a, b⟩ ⟨h1, h3⟩
    simp only at h3
    simp only [lenB] at h1
    have fa := fitL_mem h1.2.1
    have fb := fitL_mem h1.2.2.2
    by_cases hl : a.length = b.length
    · have b1 : ((a.length : Int) = (b.length : Int)) = True := by simp [hl]
      simp only [x_EqualF, rg, go_sem, seval, b1]
      refine pw_loop (ι := Nat) (fun i => a.length - i) (fun i => i ≤ a.length ∧ a.take i = b.take i)
        (fun i => ⟨[(1, .q (.c (.row 5 (encL b)))), (2, .q (.c (.fn 79))), (15, .q (.c (.row 5 (encL a)))), (16, .q (.c (.int .i64 a.length))), (17, .q (.c (.int .i64 i)))], [], []⟩) 0 ⟨Nat.zero_le _, rfl⟩ (Le.refl _) ?_
      rintro i ⟨hi, heq⟩
      rcases Nat.lt_or_ge i a.length with hlt | hge
      · obtain ⟨s, hs, _, hmem⟩ := drop_at hlt
        obtain ⟨s', hs', _, hmem'⟩ := drop_at (l := b) (i := i) (by omega)
        have a1 := encL_at hs
        have a1' := encL_at hs'
        have a2 : ((i : Int) < (a.length : Int)) = True := by simp; omega
        have a3 : ((i : Int) < (b.length : Int)) = True := by simp; omega
        have a4 := fa s hmem
        have a5 := fb s' hmem'
        have a6 := T.enc_len s
        have a6' := T.enc_len s'
        have a8 := size_mem hmem
        by_cases hc : s = s'
        · have c1 : (s = s') = True := by simp [hc]
          simp only [go_sem, seval, rg, a1, a1', a2, a3, a6, a6', c1, spSameI_md, spSameI_pre, spSameI_alts, spSameI_res, spSameI_out]
          repeat' (first | with_reducible assumption | with_reducible refine And.intro ?_ ?_ | intro _)
          all_goals first | omega | skip
          exact ⟨i + 1, ⟨by omega, take_at hs (hc ▸ hs') heq⟩, by omega, Le.sub (fun _ h => h) (fun _ h => by cases h) (fun _ h => h)⟩
        · have c1 : (s = s') = False := by simp [hc]
          simp only [go_sem, seval, rg, a1, a1', a2, a3, a6, a6', c1, spSameI_md, spSameI_pre, spSameI_alts, spSameI_res, spSameI_out]
          repeat' (first | with_reducible assumption | with_reducible refine And.intro ?_ ?_ | intro _)
          all_goals first | omega | skip
          rename_i h; exact ne_at hs hs' hc h
      · have a2 : ((i : Int) < (a.length : Int)) = False := by simp; omega
        have hie : i = a.length := by omega
        subst hie
        simp only [go_sem, seval, a2]
        exact take_all hl heq
    · have b1 : ((a.length : Int) = (b.length : Int)) = False := by simp; omega
      simp only [x_EqualF, rg, go_sem, seval, b1]
      exact fun e => hl (by rw [e])
theorem sameI_all (k : Nat) : Sound Go.Proofs.Tryd.prog 79 (spSameI k) ∧ Sound Go.Proofs.Tryd.prog 88 (spEqualF k) := by
  induction k with
  | zero => exact ⟨Sound.none, Sound.none⟩
  | succ k ih => exact ⟨sameI_sound k ih.2, equalF_sound k ih.1⟩
noncomputable def spSameIV  : Spec := Spec.of (ι := T × T) [false, false] (fun i => [.d (.agg i.1.enc), .d (.agg i.2.enc)]) (fun i => i.1.fit 140737488355328 ∧ i.2.fit 140737488355328) (fun i => [.d (.one (.bool (decide (i.1 = i.2))))]) (fun _ => [.gone, .gone])
theorem spSameIV_inj : ∀ i j : T × T, (fun (i : T × T) => ([.d (.agg i.1.enc), .d (.agg i.2.enc)] : List AV)) i = (fun (i : T × T) => ([.d (.agg i.1.enc), .d (.agg i.2.enc)] : List AV)) j → i = j := by
  rintro ⟨a, b⟩ ⟨a', b'⟩ h
  simp only [Prod.mk.injEq]
  simpa [strs_eq, T.enc_eq, encL_eq, F.enc_eq, encF_eq, Tk.enc_eq, encTk_eq, Gn.enc_eq, ints_eq] using h
theorem spSameIV_md  : (spSameIV).md = [false, false] := rfl
theorem spSameIV_pre  (a : T) (b : T) : (spSameIV).pre [.d (.agg a.enc), .d (.agg b.enc)] = (a.fit 140737488355328 ∧ b.fit 140737488355328) := Spec.of_pre' spSameIV_inj (a, b)
theorem spSameIV_alts  : (spSameIV).alts = none := rfl
theorem spSameIV_res  (a : T) (b : T) : (spSameIV).res [.d (.agg a.enc), .d (.agg b.enc)] = [.d (.one (.bool (decide (a = b))))] := Spec.of_res spSameIV_inj (a, b)
theorem spSameIV_out  (a : T) (b : T) : (spSameIV).out [.d (.agg a.enc), .d (.agg b.enc)] = [.gone, .gone] := Spec.of_out spSameIV_inj (a, b)
theorem sameIV_sound : Sound Go.Proofs.Tryd.prog 79 spSameIV := Sound.all (μ := fun i => SizeOf.sizeOf i.1) (fun k => (sameI_all k).1)
noncomputable def spNone  : Spec := Spec.of (ι := T) [false] (fun i => [.d (.agg i.enc)]) (fun i => i.fit 140737488355328) (fun i => [.d (.one (.bool (decide (i = T.zero))))]) (fun _ => [.gone])
theorem spNone_inj : ∀ i j : T, (fun (i : T) => ([.d (.agg i.enc)] : List AV)) i = (fun (i : T) => ([.d (.agg i.enc)] : List AV)) j → i = j := by
  intro t t' h
  simpa [strs_eq, T.enc_eq, encL_eq, F.enc_eq, encF_eq, Tk.enc_eq, encTk_eq, Gn.enc_eq, ints_eq] using h
theorem spNone_md  : (spNone).md = [false] := rfl
theorem spNone_pre  (t : T) : (spNone).pre [.d (.agg t.enc)] = (t.fit 140737488355328) := Spec.of_pre' spNone_inj t
theorem spNone_alts  : (spNone).alts = none := rfl
theorem spNone_res  (t : T) : (spNone).res [.d (.agg t.enc)] = [.d (.one (.bool (decide (t = T.zero))))] := Spec.of_res spNone_inj t
theorem spNone_out  (t : T) : (spNone).out [.d (.agg t.enc)] = [.gone] := Spec.of_out spNone_inj t
theorem none_sound : Sound Go.Proofs.Tryd.prog 70 spNone := by
  refine sound_fam (GOK.cons call_ValSameI sameIV_sound GOK.nil) Go.Proofs.Tryd.func70 (c := Go.Proofs.Tryd.f70.body.getD .skip) rfl (n := 6) rfl chk_noneI rs_noneI (fun _ => by simp) ?_ ?_
  · exact spNone_inj
  · intro t h1
    have a6 := T.enc_len t
    have p1 := spSameIV_pre t T.zero
    have p2 := spSameIV_res t T.zero
    have p3 := spSameIV_out t T.zero
    rw [T.zero_enc] at p1 p2 p3
    have hz := T.zero_fit
    simp only [x_noneI, go_sem, seval, rg, a6, spSameIV_md, spSameIV_alts, p1, p2, p3]
    repeat' (first | with_reducible assumption | with_reducible refine And.intro ?_ ?_ | intro _)
    all_goals first | omega | skip
end Go.Proofs.Pw
/- What is a filter that is ok: the specification's functions. -/
set_option linter.unusedSimpArgs false
set_option maxRecDepth 20000
namespace Go.Proofs.Pw
set_option linter.unusedSectionVars false
variable [Globs]
def x_l4Kids : X := (.seq (.reg [⟨some 2, none, .mv (.k (.c (.int .i64 0)))⟩] none [0]) (.seq (.seq (.reg [⟨some 3, none, .mv (.t 0)⟩] none [3]) (.block 0 (.seq (.seq (.reg [⟨some 5, none, .bin false .eql (.t 3) (.k (.c (.int .i64 1)))⟩, ⟨some 4, none, .mv (.t 5)⟩] none [3, 4]) (.cond (.t 4) .skip (.seq (.reg [⟨some 6, none, .bin false .eql (.t 3) (.k (.c (.int .i64 2)))⟩, ⟨some 4, none, .mv (.t 6)⟩] none [3, 4]) (.cond (.t 4) .skip (.seq (.reg [⟨some 7, none, .bin false .eql (.t 3) (.k (.c (.int .i64 3)))⟩, ⟨some 4, none, .mv (.t 7)⟩] none [3, 4]) (.cond (.t 4) .skip (.seq (.reg [⟨some 8, none, .bin false .eql (.t 3) (.k (.c (.int .i64 4)))⟩, ⟨some 4, none, .mv (.t 8)⟩] none [3, 4]) (.cond (.t 4) .skip (.seq (.reg [⟨some 9, none, .bin false .eql (.t 3) (.k (.c (.int .i64 5)))⟩, ⟨some 4, none, .mv (.t 9)⟩] none [3, 4]) (.cond (.t 4) .skip (.seq (.reg [⟨some 10, none, .bin false .eql (.t 3) (.k (.c (.int .i64 13)))⟩, ⟨some 4, none, .mv (.t 10)⟩] none [3, 4]) (.cond (.t 4) .skip (.seq (.reg [⟨some 11, none, .bin false .eql (.t 3) (.k (.c (.int .i64 14)))⟩, ⟨some 4, none, .mv (.t 11)⟩] none [3, 4]) (.cond (.t 4) .skip (.seq (.reg [⟨some 12, none, .bin false .eql (.t 3) (.k (.c (.int .i64 15)))⟩, ⟨some 4, none, .mv (.t 12)⟩] none [3, 4]) (.cond (.t 4) .skip (.seq (.reg [⟨some 13, none, .bin false .eql (.t 3) (.k (.c (.int .i64 18)))⟩, ⟨some 4, none, .mv (.t 13)⟩] none [3, 4]) (.cond (.t 4) .skip (.reg [⟨some 14, none, .bin false .eql (.t 3) (.k (.c (.int .i64 19)))⟩, ⟨some 4, none, .mv (.t 14)⟩] none [3, 4]))))))))))))))))))) (.cond (.t 4) (.seq (.reg [⟨some 2, none, .mv (.k (.c (.int .i64 0)))⟩] none [2]) .ret) (.seq (.seq (.reg [⟨some 16, none, .bin false .eql (.t 3) (.k (.c (.int .i64 12)))⟩, ⟨some 15, none, .mv (.t 16)⟩] none [3, 15]) (.cond (.t 15) .skip (.seq (.reg [⟨some 17, none, .bin false .eql (.t 3) (.k (.c (.int .i64 17)))⟩, ⟨some 15, none, .mv (.t 17)⟩] none [3, 15]) (.cond (.t 15) .skip (.reg [⟨some 18, none, .bin false .eql (.t 3) (.k (.c (.int .i64 21)))⟩, ⟨some 15, none, .mv (.t 18)⟩] none [3, 15]))))) (.cond (.t 15) (.seq (.reg [⟨some 2, none, .mv (.k (.c (.int .i64 1)))⟩] none [2]) .ret) (.seq (.seq (.reg [⟨some 20, none, .bin false .eql (.t 3) (.k (.c (.int .i64 6)))⟩, ⟨some 19, none, .mv (.t 20)⟩] none [3, 19]) (.cond (.t 19) .skip (.seq (.reg [⟨some 21, none, .bin false .eql (.t 3) (.k (.c (.int .i64 7)))⟩, ⟨some 19, none, .mv (.t 21)⟩] none [3, 19]) (.cond (.t 19) .skip (.seq (.reg [⟨some 22, none, .bin false .eql (.t 3) (.k (.c (.int .i64 9)))⟩, ⟨some 19, none, .mv (.t 22)⟩] none [3, 19]) (.cond (.t 19) .skip (.seq (.reg [⟨some 23, none, .bin false .eql (.t 3) (.k (.c (.int .i64 10)))⟩, ⟨some 19, none, .mv (.t 23)⟩] none [3, 19]) (.cond (.t 19) .skip (.seq (.reg [⟨some 24, none, .bin false .eql (.t 3) (.k (.c (.int .i64 11)))⟩, ⟨some 19, none, .mv (.t 24)⟩] none [3, 19]) (.cond (.t 19) .skip (.seq (.reg [⟨some 25, none, .bin false .eql (.t 3) (.k (.c (.int .i64 16)))⟩, ⟨some 19, none, .mv (.t 25)⟩] none [3, 19]) (.cond (.t 19) .skip (.reg [⟨some 26, none, .bin false .eql (.t 3) (.k (.c (.int .i64 20)))⟩, ⟨some 19, none, .mv (.t 26)⟩] none [3, 19]))))))))))))) (.cond (.t 19) (.seq (.reg [⟨some 2, none, .mv (.k (.c (.int .i64 2)))⟩] none [2]) .ret) (.seq (.reg [⟨some 28, none, .bin false .eql (.t 3) (.k (.c (.int .i64 8)))⟩, ⟨some 27, none, .mv (.t 28)⟩] none [27]) (.cond (.t 27) (.seq (.reg [⟨some 2, none, .mv (.k (.c (.int .i64 3)))⟩] none [2]) .ret) .skip)))))))))) (.seq (.reg [⟨some 2, none, .mv (.k (.c (.int .i64 (-1))))⟩] none [2]) .ret)))
theorem chk_l4Kids : chkX Go.Proofs.Tryd.prog 29 (Go.Proofs.Tryd.f65.body.getD .skip) x_l4Kids = true := by kernel_rfl
theorem rs_l4Kids : okRs Go.Proofs.Tryd.prog Go.Proofs.Tryd.f65.results.toList [.tmp 2] = true := by kernel_rfl
theorem call_l4Kids : okCallee Go.Proofs.Tryd.prog 65 = true := by kernel_rfl
def x_l4Clean : X := (.seq (.reg [⟨some 1, none, .box (.t 0) (some 9)⟩, ⟨some 2, none, .mv (.k (.c (.bool false)))⟩] none [1]) (.seq (.reg [⟨some 4, none, .fa (.t 1) 0⟩, ⟨some 5, none, .load (.t 4) none⟩, ⟨some 6, none, .bin false .eql (.t 5) (.k (.c (.int .i64 3)))⟩, ⟨some 7, none, .mv (.t 6)⟩, ⟨some 8, some (7, false), .fa (.t 1) 0⟩, ⟨some 9, some (7, false), .load (.t 8) none⟩, ⟨some 10, some (7, false), .bin false .eql (.t 9) (.k (.c (.int .i64 21)))⟩, ⟨some 11, none, .pick (.t 7) (.k (.c (.bool true))) (.t 10)⟩, ⟨some 3, none, .mv (.t 11)⟩] none [1, 3]) (.seq (.reg [⟨some 12, none, .fa (.t 1) 0⟩, ⟨some 13, none, .load (.t 12) none⟩, ⟨some 14, none, .bin false .eql (.t 13) (.k (.c (.int .i64 4)))⟩, ⟨some 15, none, .mv (.t 14)⟩, ⟨some 16, some (15, false), .fa (.t 1) 1⟩, ⟨some 17, some (15, false), .load (.t 16) none⟩, ⟨some 18, some (15, false), .bin false .eql (.t 17) (.k (.c (.int .i64 0)))⟩, ⟨some 19, none, .pick (.t 15) (.k (.c (.bool true))) (.t 18)⟩, ⟨some 20, none, .mv (.t 19)⟩, ⟨some 21, some (20, true), .mv (.t 3)⟩, ⟨some 22, some (20, true), .mv (.t 21)⟩, ⟨some 23, some (22, false), .fa (.t 1) 2⟩, ⟨some 24, some (22, false), .load (.t 23) none⟩, ⟨some 25, some (22, false), .bin false .eql (.t 24) (.k (.c (.str ⟨#[]⟩)))⟩, ⟨some 26, some (20, true), .pick (.t 22) (.k (.c (.bool true))) (.t 25)⟩, ⟨some 27, none, .pick (.t 20) (.t 26) (.k (.c (.bool false)))⟩, ⟨some 28, none, .mv (.t 27)⟩, ⟨some 29, some (28, true), .fa (.t 1) 0⟩, ⟨some 30, some (28, true), .load (.t 29) none⟩, ⟨some 31, some (28, true), .bin false .eql (.t 30) (.k (.c (.int .i64 2)))⟩, ⟨some 32, some (28, true), .mv (.t 31)⟩, ⟨some 33, some (32, false), .fa (.t 1) 3⟩, ⟨some 34, some (32, false), .load (.t 33) (some 5)⟩, ⟨some 35, some (32, false), .build [(.c (.int .i64 0)), (.c (.int .i64 0)), (.c (.str ⟨#[]⟩)), (.z 1), (.z 5)] []⟩, ⟨some 36, some (32, false), .call 78 [(.t 34), (.t 35)]⟩, ⟨some 37, some (28, true), .pick (.t 32) (.k (.c (.bool true))) (.t 36)⟩, ⟨some 38, none, .pick (.t 28) (.t 37) (.k (.c (.bool false)))⟩, ⟨some 2, none, .mv (.t 38)⟩] none [2]) .ret)))
theorem chk_l4Clean : chkX Go.Proofs.Tryd.prog 39 (Go.Proofs.Tryd.f66.body.getD .skip) x_l4Clean = true := by kernel_rfl
theorem rs_l4Clean : okRs Go.Proofs.Tryd.prog Go.Proofs.Tryd.f66.results.toList [.tmp 2] = true := by kernel_rfl
theorem call_l4Clean : okCallee Go.Proofs.Tryd.prog 66 = true := by kernel_rfl
def x_l4Way : X := (.seq (.reg [⟨some 1, none, .box (.t 0) (some 9)⟩, ⟨some 2, none, .mv (.k (.c (.bool false)))⟩] none [1]) (.seq (.seq (.reg [⟨some 3, none, .fa (.t 1) 0⟩, ⟨some 4, none, .load (.t 3) none⟩] none [1, 4]) (.block 0 (.seq (.seq (.reg [⟨some 6, none, .bin false .eql (.t 4) (.k (.c (.int .i64 1)))⟩, ⟨some 5, none, .mv (.t 6)⟩] none [1, 4, 5]) (.cond (.t 5) .skip (.seq (.reg [⟨some 7, none, .bin false .eql (.t 4) (.k (.c (.int .i64 3)))⟩, ⟨some 5, none, .mv (.t 7)⟩] none [1, 4, 5]) (.cond (.t 5) .skip (.seq (.reg [⟨some 8, none, .bin false .eql (.t 4) (.k (.c (.int .i64 4)))⟩, ⟨some 5, none, .mv (.t 8)⟩] none [1, 4, 5]) (.cond (.t 5) .skip (.seq (.reg [⟨some 9, none, .bin false .eql (.t 4) (.k (.c (.int .i64 5)))⟩, ⟨some 5, none, .mv (.t 9)⟩] none [1, 4, 5]) (.cond (.t 5) .skip (.reg [⟨some 10, none, .bin false .eql (.t 4) (.k (.c (.int .i64 18)))⟩, ⟨some 5, none, .mv (.t 10)⟩] none [1, 4, 5]))))))))) (.cond (.t 5) (.seq (.reg [⟨some 2, none, .mv (.k (.c (.bool true)))⟩] none [2]) .ret) (.seq (.seq (.reg [⟨some 12, none, .bin false .eql (.t 4) (.k (.c (.int .i64 6)))⟩, ⟨some 11, none, .mv (.t 12)⟩] none [1, 4, 11]) (.cond (.t 11) .skip (.reg [⟨some 13, none, .bin false .eql (.t 4) (.k (.c (.int .i64 7)))⟩, ⟨some 11, none, .mv (.t 13)⟩] none [1, 4, 11]))) (.cond (.t 11) (.seq (.reg [⟨some 14, none, .fa (.t 1) 8⟩, ⟨some 15, none, .load (.t 14) none⟩, ⟨some 16, none, .ia (.t 15) (.k (.c (.int .i64 0))) 9⟩, ⟨some 17, none, .load (.t 16) (some 9)⟩, ⟨some 18, none, .call 68 [(.t 17)]⟩, ⟨some 19, none, .mv (.t 18)⟩, ⟨some 20, some (19, true), .fa (.t 1) 8⟩, ⟨some 21, some (19, true), .load (.t 20) none⟩, ⟨some 22, some (19, true), .ia (.t 21) (.k (.c (.int .i64 1))) 9⟩, ⟨some 23, some (19, true), .load (.t 22) (some 9)⟩, ⟨some 24, some (19, true), .call 68 [(.t 23)]⟩, ⟨some 25, none, .pick (.t 19) (.t 24) (.k (.c (.bool false)))⟩, ⟨some 2, none, .mv (.t 25)⟩] none [2]) .ret) (.seq (.reg [⟨some 27, none, .bin false .eql (.t 4) (.k (.c (.int .i64 8)))⟩, ⟨some 26, none, .mv (.t 27)⟩] none [1, 26]) (.cond (.t 26) (.seq (.reg [⟨some 28, none, .fa (.t 1) 8⟩, ⟨some 29, none, .load (.t 28) none⟩, ⟨some 30, none, .ia (.t 29) (.k (.c (.int .i64 1))) 9⟩, ⟨some 31, none, .load (.t 30) (some 9)⟩, ⟨some 32, none, .call 68 [(.t 31)]⟩, ⟨some 33, none, .mv (.t 32)⟩, ⟨some 34, some (33, true), .fa (.t 1) 8⟩, ⟨some 35, some (33, true), .load (.t 34) none⟩, ⟨some 36, some (33, true), .ia (.t 35) (.k (.c (.int .i64 2))) 9⟩, ⟨some 37, some (33, true), .load (.t 36) (some 9)⟩, ⟨some 38, some (33, true), .call 68 [(.t 37)]⟩, ⟨some 39, none, .pick (.t 33) (.t 38) (.k (.c (.bool false)))⟩, ⟨some 2, none, .mv (.t 39)⟩] none [2]) .ret) .skip)))))))) (.seq (.reg [⟨some 2, none, .mv (.k (.c (.bool false)))⟩] none [2]) .ret)))
theorem chk_l4Way : chkX Go.Proofs.Tryd.prog 40 (Go.Proofs.Tryd.f68.body.getD .skip) x_l4Way = true := by kernel_rfl
theorem rs_l4Way : okRs Go.Proofs.Tryd.prog Go.Proofs.Tryd.f68.results.toList [.tmp 2] = true := by kernel_rfl
theorem call_l4Way : okCallee Go.Proofs.Tryd.prog 68 = true := by kernel_rfl
noncomputable def spKids  : Spec := Spec.of (ι := Int) [false] (fun i => [.d (.one (.int .i64 i))]) (fun _ => True) (fun i => [.d (.one (.int .i64 (kidsOf i)))]) (fun _ => [.gone])
theorem spKids_inj : ∀ i j : Int, (fun (i : Int) => ([.d (.one (.int .i64 i))] : List AV)) i = (fun (i : Int) => ([.d (.one (.int .i64 i))] : List AV)) j → i = j := by
  intro k k' h
  simpa [strs_eq, T.enc_eq, encL_eq, F.enc_eq, encF_eq, Tk.enc_eq, encTk_eq, Gn.enc_eq, ints_eq] using h
theorem spKids_md  : (spKids).md = [false] := rfl
theorem spKids_pre  (k : Int) : (spKids).pre [.d (.one (.int .i64 k))] = (True) := Spec.of_pre' spKids_inj k
theorem spKids_alts  : (spKids).alts = none := rfl
theorem spKids_res  (k : Int) : (spKids).res [.d (.one (.int .i64 k))] = [.d (.one (.int .i64 (kidsOf k)))] := Spec.of_res spKids_inj k
theorem spKids_out  (k : Int) : (spKids).out [.d (.one (.int .i64 k))] = [.gone] := Spec.of_out spKids_inj k
theorem l4Kids_sound : Sound Go.Proofs.Tryd.prog 65 spKids := by
  refine sound_fam GOK.nil Go.Proofs.Tryd.func65 (c := Go.Proofs.Tryd.f65.body.getD .skip) rfl (n := 29) rfl chk_l4Kids rs_l4Kids (fun _ => by simp) ?_ ?_
  · exact spKids_inj
  · intro k _
    simp only [x_l4Kids, go_sem, seval, rg, kidsOf]
    repeat' (first | with_reducible assumption | with_reducible refine And.intro ?_ ?_ | intro _)
    all_goals first | omega | (grind; done) | skip
noncomputable def spClean  : Spec := Spec.of (ι := F) [false] (fun i => [.d (.agg i.enc)]) (fun i => i.fit 140737488355328) (fun i => [.d (.one (.bool (decide (cleanQ i))))]) (fun _ => [.gone])
theorem spClean_inj : ∀ i j : F, (fun (i : F) => ([.d (.agg i.enc)] : List AV)) i = (fun (i : F) => ([.d (.agg i.enc)] : List AV)) j → i = j := by
  intro t t' h
  simpa [strs_eq, T.enc_eq, encL_eq, F.enc_eq, encF_eq, Tk.enc_eq, encTk_eq, Gn.enc_eq, ints_eq] using h
theorem spClean_md  : (spClean).md = [false] := rfl
theorem spClean_pre  (t : F) : (spClean).pre [.d (.agg t.enc)] = (t.fit 140737488355328) := Spec.of_pre' spClean_inj t
theorem spClean_alts  : (spClean).alts = none := rfl
theorem spClean_res  (t : F) : (spClean).res [.d (.agg t.enc)] = [.d (.one (.bool (decide (cleanQ t))))] := Spec.of_res spClean_inj t
theorem spClean_out  (t : F) : (spClean).out [.d (.agg t.enc)] = [.gone] := Spec.of_out spClean_inj t
theorem l4Clean_sound : Sound Go.Proofs.Tryd.prog 66 spClean := by
  refine sound_fam (GOK.cons call_ValSame sameV_sound GOK.nil) Go.Proofs.Tryd.func66 (c := Go.Proofs.Tryd.f66.body.getD .skip) rfl (n := 39) rfl chk_l4Clean rs_l4Clean (fun _ => by simp) ?_ ?_
  · exact spClean_inj
  · intro t h1
    obtain ⟨kk, n, s, v, l⟩ := t
    obtain ⟨vk, vn, vs, vks, vl⟩ := v
    simp only [F.fit] at h1
    obtain ⟨_, _, f1, f2, f3, f4⟩ := h1
    generalize hv : T.mk vk vn vs vks vl = v at *
    have e6 : v.enc = [.int .i64 vk, .int .i64 vn, .str vs, .row 1 (strs vks), .row 5 (encL vl)] := by rw [← hv]; rfl
    have p1 := spSameV_pre v T.zero
    have p2 := spSameV_res v T.zero
    have p3 := spSameV_out v T.zero
    rw [T.zero_enc, e6] at p1 p2 p3
    have hz := T.zero_fit
    simp only [x_l4Clean, F.enc, e6, go_sem, seval, rg, spSameV_md, spSameV_alts, p1, p2, p3]
    repeat' (first | with_reducible assumption | with_reducible refine And.intro ?_ ?_ | intro _)
    all_goals first | omega | (grind [cleanQ, cleanF]; done) | skip
noncomputable def spWay (k:Nat) : Spec := Spec.of (ι := F) [false] (fun i => [.d (.agg i.enc)]) (fun i => (i.fit 140737488355328 ∧ kindedF i) ∧ SizeOf.sizeOf i < k) (fun i => [.d (.one (.bool (decide (wayF i))))]) (fun _ => [.gone])
theorem spWay_inj : ∀ i j : F, (fun (i : F) => ([.d (.agg i.enc)] : List AV)) i = (fun (i : F) => ([.d (.agg i.enc)] : List AV)) j → i = j := by
  intro t t' h
  simpa [strs_eq, T.enc_eq, encL_eq, F.enc_eq, encF_eq, Tk.enc_eq, encTk_eq, Gn.enc_eq, ints_eq] using h
theorem spWay_md (k:Nat) : (spWay k).md = [false] := rfl
theorem spWay_pre (k:Nat) (t : F) : (spWay k).pre [.d (.agg t.enc)] = ((t.fit 140737488355328 ∧ kindedF t) ∧ SizeOf.sizeOf t < k) := Spec.of_pre' spWay_inj t
theorem spWay_alts (k:Nat) : (spWay k).alts = none := rfl
theorem spWay_res (k:Nat) (t : F) : (spWay k).res [.d (.agg t.enc)] = [.d (.one (.bool (decide (wayF t))))] := Spec.of_res spWay_inj t
theorem spWay_out (k:Nat) (t : F) : (spWay k).out [.d (.agg t.enc)] = [.gone] := Spec.of_out spWay_inj t
theorem l4Way_sound (k : Nat) (hS : Sound Go.Proofs.Tryd.prog 68 (spWay k)) : Sound Go.Proofs.Tryd.prog 68 (spWay (k + 1)) := by
  refine sound_fam (GOK.cons call_l4Way hS GOK.nil) Go.Proofs.Tryd.func68 (c := Go.Proofs.Tryd.f68.body.getD .skip) rfl (n := 40) rfl chk_l4Way rs_l4Way (fun _ => by simp) ?_ ?_
  · exact spWay_inj
  · rintro t ⟨⟨h1, h2⟩, h4⟩
    obtain ⟨kk, n, s, v, l⟩ := t
    obtain ⟨vk, vn, vs, vks, vl⟩ := v
    simp only [F.fit, kindedF] at h1 h2
    obtain ⟨_, _, f1, f2, f3, f4⟩ := h1
    obtain ⟨g1, g2⟩ := h2
    generalize hv : T.mk vk vn vs vks vl = v at *
    have e3 : SizeOf.sizeOf l < k := by have e : SizeOf.sizeOf (F.mk kk n s v l) < k + 1 := h4
                                        rw [F.mk.sizeOf_spec] at e; omega
    clear h4
    have e6 : v.enc = [.int .i64 vk, .int .i64 vn, .str vs, .row 1 (strs vks), .row 5 (encL vl)] := by rw [← hv]; rfl
    have hF : wayF (F.mk kk n s v l) ↔ ((kk = 1 ∨ kk = 3 ∨ kk = 4 ∨ kk = 5 ∨ kk = 18) ∨ ((kk = 6 ∨ kk = 7) ∧ wayL l 0 ∧ wayL l 1) ∨ (kk = 8 ∧ wayL l 1 ∧ wayL l 2)) := by simp only [wayF]
    have hk2 : kk = 6 ∨ kk = 7 → l.length = 2 := fun h => by
      have : kidsOf kk = 2 := by rcases h with rfl | rfl <;> decide
      omega
    have hk3 : kk = 8 → l.length = 3 := fun h => by
      have : kidsOf kk = 3 := by subst h; decide
      omega
    by_cases hz : 2 ≤ l.length
    · obtain ⟨x0, i0, _, m0⟩ := drop_at (l := l) (i := 0) (by omega)
      obtain ⟨x1, i1, _, m1⟩ := drop_at (l := l) (i := 1) (by omega)
      have a0 := encF_at i0
      have a1 := encF_at i1
      have w0 := wayL_at i0
      have w1 := wayL_at i1
      have l0 := F.enc_len x0
      have l1 := F.enc_len x1
      have s0 := size_mem m0
      have s1 := size_mem m1
      have t0 := fitF_mem f4 x0 m0
      have t1 := fitF_mem f4 x1 m1
      have u0 := kindedL_mem.1 g2 x0 m0
      have u1 := kindedL_mem.1 g2 x1 m1
      have z0 : (0 : Int).toNat = 0 := rfl
      have z1 : (1 : Int).toNat = 1 := rfl
      have z2 : (2 : Int).toNat = 2 := rfl
      by_cases h3 : 3 ≤ l.length
      · obtain ⟨x2, i2, _, m2⟩ := drop_at (l := l) (i := 2) (by omega)
        have a2 := encF_at i2
        have w2 := wayL_at i2
        have l2 := F.enc_len x2
        have s2 := size_mem m2
        have t2 := fitF_mem f4 x2 m2
        have u2 := kindedL_mem.1 g2 x2 m2
        rw [w0, w1, w2] at hF
        simp only [x_l4Way, F.enc, e6, go_sem, seval, rg, z0, z1, z2, a0, a1, a2, l0, l1, l2, spWay_md, spWay_pre, spWay_alts, spWay_res, spWay_out]
        repeat' (first | with_reducible assumption | with_reducible refine And.intro ?_ ?_ | intro _)
        all_goals first | omega | (grind; done) | skip
      · have h8 : (kk = 8) = False := by simp; intro h; have := hk3 h; omega
        rw [w0, w1] at hF
        simp only [x_l4Way, F.enc, e6, go_sem, seval, rg, z0, z1, z2, a0, a1, l0, l1, h8, spWay_md, spWay_pre, spWay_alts, spWay_res, spWay_out]
        repeat' (first | with_reducible assumption | with_reducible refine And.intro ?_ ?_ | intro _)
        all_goals first | omega | (grind; done) | skip
    · have h6 : (kk = 6) = False := by simp; intro h; have := hk2 (.inl h); omega
      have h7 : (kk = 7) = False := by simp; intro h; have := hk2 (.inr h); omega
      have h8 : (kk = 8) = False := by simp; intro h; have := hk3 h; omega
      simp only [x_l4Way, F.enc, e6, go_sem, seval, rg, h6, h7, h8]
      repeat' (first | with_reducible assumption | with_reducible refine And.intro ?_ ?_ | intro _)
      all_goals first | omega | (grind; done) | skip
theorem way_all : ∀ k, Sound Go.Proofs.Tryd.prog 68 (spWay k) := fun k => Nat.rec Sound.none (fun k ih => l4Way_sound k ih) k
/-- As it is asked where there may be none. -/
noncomputable def spWayD : Spec := Spec.of (ι := Option F) [false] (fun i => match i with | some t => [.d (.agg t.enc)] | none => [.d (.agg [])]) (fun i => match i with | some t => t.fit 140737488355328 ∧ kindedF t | none => False) (fun i => match i with | some t => [.d (.one (.bool (decide (wayF t))))] | none => [.d (.one (.bool (decide False)))]) (fun _ => [.gone])
theorem spWayD_inj : ∀ i j : Option F, (fun i : Option F => (match i with | some t => [.d (.agg t.enc)] | none => [.d (.agg [])] : List AV)) i = (fun i : Option F => (match i with | some t => [.d (.agg t.enc)] | none => [.d (.agg [])] : List AV)) j → i = j := by
  intro i j h
  cases i with
  | none =>
    cases j with
    | none => rfl
    | some t => have := congrArg List.length (show [] = t.enc by simpa using h); rw [F.enc_len] at this; simp at this
  | some t =>
    cases j with
    | none => have := congrArg List.length (show t.enc = [] by simpa using h); rw [F.enc_len] at this; simp at this
    | some t' => simpa [F.enc_eq] using h
theorem spWayD_md : spWayD.md = [false] := rfl
theorem spWayD_alts : spWayD.alts = none := rfl
theorem spWayD_pre (t : F) : spWayD.pre [.d (.agg t.enc)] = (t.fit 140737488355328 ∧ kindedF t) := Spec.of_pre' spWayD_inj (some t)
theorem spWayD_res (t : F) : spWayD.res [.d (.agg t.enc)] = [.d (.one (.bool (decide (wayF t))))] := Spec.of_res spWayD_inj (some t)
theorem spWayD_out (t : F) : spWayD.out [.d (.agg t.enc)] = [.gone] := Spec.of_out spWayD_inj (some t)
theorem spWayD_pre0 : spWayD.pre [.d (.agg [])] = False := Spec.of_pre' spWayD_inj none
theorem spWayD_res0 : spWayD.res [.d (.agg [])] = [.d (.one (.bool (decide False)))] := Spec.of_res spWayD_inj none
theorem spWayD_out0 : spWayD.out [.d (.agg [])] = [.gone] := Spec.of_out spWayD_inj none
theorem wayD_sound : Sound Go.Proofs.Tryd.prog 68 spWayD := by
  rintro ds ⟨i, rfl, hi⟩ w S vs fps hG hS hF ha hA
  cases i with
  | none => exact hi.elim
  | some t =>
    have hp : (spWay (SizeOf.sizeOf t + 1)).pre [.d (.agg t.enc)] := by
      rw [spWay_pre]; exact ⟨hi, Nat.lt_succ_self _⟩
    refine (way_all (SizeOf.sizeOf t + 1) [.d (.agg t.enc)] hp w S vs fps hG hS hF ha hA).mono ?_
    rintro e w' ⟨r, o, hro, rest⟩
    obtain ⟨rfl, rfl⟩ := (Spec.may_none rfl).1 hro
    rw [spWay_res, spWay_out] at rest
    exact ⟨_, _, (Spec.may_none rfl).2 ⟨(spWayD_res t).symm, (spWayD_out t).symm⟩, rest⟩
end Go.Proofs.Pw
