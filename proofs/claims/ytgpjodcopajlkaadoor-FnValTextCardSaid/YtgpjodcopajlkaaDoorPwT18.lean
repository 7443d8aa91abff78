/- Texts of trees: both programs. -/
import Derived.Test.YtgpjodcopajlkaaDoorPwT13
import Derived.Test.YtgpjodcopajlkaaDoorPwT10
import Derived.Test.YtgpjodcopajlkaaDoorProg
import Derived.KernelRfl
set_option linter.unusedSimpArgs false
set_option linter.unusedVariables false
set_option linter.unusedSectionVars false
set_option maxRecDepth 20000
namespace Go.Proofs.Pw
variable [Globs]
def x_l11Dec : X := (.seq (.reg [⟨some 2, none, .mv (.k (.c (.str ⟨#[]⟩)))⟩] none [0]) (.seq (.seq (.reg [⟨some 4, none, .mv (.t 0)⟩, ⟨some 5, none, .bin false .lss (.t 4) (.k (.c (.int .i64 (-9223372036854775807))))⟩] none [0, 5]) (.cond (.t 5) (.seq (.reg [⟨some 2, none, .mv (.k (.c (.str ⟨#[45, 57, 50, 50, 51, 51, 55, 50, 48, 51, 54, 56, 53, 52, 55, 55, 53, 56, 48, 56]⟩)))⟩] none [2]) .ret) .skip)) (.seq (.seq (.reg [⟨some 6, none, .mv (.t 0)⟩, ⟨some 7, none, .bin false .lss (.t 6) (.k (.c (.int .i64 0)))⟩] none [0, 7]) (.cond (.t 7) (.seq (.reg [⟨some 8, none, .mv (.t 0)⟩, ⟨some 9, none, .bin false .sub (.k (.c (.int .i64 0))) (.t 8)⟩, ⟨some 10, none, .call 69 [(.t 9)]⟩, ⟨some 11, none, .bin false .add (.k (.c (.str ⟨#[45]⟩))) (.t 10)⟩, ⟨some 2, none, .mv (.t 11)⟩] none [2]) .ret) .skip)) (.seq (.reg [⟨some 3, none, .mv (.k (.c (.str ⟨#[]⟩)))⟩] none [0, 3]) (.seq (.block 0 (.loop (.seq (.seq (.reg [⟨some 12, none, .mv (.t 0)⟩, ⟨some 13, none, .bin false .gtr (.t 12) (.k (.c (.int .i64 9)))⟩] none [0, 3, 13]) (.cond (.t 13) .skip (.exit 0))) (.block 1 (.seq (.reg [⟨some 14, none, .mv (.t 0)⟩, ⟨some 15, none, .bin false .rem (.t 14) (.k (.c (.int .i64 10)))⟩, ⟨some 16, none, .bin false .add (.k (.c (.int .i64 48))) (.t 15)⟩, ⟨some 17, none, .conv .u8 (.t 16)⟩, ⟨some 18, none, .bsl 1 [((.t 17), none)]⟩, ⟨some 19, none, .bts (.t 18)⟩, ⟨some 20, none, .mv (.t 3)⟩, ⟨some 21, none, .bin false .add (.t 19) (.t 20)⟩, ⟨some 3, none, .mv (.t 21)⟩] none [0, 3]) (.reg [⟨some 22, none, .mv (.t 0)⟩, ⟨some 23, none, .bin false .quo (.t 22) (.k (.c (.int .i64 10)))⟩, ⟨some 0, none, .mv (.t 23)⟩] none [0, 3])))))) (.seq (.reg [⟨some 24, none, .mv (.t 0)⟩, ⟨some 25, none, .bin false .add (.k (.c (.int .i64 48))) (.t 24)⟩, ⟨some 26, none, .conv .u8 (.t 25)⟩, ⟨some 27, none, .bsl 1 [((.t 26), none)]⟩, ⟨some 28, none, .bts (.t 27)⟩, ⟨some 29, none, .mv (.t 3)⟩, ⟨some 30, none, .bin false .add (.t 28) (.t 29)⟩, ⟨some 2, none, .mv (.t 30)⟩] none [2]) .ret))))))
theorem chk_l11Dec : chkX Tryd.prog 31 (Tryd.f69.body.getD .skip) x_l11Dec = true := by kernel_rfl
theorem rs_l11Dec : okRs Tryd.prog Tryd.f69.results.toList [.tmp 2] = true := by kernel_rfl
theorem call_l11Dec : okCallee Tryd.prog 69 = true := by kernel_rfl
def x_l1Text : X := (.seq (.reg [⟨some 1, none, .box (.t 0) (some 5)⟩, ⟨some 2, none, .mv (.k (.c (.str ⟨#[]⟩)))⟩] none [1]) (.seq (.seq (.reg [⟨some 5, none, .fa (.t 1) 0⟩, ⟨some 6, none, .load (.t 5) none⟩] none [1, 6]) (.block 0 (.seq (.reg [⟨some 8, none, .bin false .eql (.t 6) (.k (.c (.int .i64 0)))⟩, ⟨some 7, none, .mv (.t 8)⟩] none [1, 6, 7]) (.cond (.t 7) (.seq (.reg [⟨some 2, none, .mv (.k (.c (.str ⟨#[110, 117, 108, 108]⟩)))⟩] none [2]) .ret) (.seq (.reg [⟨some 10, none, .bin false .eql (.t 6) (.k (.c (.int .i64 1)))⟩, ⟨some 9, none, .mv (.t 10)⟩] none [1, 6, 9]) (.cond (.t 9) (.seq (.reg [⟨some 2, none, .mv (.k (.c (.str ⟨#[102, 97, 108, 115, 101]⟩)))⟩] none [2]) .ret) (.seq (.reg [⟨some 12, none, .bin false .eql (.t 6) (.k (.c (.int .i64 2)))⟩, ⟨some 11, none, .mv (.t 12)⟩] none [1, 6, 11]) (.cond (.t 11) (.seq (.reg [⟨some 2, none, .mv (.k (.c (.str ⟨#[116, 114, 117, 101]⟩)))⟩] none [2]) .ret) (.seq (.reg [⟨some 14, none, .bin false .eql (.t 6) (.k (.c (.int .i64 3)))⟩, ⟨some 13, none, .mv (.t 14)⟩] none [1, 6, 13]) (.cond (.t 13) (.seq (.reg [⟨some 15, none, .fa (.t 1) 1⟩, ⟨some 16, none, .load (.t 15) none⟩, ⟨some 17, none, .call 69 [(.t 16)]⟩, ⟨some 2, none, .mv (.t 17)⟩] none [2]) .ret) (.seq (.reg [⟨some 19, none, .bin false .eql (.t 6) (.k (.c (.int .i64 4)))⟩, ⟨some 18, none, .mv (.t 19)⟩] none [1, 18]) (.cond (.t 18) (.seq (.reg [⟨some 20, none, .fa (.t 1) 2⟩, ⟨some 21, none, .load (.t 20) none⟩, ⟨some 22, none, .bin false .add (.k (.c (.str ⟨#[39]⟩))) (.t 21)⟩, ⟨some 23, none, .bin false .add (.t 22) (.k (.c (.str ⟨#[39]⟩)))⟩, ⟨some 2, none, .mv (.t 23)⟩] none [2]) .ret) .skip)))))))))))) (.seq (.reg [⟨some 3, none, .mv (.k (.c (.str ⟨#[]⟩)))⟩] none [1, 3]) (.seq (.seq (.reg [⟨some 4, none, .mv (.k (.c (.int .i64 0)))⟩] none [1, 3, 4]) (.block 1 (.loop (.seq (.seq (.reg [⟨some 24, none, .mv (.t 4)⟩, ⟨some 25, none, .fa (.t 1) 4⟩, ⟨some 26, none, .load (.t 25) none⟩, ⟨some 27, none, .len (.t 26) false⟩, ⟨some 28, none, .bin false .lss (.t 24) (.t 27)⟩] none [1, 3, 4, 28]) (.cond (.t 28) .skip (.exit 1))) (.seq (.block 2 (.seq (.seq (.reg [⟨some 31, none, .mv (.t 4)⟩, ⟨some 32, none, .bin false .gtr (.t 31) (.k (.c (.int .i64 0)))⟩] none [1, 3, 4, 32]) (.cond (.t 32) (.reg [⟨some 33, none, .mv (.t 3)⟩, ⟨some 34, none, .bin false .add (.t 33) (.k (.c (.str ⟨#[44]⟩)))⟩, ⟨some 3, none, .mv (.t 34)⟩] none [1, 3, 4]) .skip)) (.seq (.seq (.reg [⟨some 35, none, .fa (.t 1) 0⟩, ⟨some 36, none, .load (.t 35) none⟩, ⟨some 37, none, .bin false .eql (.t 36) (.k (.c (.int .i64 6)))⟩] none [1, 3, 4, 37]) (.cond (.t 37) (.reg [⟨some 38, none, .mv (.t 3)⟩, ⟨some 39, none, .fa (.t 1) 3⟩, ⟨some 40, none, .load (.t 39) none⟩, ⟨some 41, none, .mv (.t 4)⟩, ⟨some 42, none, .ia (.t 40) (.t 41) 1⟩, ⟨some 43, none, .load (.t 42) none⟩, ⟨some 44, none, .bin false .add (.t 38) (.t 43)⟩, ⟨some 45, none, .bin false .add (.t 44) (.k (.c (.str ⟨#[58]⟩)))⟩, ⟨some 3, none, .mv (.t 45)⟩] none [1, 3, 4]) .skip)) (.reg [⟨some 46, none, .mv (.t 3)⟩, ⟨some 47, none, .fa (.t 1) 4⟩, ⟨some 48, none, .load (.t 47) none⟩, ⟨some 49, none, .mv (.t 4)⟩, ⟨some 50, none, .ia (.t 48) (.t 49) 5⟩, ⟨some 51, none, .load (.t 50) (some 5)⟩, ⟨some 52, none, .call 33 [(.t 51)]⟩, ⟨some 53, none, .bin false .add (.t 46) (.t 52)⟩, ⟨some 3, none, .mv (.t 53)⟩] none [1, 3, 4])))) (.reg [⟨some 29, none, .mv (.t 4)⟩, ⟨some 30, none, .bin false .add (.t 29) (.k (.c (.int .i64 1)))⟩, ⟨some 4, none, .mv (.t 30)⟩] none [1, 3, 4])))))) (.seq (.seq (.reg [⟨some 54, none, .fa (.t 1) 0⟩, ⟨some 55, none, .load (.t 54) none⟩, ⟨some 56, none, .bin false .eql (.t 55) (.k (.c (.int .i64 6)))⟩] none [3, 56]) (.cond (.t 56) (.seq (.reg [⟨some 57, none, .mv (.t 3)⟩, ⟨some 58, none, .bin false .add (.k (.c (.str ⟨#[123]⟩))) (.t 57)⟩, ⟨some 59, none, .bin false .add (.t 58) (.k (.c (.str ⟨#[125]⟩)))⟩, ⟨some 2, none, .mv (.t 59)⟩] none [2]) .ret) .skip)) (.seq (.reg [⟨some 60, none, .mv (.t 3)⟩, ⟨some 61, none, .bin false .add (.k (.c (.str ⟨#[91]⟩))) (.t 60)⟩, ⟨some 62, none, .bin false .add (.t 61) (.k (.c (.str ⟨#[93]⟩)))⟩, ⟨some 2, none, .mv (.t 62)⟩] none [2]) .ret))))))
theorem chk_l1Text : chkX Tryd.prog 63 (Tryd.f33.body.getD .skip) x_l1Text = true := by kernel_rfl
theorem rs_l1Text : okRs Tryd.prog Tryd.f33.results.toList [.tmp 2] = true := by kernel_rfl
theorem call_l1Text : okCallee Tryd.prog 33 = true := by kernel_rfl
def x_textI : X := (.seq (.reg [⟨some 1, none, .box (.t 0) (some 5)⟩, ⟨some 2, none, .mv (.k (.c (.str ⟨#[]⟩)))⟩] none [1]) (.seq (.seq (.reg [⟨some 7, none, .fa (.t 1) 0⟩, ⟨some 8, none, .load (.t 7) none⟩] none [1, 8]) (.block 0 (.seq (.reg [⟨some 10, none, .bin false .eql (.t 8) (.k (.c (.int .i64 0)))⟩, ⟨some 9, none, .mv (.t 10)⟩] none [1, 8, 9]) (.cond (.t 9) (.seq (.reg [⟨some 2, none, .mv (.k (.c (.str ⟨#[110, 117, 108, 108]⟩)))⟩] none [2]) .ret) (.seq (.reg [⟨some 12, none, .bin false .eql (.t 8) (.k (.c (.int .i64 1)))⟩, ⟨some 11, none, .mv (.t 12)⟩] none [1, 8, 11]) (.cond (.t 11) (.seq (.reg [⟨some 2, none, .mv (.k (.c (.str ⟨#[102, 97, 108, 115, 101]⟩)))⟩] none [2]) .ret) (.seq (.reg [⟨some 14, none, .bin false .eql (.t 8) (.k (.c (.int .i64 2)))⟩, ⟨some 13, none, .mv (.t 14)⟩] none [1, 8, 13]) (.cond (.t 13) (.seq (.reg [⟨some 2, none, .mv (.k (.c (.str ⟨#[116, 114, 117, 101]⟩)))⟩] none [2]) .ret) (.seq (.reg [⟨some 16, none, .bin false .eql (.t 8) (.k (.c (.int .i64 3)))⟩, ⟨some 15, none, .mv (.t 16)⟩] none [1, 8, 15]) (.cond (.t 15) (.seq (.reg [⟨some 17, none, .fa (.t 1) 1⟩, ⟨some 18, none, .load (.t 17) none⟩, ⟨some 19, none, .call 51 [(.t 18)]⟩, ⟨some 2, none, .mv (.t 19)⟩] none [2]) .ret) (.seq (.reg [⟨some 21, none, .bin false .eql (.t 8) (.k (.c (.int .i64 4)))⟩, ⟨some 20, none, .mv (.t 21)⟩] none [1, 20]) (.cond (.t 20) (.seq (.reg [⟨some 22, none, .fa (.t 1) 2⟩, ⟨some 23, none, .load (.t 22) none⟩, ⟨some 24, none, .bin false .add (.k (.c (.str ⟨#[39]⟩))) (.t 23)⟩, ⟨some 25, none, .bin false .add (.t 24) (.k (.c (.str ⟨#[39]⟩)))⟩, ⟨some 2, none, .mv (.t 25)⟩] none [2]) .ret) .skip)))))))))))) (.seq (.reg [⟨some 26, none, .bsl 1 []⟩, ⟨some 3, none, .mv (.t 26)⟩] none [1, 3]) (.seq (.seq (.reg [⟨some 27, none, .fa (.t 1) 4⟩, ⟨some 28, none, .load (.t 27) none⟩, ⟨some 29, none, .len (.t 28) false⟩, ⟨some 30, none, .mv (.k (.c (.int .i64 0)))⟩] none [1, 3, 28, 29, 30]) (.block 1 (.loop (.seq (.reg [⟨some 31, none, .bin false .lss (.t 30) (.t 29)⟩] none [1, 3, 28, 29, 30, 31]) (.seq (.cond (.t 31) .skip (.exit 1)) (.seq (.block 2 (.seq (.reg [⟨some 32, none, .mv (.t 30)⟩, ⟨some 33, none, .ia (.t 28) (.t 30) 5⟩, ⟨some 34, none, .load (.t 33) (some 5)⟩, ⟨some 5, none, .alloc [(.c (.int .i64 0)), (.c (.int .i64 0)), (.c (.str ⟨#[]⟩)), (.z 1), (.z 5)]⟩, ⟨some 4, none, .mv (.t 32)⟩, ⟨none, none, .st (.t 5) (.t 34) (some 5)⟩] none [1, 3, 4, 5, 28, 29, 30]) (.seq (.reg [⟨some 35, none, .load (.t 5) (some 5)⟩, ⟨some 36, none, .call 32 [(.t 35)]⟩, ⟨some 6, none, .mv (.t 36)⟩] none [1, 3, 4, 6, 28, 29, 30]) (.seq (.seq (.reg [⟨some 37, none, .fa (.t 1) 0⟩, ⟨some 38, none, .load (.t 37) none⟩, ⟨some 39, none, .bin false .eql (.t 38) (.k (.c (.int .i64 6)))⟩] none [1, 3, 4, 6, 28, 29, 30, 39]) (.cond (.t 39) (.reg [⟨some 40, none, .fa (.t 1) 3⟩, ⟨some 41, none, .load (.t 40) none⟩, ⟨some 42, none, .mv (.t 4)⟩, ⟨some 43, none, .ia (.t 41) (.t 42) 1⟩, ⟨some 44, none, .load (.t 43) none⟩, ⟨some 45, none, .bin false .add (.t 44) (.k (.c (.str ⟨#[58]⟩)))⟩, ⟨some 46, none, .mv (.t 6)⟩, ⟨some 47, none, .bin false .add (.t 45) (.t 46)⟩, ⟨some 6, none, .mv (.t 47)⟩] none [1, 3, 6, 28, 29, 30]) .skip)) (.reg [⟨some 48, none, .mv (.t 3)⟩, ⟨some 49, none, .mv (.t 6)⟩, ⟨some 50, none, .bsl 1 [((.t 49), none)]⟩, ⟨some 51, none, .app (.t 48) (.t 50) 1 16 []⟩, ⟨some 3, none, .mv (.t 51)⟩] none [1, 3, 28, 29, 30]))))) (.reg [⟨some 52, none, .bin false .add (.t 30) (.k (.c (.int .i64 1)))⟩, ⟨some 30, none, .mv (.t 52)⟩] none [1, 3, 28, 29, 30]))))))) (.seq (.seq (.reg [⟨some 53, none, .fa (.t 1) 0⟩, ⟨some 54, none, .load (.t 53) none⟩, ⟨some 55, none, .bin false .eql (.t 54) (.k (.c (.int .i64 6)))⟩] none [3, 55]) (.cond (.t 55) (.seq (.reg [⟨some 56, none, .mv (.t 3)⟩, ⟨some 57, none, .call 68 [(.t 56), (.k (.c (.str ⟨#[44]⟩)))]⟩, ⟨some 58, none, .bin false .add (.k (.c (.str ⟨#[123]⟩))) (.t 57)⟩, ⟨some 59, none, .bin false .add (.t 58) (.k (.c (.str ⟨#[125]⟩)))⟩, ⟨some 2, none, .mv (.t 59)⟩] none [2]) .ret) .skip)) (.seq (.reg [⟨some 60, none, .mv (.t 3)⟩, ⟨some 61, none, .call 68 [(.t 60), (.k (.c (.str ⟨#[44]⟩)))]⟩, ⟨some 62, none, .bin false .add (.k (.c (.str ⟨#[91]⟩))) (.t 61)⟩, ⟨some 63, none, .bin false .add (.t 62) (.k (.c (.str ⟨#[93]⟩)))⟩, ⟨some 2, none, .mv (.t 63)⟩] none [2]) .ret))))))
theorem chk_textI : chkX Tryd.prog 64 (Tryd.f32.body.getD .skip) x_textI = true := by kernel_rfl
theorem rs_textI : okRs Tryd.prog Tryd.f32.results.toList [.tmp 2] = true := by kernel_rfl
theorem call_textI : okCallee Tryd.prog 32 = true := by kernel_rfl
attribute [go_sem] bytesL flatC
theorem bytesS1 (n : Int) : (bytesS [n]).size = 1 := rfl
noncomputable def spDec (k:Nat) : Spec := Spec.of (ι := Int) [false] (fun i => [.d (.one (.int .i64 i))]) (fun i => (-1000000 <= i /\ i <= 1000000) /\ (if i < 0 then 1 else 0) < k) (fun i => [.d (.one (.str (itoaB i)))]) (fun _ => [.gone])
theorem spDec_inj : ∀ i j : Int, (fun (i : Int) => ([.d (.one (.int .i64 i))] : List AV)) i = (fun (i : Int) => ([.d (.one (.int .i64 i))] : List AV)) j -> i = j := by
 intro n n' h
 simpa [strs_eq, T.enc_eq, encL_eq, F.enc_eq, encF_eq, Tk.enc_eq, encTk_eq, Gn.enc_eq, ints_eq] using h
theorem spDec_md (k:Nat) : (spDec k).md = [false] := rfl
theorem spDec_pre (k:Nat) (n : Int) : (spDec k).pre [.d (.one (.int .i64 n))] = ((-1000000 <= n /\ n <= 1000000) /\ (if n < 0 then 1 else 0) < k) := Spec.of_pre' spDec_inj n
theorem spDec_alts (k:Nat) : (spDec k).alts = none := rfl
theorem spDec_res (k:Nat) (n : Int) : (spDec k).res [.d (.one (.int .i64 n))] = [.d (.one (.str (itoaB n)))] := Spec.of_res spDec_inj n
theorem spDec_out (k:Nat) (n : Int) : (spDec k).out [.d (.one (.int .i64 n))] = [.gone] := Spec.of_out spDec_inj n
theorem dec_sound (k : Nat) (hS : Sound Tryd.prog 69 (spDec k)) : Sound Tryd.prog 69 (spDec (k + 1)) := by
 refine sound_fam (GOK.cons call_l11Dec hS GOK.nil) Tryd.func69 (c := Tryd.f69.body.getD .skip) rfl (n := 31) rfl chk_l11Dec rs_l11Dec (fun _ => by simp) ?_ ?_
 ·exact spDec_inj
 ·rintro n ⟨⟨h1, h2⟩, h3⟩
  have a1 : (n < -9223372036854775807) = False := eq_false (by omega)
  by_cases c : n < 0
  ·have a2 : (n < 0) = True := eq_true c
   have e := itoaB_neg c
   have z := itoaB_size (n := 0 - n) (by omega) (by omega)
   have e1 : (ByteArray.mk #[45]).size = 1 := rfl
   have m : (if (0 : Int) - n < 0 then 1 else 0) < k := by rw [if_neg (by omega)]; rw [if_pos c] at h3; omega
   simp only [x_l11Dec, rg, go_sem, seval, a1, a2, e1, spDec_md, spDec_pre, spDec_alts, spDec_res, spDec_out]
   repeat' (first | with_reducible assumption | with_reducible refine And.intro ?_ ?_ | intro _)
   all_goals first | omega | assumption | exact e | exact e.symm | skip
  ·have a2 : (n < 0) = False := eq_false c
   simp only [x_l11Dec, rg, go_sem, seval, a1, a2]
   refine pw_loop (ι := Int × ByteArray) (fun i => i.1.toNat) (fun i => 0 <= i.1 /\ i.1 <= n /\ i.2.size + i.1 <= n /\ decB i.1.toNat ++ i.2 = itoaB n)
    (fun i => ⟨[(0, .q (.c (.int .i64 i.1))), (3, .q (.c (.str i.2)))], [], []⟩) (n, ⟨#[]⟩) ⟨by omega, by omega, by simp [ByteArray.size], by rw [itoaB_pos (by omega), ba_nil']⟩ (Le.refl _) ?_
   rintro ⟨m, out⟩ ⟨g1, g2, g3, g4⟩
   simp only at g1 g2 g3 g4
   by_cases c2 : 9 < m
   ·have a3 : (9 < m) = True := eq_true c2
    have e1 : m.tdiv 10 = m / 10 := Int.tdiv_eq_ediv_of_nonneg (by omega)
    have e2 : m.tmod 10 = m % 10 := Int.tmod_eq_emod_of_nonneg (by omega)
    have e3 : (m / 10).toNat = m.toNat / 10 := by omega
    have e4 : ((48 + m.toNat % 10 : Nat) : Int) = 48 + m % 10 := by omega
    have e5 := decB_step (u := m.toNat) (by omega) out
    rw [e4, <- e3] at e5
    simp only [rg, go_sem, seval, a3, e1, e2, bytesS1]
    repeat' (first | with_reducible assumption | with_reducible refine And.intro ?_ ?_ | intro _)
    all_goals first | omega | skip
    exact ⟨(m / 10, bytesS [48 + m % 10] ++ out), ⟨by omega, by omega, by simp only [ByteArray.size_append, bytesS1]; omega, by simp only; rw [<- e5]; exact g4⟩, by simp only; omega, Le.refl _⟩
   ·have a3 : (9 < m) = False := eq_false c2
    have e4 : ((48 + m.toNat : Nat) : Int) = 48 + m := by omega
    have e5 := decB_small (u := m.toNat) (by omega)
    rw [e4] at e5
    rw [e5] at g4
    simp only [rg, go_sem, seval, a3, bytesS1]
    repeat' (first | with_reducible assumption | with_reducible refine And.intro ?_ ?_ | intro _)
    all_goals first | omega | exact g4 | exact g4.symm | skip
theorem dec_all (k : Nat) : Sound Tryd.prog 69 (spDec k) := by
 induction k with
 | zero => exact Sound.none
 | succ k ih => exact dec_sound k ih
noncomputable def spDecV  : Spec := Spec.of (ι := Int) [false] (fun i => [.d (.one (.int .i64 i))]) (fun i => -1000000 <= i /\ i <= 1000000) (fun i => [.d (.one (.str (itoaB i)))]) (fun _ => [.gone])
theorem spDecV_inj : ∀ i j : Int, (fun (i : Int) => ([.d (.one (.int .i64 i))] : List AV)) i = (fun (i : Int) => ([.d (.one (.int .i64 i))] : List AV)) j -> i = j := by
 intro n n' h
 simpa [strs_eq, T.enc_eq, encL_eq, F.enc_eq, encF_eq, Tk.enc_eq, encTk_eq, Gn.enc_eq, ints_eq] using h
theorem spDecV_md  : (spDecV).md = [false] := rfl
theorem spDecV_pre  (n : Int) : (spDecV).pre [.d (.one (.int .i64 n))] = (-1000000 <= n /\ n <= 1000000) := Spec.of_pre' spDecV_inj n
theorem spDecV_alts  : (spDecV).alts = none := rfl
theorem spDecV_res  (n : Int) : (spDecV).res [.d (.one (.int .i64 n))] = [.d (.one (.str (itoaB n)))] := Spec.of_res spDecV_inj n
theorem spDecV_out  (n : Int) : (spDecV).out [.d (.one (.int .i64 n))] = [.gone] := Spec.of_out spDecV_inj n
theorem decV_sound : Sound Tryd.prog 69 spDecV := Sound.all (μ := fun n => if n < 0 then 1 else 0) dec_all
def okTx (t : T) : Prop := (∃ d, formT t d) /\ sizeT t <= 60
theorem okTx_of {t : T} (h : okT t) : okTx t := ⟨⟨_, h.1⟩, okT_size h⟩
theorem okTx_kid {k n : Int} {s : ByteArray} {ks : List ByteArray} {l : List T} (h : okTx (.mk k n s ks l)) {t : T} (ht : t ∈ l) : okTx t := by
 obtain ⟨⟨d, h1⟩, h2⟩ := h
 simp only [formT] at h1
 simp only [sizeT] at h2
 exact ⟨⟨_, formL_mem.1 h1.2.2.2.2.2.2.2.2.2.2.2 t ht⟩, by have := sizeL_mem' ht; omega⟩
theorem okTx_size {t : T} (h : okTx t) : (textT t).size <= 2400 := by
 obtain ⟨⟨d, h1⟩, h2⟩ := h
 have := textT_size h1; omega
noncomputable def spTxt (k:Nat) : Spec := Spec.of (ι := T) [false] (fun i => [.d (.agg i.enc)]) (fun i => (okTx i) /\ SizeOf.sizeOf i < k) (fun i => [.d (.one (.str (textT i)))]) (fun _ => [.gone])
theorem spTxt_inj : ∀ i j : T, (fun (i : T) => ([.d (.agg i.enc)] : List AV)) i = (fun (i : T) => ([.d (.agg i.enc)] : List AV)) j -> i = j := by
 intro t t' h
 simpa [strs_eq, T.enc_eq, encL_eq, F.enc_eq, encF_eq, Tk.enc_eq, encTk_eq, Gn.enc_eq, ints_eq] using h
theorem spTxt_md (k:Nat) : (spTxt k).md = [false] := rfl
theorem spTxt_pre (k:Nat) (t : T) : (spTxt k).pre [.d (.agg t.enc)] = ((okTx t) /\ SizeOf.sizeOf t < k) := Spec.of_pre' spTxt_inj t
theorem spTxt_alts (k:Nat) : (spTxt k).alts = none := rfl
theorem spTxt_res (k:Nat) (t : T) : (spTxt k).res [.d (.agg t.enc)] = [.d (.one (.str (textT t)))] := Spec.of_res spTxt_inj t
theorem spTxt_out (k:Nat) (t : T) : (spTxt k).out [.d (.agg t.enc)] = [.gone] := Spec.of_out spTxt_inj t
set_option maxHeartbeats 2000000 in
theorem txt_sound (k : Nat) (hS : Sound Tryd.prog 33 (spTxt k)) : Sound Tryd.prog 33 (spTxt (k + 1)) := by
 refine sound_fam (GOK.cons (l := [(33, spTxt k)]) call_l11Dec decV_sound (GOK.cons call_l1Text hS GOK.nil)) Tryd.func33 (c := Tryd.f33.body.getD .skip) rfl (n := 63) rfl chk_l1Text rs_l1Text (fun _ => by simp) ?_ ?_
 ·exact spTxt_inj
 ·rintro t ⟨h1, h4⟩
  obtain ⟨kk, n, s, ks, l⟩ := t
  have hkid := fun t ht => okTx_kid h1 (t := t) ht
  have hT := okTx_size h1
  obtain ⟨⟨d, h1⟩, h2⟩ := h1
  have hks := keys_small h1
  have e3 : SizeOf.sizeOf l < k := by have e : SizeOf.sizeOf (T.mk kk n s ks l) < k + 1 := h4
                                      rw [T.mk.sizeOf_spec] at e; omega
  clear h4
  simp only [formT] at h1
  obtain ⟨f1, f2, f3, f4, f5, f6, f7, f8, f9, f10, f11, f12⟩ := h1
  have f13 := f10.2
  simp only [sizeT] at h2
  have f14 := len_sizeL l
  have hz := fun i => join_take (k := kk) hks f12 (by omega) i
  have q1 : (ByteArray.mk #[39]).size = 1 := rfl
  have q2 : (ByteArray.mk #[123]).size = 1 := rfl
  have q3 : (ByteArray.mk #[125]).size = 1 := rfl
  have q4 : (ByteArray.mk #[91]).size = 1 := rfl
  have q5 : (ByteArray.mk #[93]).size = 1 := rfl
  have q6 : (ByteArray.mk #[58]).size = 1 := rfl
  have hkk : kk = 0 \/ kk = 1 \/ kk = 2 \/ kk = 3 \/ kk = 4 \/ kk = 5 \/ kk = 6 := by omega
  rcases hkk with rfl | rfl | rfl | rfl | rfl | hkk
  ·simp only [x_l1Text, T.enc, rg, go_sem, seval, Prod.fst, textT]
   repeat' (first | with_reducible assumption | with_reducible refine And.intro ?_ ?_ | intro _)
  ·simp only [x_l1Text, T.enc, rg, go_sem, seval, Prod.fst, textT]
   repeat' (first | with_reducible assumption | with_reducible refine And.intro ?_ ?_ | intro _)
   all_goals first | omega | simp
  ·simp only [x_l1Text, T.enc, rg, go_sem, seval, Prod.fst, textT]
   repeat' (first | with_reducible assumption | with_reducible refine And.intro ?_ ?_ | intro _)
   all_goals first | omega | simp
  ·simp only [x_l1Text, T.enc, rg, go_sem, seval, Prod.fst, textT, spDecV_md, spDecV_pre, spDecV_alts, spDecV_res, spDecV_out]
   repeat' (first | with_reducible assumption | with_reducible refine And.intro ?_ ?_ | intro _)
   all_goals first | omega | simp
  ·simp only [x_l1Text, T.enc, rg, go_sem, seval, Prod.fst, textT, q1]
   repeat' (first | with_reducible assumption | with_reducible refine And.intro ?_ ?_ | intro _)
   all_goals first | omega | simp
  have b0 : (kk = 0) = False := eq_false (by omega)
  have b1 : (kk = 1) = False := eq_false (by omega)
  have b2 : (kk = 2) = False := eq_false (by omega)
  have b3 : (kk = 3) = False := eq_false (by omega)
  have b4 : (kk = 4) = False := eq_false (by omega)
  simp only [x_l1Text, T.enc, rg, go_sem, seval, Prod.fst, b0, b1, b2, b3, b4]
  repeat' (first | with_reducible assumption | with_reducible refine And.intro ?_ ?_ | intro _)
  all_goals first | omega | skip
  refine pw_loop (ι := Nat) (fun i => l.length - i) (fun i => i <= l.length)
   (fun i => ⟨[(1, .q (.box 1 0)), (3, .q (.c (.str (joinB ((textLs kk ks l).take i) ⟨#[44]⟩)))), (4, .q (.c (.int .i64 i)))],
    [(1, [.c (.int .i64 kk), .c (.int .i64 n), .c (.str s), .c (.row 1 (strs ks)), .c (.row 5 (encL l))])], []⟩) 0 (Nat.zero_le _) (Le.of_eq (by simp [joinB_nil])) ?_
  intro i hi
  rcases Nat.lt_or_ge i l.length with hlt | hge
  ·obtain ⟨t, ht, _, hmem⟩ := drop_at hlt
   have a1 := encL_at ht
   have a2 : ((i : Int) < (l.length : Int)) = True := by simp; omega
   have a4 := size_mem hmem
   have a5 := hkid t hmem
   have a6 := T.enc_len t
   have a7 := okTx_size a5
   have a8 := hz i
   have a9 := join_step (textLs_take kk l ks i t ht) (by rw [textLs_len]; exact hlt)
   rcases hkk with hkk | hkk
   ·have b5 : (kk = 6) = False := eq_false (by omega)
    simp only [b5, if_false] at a9
    by_cases ci : i = 0
    ·have c1 : ((0 : Int) < i) = False := eq_false (by omega)
     rw [if_pos ci] at a9
     subst ci
     simp only [rg, go_sem, seval, Prod.fst, a1, a2, a6, b5, c1, List.take_zero, joinB_nil, ba_nil, encL_len, spTxt_md, spTxt_pre, spTxt_alts, spTxt_res, spTxt_out]
     repeat' (first | with_reducible assumption | with_reducible refine And.intro ?_ ?_ | intro _)
     all_goals first | omega | with_reducible assumption | (rw [show (#[] : Array UInt8).size = 0 from rfl]; omega) | skip
     refine ⟨0 + 1, hlt, by omega, Le.of_eq ?_⟩
     rw [a9]
     simp [ba_nil, ba_assoc]
    ·have c1 : ((0 : Int) < i) = True := eq_true (by omega)
     rw [if_neg ci] at a9
     simp only [rg, go_sem, seval, Prod.fst, a1, a2, a6, b5, c1, encL_len, sep_size, ByteArray.size_append, spTxt_md, spTxt_pre, spTxt_alts, spTxt_res, spTxt_out]
     repeat' (first | with_reducible assumption | with_reducible refine And.intro ?_ ?_ | intro _)
     all_goals first | omega | with_reducible assumption | (rw [show (#[] : Array UInt8).size = 0 from rfl]; omega) | skip
     refine ⟨i + 1, hlt, by omega, Le.of_eq ?_⟩
     rw [a9]
     simp [ba_assoc]
   ·have b5 : (kk = 6) = True := eq_true (by omega)
    obtain ⟨key, hkey⟩ : ∃ y, ks[i]? = some y := ⟨ks[i]'(by have := (f11 hkk).1; omega), List.getElem?_eq_getElem _⟩
    have b6 := strs_at hkey
    have b7 : ks.getD i ⟨#[]⟩ = key := by simp [List.getD, hkey]
    have b8 := hks key (List.mem_of_getElem? hkey)
    have b9 := (f11 hkk).1
    simp only [b5, if_true, b7] at a9
    by_cases ci : i = 0
    ·have c1 : ((0 : Int) < i) = False := eq_false (by omega)
     rw [if_pos ci] at a9
     subst ci
     simp only [rg, go_sem, seval, Prod.fst, a1, a2, a6, b5, b6, c1, q6, List.take_zero, joinB_nil, ba_nil, encL_len, strs_len, ByteArray.size_append, spTxt_md, spTxt_pre, spTxt_alts, spTxt_res, spTxt_out]
     repeat' (first | with_reducible assumption | with_reducible refine And.intro ?_ ?_ | intro _)
     all_goals first | omega | with_reducible assumption | (rw [show (#[] : Array UInt8).size = 0 from rfl]; omega) | skip
     refine ⟨0 + 1, hlt, by omega, Le.of_eq ?_⟩
     rw [a9]
     simp [ba_nil, ba_assoc]
    ·have c1 : ((0 : Int) < i) = True := eq_true (by omega)
     rw [if_neg ci] at a9
     simp only [rg, go_sem, seval, Prod.fst, a1, a2, a6, b5, b6, c1, q6, encL_len, strs_len, sep_size, ByteArray.size_append, spTxt_md, spTxt_pre, spTxt_alts, spTxt_res, spTxt_out]
     repeat' (first | with_reducible assumption | with_reducible refine And.intro ?_ ?_ | intro _)
     all_goals first | omega | with_reducible assumption | (rw [show (#[] : Array UInt8).size = 0 from rfl]; omega) | skip
     refine ⟨i + 1, hlt, by omega, Le.of_eq ?_⟩
     rw [a9]
     simp [ba_assoc]
  ·have a2 : ((i : Int) < (l.length : Int)) = False := by simp; omega
   have a3 : (textLs kk ks l).take i = textLs kk ks l := List.take_of_length_le (by rw [textLs_len]; exact hge)
   have a4 := hz i
   rw [a3] at a4
   rcases hkk with hkk | hkk
   ·have b5 : (kk = 6) = False := eq_false (by omega)
    simp only [rg, go_sem, seval, Prod.fst, a2, a3, b5, encL_len, q4, q5, ByteArray.size_append]
    repeat' (first | with_reducible assumption | with_reducible refine And.intro ?_ ?_ | intro _)
    all_goals first | omega | with_reducible assumption | (rw [show (#[] : Array UInt8).size = 0 from rfl]; omega) | skip
    all_goals (simp only [textT, b0, b1, b2, b3, b4, b5, if_false])
   ·have b5 : (kk = 6) = True := eq_true (by omega)
    simp only [rg, go_sem, seval, Prod.fst, a2, a3, b5, encL_len, q2, q3, ByteArray.size_append]
    repeat' (first | with_reducible assumption | with_reducible refine And.intro ?_ ?_ | intro _)
    all_goals first | omega | with_reducible assumption | (rw [show (#[] : Array UInt8).size = 0 from rfl]; omega) | skip
    all_goals (simp only [textT, b0, b1, b2, b3, b4, b5, if_false, if_true])
theorem txt_all (k : Nat) : Sound Tryd.prog 33 (spTxt k) := by
 induction k with
 | zero => exact Sound.none
 | succ k ih => exact txt_sound k ih
noncomputable def spTxtV  : Spec := Spec.of (ι := T) [false] (fun i => [.d (.agg i.enc)]) (fun i => okTx i) (fun i => [.d (.one (.str (textT i)))]) (fun _ => [.gone])
theorem spTxtV_inj : ∀ i j : T, (fun (i : T) => ([.d (.agg i.enc)] : List AV)) i = (fun (i : T) => ([.d (.agg i.enc)] : List AV)) j -> i = j := by
 intro t t' h
 simpa [strs_eq, T.enc_eq, encL_eq, F.enc_eq, encF_eq, Tk.enc_eq, encTk_eq, Gn.enc_eq, ints_eq] using h
theorem spTxtV_md  : (spTxtV).md = [false] := rfl
theorem spTxtV_pre  (t : T) : (spTxtV).pre [.d (.agg t.enc)] = (okTx t) := Spec.of_pre' spTxtV_inj t
theorem spTxtV_alts  : (spTxtV).alts = none := rfl
theorem spTxtV_res  (t : T) : (spTxtV).res [.d (.agg t.enc)] = [.d (.one (.str (textT t)))] := Spec.of_res spTxtV_inj t
theorem spTxtV_out  (t : T) : (spTxtV).out [.d (.agg t.enc)] = [.gone] := Spec.of_out spTxtV_inj t
theorem txtV_sound : Sound Tryd.prog 33 spTxtV := Sound.all (μ := fun t => SizeOf.sizeOf t) txt_all
set_option maxHeartbeats 2000000 in
theorem txtI_sound (hK : tabK) (k : Nat) (hS : Sound Tryd.prog 32 (spTxt k)) : Sound Tryd.prog 32 (spTxt (k + 1)) := by
 refine sound_fam (GOK.cons (l := [(32, spTxt k), (68, spJoin)]) call_Itoa (itoa_sound hK) (GOK.cons (l := [(68, spJoin)]) call_textI hS (GOK.cons call_Join join_sound GOK.nil))) Tryd.func32 (c := Tryd.f32.body.getD .skip) rfl (n := 64) rfl chk_textI rs_textI (fun _ => by simp) ?_ ?_
 ·exact spTxt_inj
 ·rintro t ⟨h1, h4⟩
  obtain ⟨kk, n, s, ks, l⟩ := t
  have hkid := fun t ht => okTx_kid h1 (t := t) ht
  have hT := okTx_size h1
  obtain ⟨⟨d, h1⟩, h2⟩ := h1
  have hks := keys_small h1
  have e3 : SizeOf.sizeOf l < k := by have e : SizeOf.sizeOf (T.mk kk n s ks l) < k + 1 := h4
                                      rw [T.mk.sizeOf_spec] at e; omega
  clear h4
  simp only [formT] at h1
  obtain ⟨f1, f2, f3, f4, f5, f6, f7, f8, f9, f10, f11, f12⟩ := h1
  have f13 := f10.2
  simp only [sizeT] at h2
  have f14 := len_sizeL l
  have hz := fun i => join_take (k := kk) hks f12 (by omega) i
  have q1 : (ByteArray.mk #[39]).size = 1 := rfl
  have q2 : (ByteArray.mk #[123]).size = 1 := rfl
  have q3 : (ByteArray.mk #[125]).size = 1 := rfl
  have q4 : (ByteArray.mk #[91]).size = 1 := rfl
  have q5 : (ByteArray.mk #[93]).size = 1 := rfl
  have q6 : (ByteArray.mk #[58]).size = 1 := rfl
  have hkk : kk = 0 \/ kk = 1 \/ kk = 2 \/ kk = 3 \/ kk = 4 \/ kk = 5 \/ kk = 6 := by omega
  rcases hkk with rfl | rfl | rfl | rfl | rfl | hkk
  ·simp only [x_textI, T.enc, rg, go_sem, seval, Prod.fst, textT]
   repeat' (first | with_reducible assumption | with_reducible refine And.intro ?_ ?_ | intro _)
  ·simp only [x_textI, T.enc, rg, go_sem, seval, Prod.fst, textT]
   repeat' (first | with_reducible assumption | with_reducible refine And.intro ?_ ?_ | intro _)
   all_goals first | omega | simp
  ·simp only [x_textI, T.enc, rg, go_sem, seval, Prod.fst, textT]
   repeat' (first | with_reducible assumption | with_reducible refine And.intro ?_ ?_ | intro _)
   all_goals first | omega | simp
  ·simp only [x_textI, T.enc, rg, go_sem, seval, Prod.fst, textT, spItoa_md, spItoa_pre, spItoa_alts, spItoa_res, spItoa_out]
   repeat' (first | with_reducible assumption | with_reducible refine And.intro ?_ ?_ | intro _)
   all_goals first | omega | (unfold i64; omega) | simp
  ·simp only [x_textI, T.enc, rg, go_sem, seval, Prod.fst, textT, q1]
   repeat' (first | with_reducible assumption | with_reducible refine And.intro ?_ ?_ | intro _)
   all_goals first | omega | simp
  have b0 : (kk = 0) = False := eq_false (by omega)
  have b1 : (kk = 1) = False := eq_false (by omega)
  have b2 : (kk = 2) = False := eq_false (by omega)
  have b3 : (kk = 3) = False := eq_false (by omega)
  have b4 : (kk = 4) = False := eq_false (by omega)
  simp only [x_textI, T.enc, rg, go_sem, seval, Prod.fst, b0, b1, b2, b3, b4, encL_len]
  repeat' (first | with_reducible assumption | with_reducible refine And.intro ?_ ?_ | intro _)
  all_goals first | omega | skip
  have hA : (l.length : Int) = l.length := rfl
  refine pw_loop (ι := Nat) (fun i => l.length - i) (fun i => i <= l.length)
   (fun i => ⟨[(1, .q (.box 1 0)), (3, .q (.own 51)), (28, .q (.c (.row 5 (encL l)))), (29, .q (.c (.int .i64 l.length))), (30, .q (.c (.int .i64 i)))],
    [(1, [.c (.int .i64 kk), .c (.int .i64 n), .c (.str s), .c (.row 1 (strs ks)), .c (.row 5 (encL l))])], [(51, 1, strs ((textLs kk ks l).take i))]⟩) 0 (Nat.zero_le _) ?_ ?_
  ·refine Le.own (t := 3) (d := 51) (sz := 1) (by decide) (by simp) (by simp [Q.killO]) ?_
   simp [PV.map, Q.killO, strs]
  intro i hi
  rcases Nat.lt_or_ge i l.length with hlt | hge
  ·obtain ⟨t, ht, _, hmem⟩ := drop_at hlt
   have a1 := encL_at ht
   have a2 : ((i : Int) < (l.length : Int)) = True := by simp; omega
   have a4 := size_mem hmem
   have a5 := hkid t hmem
   have a6 := T.enc_len t
   have a7 := okTx_size a5
   have a9 := textLs_take kk l ks i t ht
   have a10 : ((textLs kk ks l).take i).length = i := by rw [List.length_take, textLs_len]; omega
   rcases hkk with hkk | hkk
   ·have b5 : (kk = 6) = False := eq_false (by omega)
    simp only [b5, if_false] at a9
    simp only [rg, go_sem, seval, Prod.fst, a1, a2, a6, a10, b5, encL_len, strs_len, spTxt_md, spTxt_pre, spTxt_alts, spTxt_res, spTxt_out]
    repeat' (first | with_reducible assumption | with_reducible refine And.intro ?_ ?_ | intro _)
    all_goals first | omega | with_reducible assumption | skip
    refine ⟨i + 1, hlt, by omega, ?_⟩
    rw [a9, strs_app]
    exact Le.sub (by simp) (by simp) (by simp [strs])
   ·have b5 : (kk = 6) = True := eq_true (by omega)
    obtain ⟨key, hkey⟩ : ∃ y, ks[i]? = some y := ⟨ks[i]'(by have := (f11 hkk).1; omega), List.getElem?_eq_getElem _⟩
    have b6 := strs_at hkey
    have b7 : ks.getD i ⟨#[]⟩ = key := by simp [List.getD, hkey]
    have b8 := hks key (List.mem_of_getElem? hkey)
    have b9 := (f11 hkk).1
    simp only [b5, if_true, b7] at a9
    simp only [rg, go_sem, seval, Prod.fst, a1, a2, a6, a10, b5, b6, q6, encL_len, strs_len, ByteArray.size_append, spTxt_md, spTxt_pre, spTxt_alts, spTxt_res, spTxt_out]
    repeat' (first | with_reducible assumption | with_reducible refine And.intro ?_ ?_ | intro _)
    all_goals first | omega | with_reducible assumption | skip
    refine ⟨i + 1, hlt, by omega, ?_⟩
    rw [a9, strs_app]
    exact Le.sub (by simp) (by simp) (by simp [strs])
  ·have a2 : ((i : Int) < (l.length : Int)) = False := by simp; omega
   have a3 : (textLs kk ks l).take i = textLs kk ks l := List.take_of_length_le (by rw [textLs_len]; exact hge)
   have a4 := hz i
   have a5 := textLs_len kk ks l
   rw [a3] at a4
   rcases hkk with hkk | hkk
   ·have b5 : (kk = 6) = False := eq_false (by omega)
    simp only [rg, go_sem, seval, Prod.fst, a2, a3, a5, b5, encL_len, q4, q5, ByteArray.size_append, lenB, spJoin_md, spJoin_pre, spJoin_alts, spJoin_res, spJoin_out]
    repeat' (first | with_reducible assumption | with_reducible refine And.intro ?_ ?_ | intro _)
    all_goals first | omega | with_reducible assumption | skip
    all_goals (simp only [textT, b0, b1, b2, b3, b4, b5, if_false])
   ·have b5 : (kk = 6) = True := eq_true (by omega)
    simp only [rg, go_sem, seval, Prod.fst, a2, a3, a5, b5, encL_len, q2, q3, ByteArray.size_append, lenB, spJoin_md, spJoin_pre, spJoin_alts, spJoin_res, spJoin_out]
    repeat' (first | with_reducible assumption | with_reducible refine And.intro ?_ ?_ | intro _)
    all_goals first | omega | with_reducible assumption | skip
    all_goals (simp only [textT, b0, b1, b2, b3, b4, b5, if_false, if_true])
theorem txtI_all (hK : tabK) (k : Nat) : Sound Tryd.prog 32 (spTxt k) := by
 induction k with
 | zero => exact Sound.none
 | succ k ih => exact txtI_sound hK k ih
theorem txtIV_sound (hK : tabK) : Sound Tryd.prog 32 spTxtV := Sound.all (μ := fun t => SizeOf.sizeOf t) (txtI_all hK)
end Go.Proofs.Pw
namespace Go.Proofs.Pw
variable [Globs]
def x_EqualS : X := (.seq (.reg [⟨some 4, none, .mv (.k (.c (.bool false)))⟩] none [0, 1]) (.seq (.seq (.reg [⟨some 6, none, .mv (.t 0)⟩, ⟨some 7, none, .len (.t 6) false⟩, ⟨some 8, none, .mv (.t 1)⟩, ⟨some 9, none, .len (.t 8) false⟩, ⟨some 10, none, .bin false .neq (.t 7) (.t 9)⟩] none [0, 1, 10]) (.cond (.t 10) (.seq (.reg [⟨some 4, none, .mv (.k (.c (.bool false)))⟩] none [4]) .ret) .skip)) (.seq (.seq (.reg [⟨some 11, none, .mv (.t 0)⟩, ⟨some 12, none, .len (.t 11) false⟩, ⟨some 13, none, .mv (.k (.c (.int .i64 0)))⟩] none [0, 1, 12, 13]) (.block 0 (.loop (.seq (.reg [⟨some 14, none, .bin false .lss (.t 13) (.t 12)⟩] none [0, 1, 12, 13, 14]) (.seq (.cond (.t 14) .skip (.exit 0)) (.seq (.block 1 (.seq (.reg [⟨some 15, none, .mv (.t 13)⟩, ⟨some 5, none, .mv (.t 15)⟩] none [0, 1, 5, 12, 13]) (.seq (.reg [⟨some 16, none, .mv (.t 0)⟩, ⟨some 17, none, .mv (.t 5)⟩, ⟨some 18, none, .ia (.t 16) (.t 17) 1⟩, ⟨some 19, none, .load (.t 18) none⟩, ⟨some 20, none, .mv (.t 1)⟩, ⟨some 21, none, .mv (.t 5)⟩, ⟨some 22, none, .ia (.t 20) (.t 21) 1⟩, ⟨some 23, none, .load (.t 22) none⟩, ⟨some 24, none, .bin false .neq (.t 19) (.t 23)⟩] (some 8) [0, 1, 12, 13, 24]) (.cond (.t 24) (.seq (.reg [⟨some 4, none, .mv (.k (.c (.bool false)))⟩] none [4]) .ret) .skip)))) (.reg [⟨some 25, none, .bin false .add (.t 13) (.k (.c (.int .i64 1)))⟩, ⟨some 13, none, .mv (.t 25)⟩] none [0, 1, 12, 13]))))))) (.seq (.reg [⟨some 4, none, .mv (.k (.c (.bool true)))⟩] none [4]) .ret))))
theorem chk_EqualS : chkX Tryd.prog 26 (Tryd.f39.body.getD .skip) x_EqualS = true := by kernel_rfl
theorem rs_EqualS : okRs Tryd.prog Tryd.f39.results.toList [.tmp 4] = true := by kernel_rfl
theorem call_EqualS : okCallee Tryd.prog 39 = true := by kernel_rfl
def x_EqualF : X := (.seq (.reg [⟨some 6, none, .mv (.k (.c (.bool false)))⟩] none [0, 1, 2]) (.seq (.seq (.reg [⟨some 10, none, .mv (.t 0)⟩, ⟨some 11, none, .len (.t 10) false⟩, ⟨some 12, none, .mv (.t 1)⟩, ⟨some 13, none, .len (.t 12) false⟩, ⟨some 14, none, .bin false .neq (.t 11) (.t 13)⟩] none [0, 1, 2, 14]) (.cond (.t 14) (.seq (.reg [⟨some 6, none, .mv (.k (.c (.bool false)))⟩] none [6]) .ret) .skip)) (.seq (.seq (.reg [⟨some 15, none, .mv (.t 0)⟩, ⟨some 16, none, .len (.t 15) false⟩, ⟨some 17, none, .mv (.k (.c (.int .i64 0)))⟩] none [1, 2, 15, 16, 17]) (.block 0 (.loop (.seq (.reg [⟨some 18, none, .bin false .lss (.t 17) (.t 16)⟩] none [1, 2, 15, 16, 17, 18]) (.seq (.cond (.t 18) .skip (.exit 0)) (.seq (.block 1 (.seq (.reg [⟨some 19, none, .mv (.t 17)⟩, ⟨some 20, none, .ia (.t 15) (.t 17) 5⟩, ⟨some 21, none, .load (.t 20) (some 5)⟩, ⟨some 8, none, .alloc [(.c (.int .i64 0)), (.c (.int .i64 0)), (.c (.str ⟨#[]⟩)), (.z 1), (.z 5)]⟩, ⟨some 7, none, .mv (.t 19)⟩, ⟨none, none, .st (.t 8) (.t 21) (some 5)⟩] none [1, 2, 7, 8, 15, 16, 17]) (.seq (.reg [⟨some 22, none, .mv (.t 1)⟩, ⟨some 23, none, .mv (.t 7)⟩, ⟨some 24, none, .ia (.t 22) (.t 23) 5⟩, ⟨some 25, none, .load (.t 24) (some 5)⟩, ⟨some 9, none, .alloc [(.c (.int .i64 0)), (.c (.int .i64 0)), (.c (.str ⟨#[]⟩)), (.z 1), (.z 5)]⟩, ⟨none, none, .st (.t 9) (.t 25) (some 5)⟩] none [1, 2, 8, 9, 15, 16, 17]) (.seq (.reg [⟨some 26, none, .mv (.t 2)⟩, ⟨some 27, none, .load (.t 8) (some 5)⟩, ⟨some 28, none, .load (.t 9) (some 5)⟩, ⟨some 29, none, .calli (.t 26) [(.t 27), (.t 28)]⟩, ⟨some 30, none, .not (.t 29)⟩] none [1, 2, 15, 16, 17, 30]) (.cond (.t 30) (.seq (.reg [⟨some 6, none, .mv (.k (.c (.bool false)))⟩] none [6]) .ret) .skip))))) (.reg [⟨some 31, none, .bin false .add (.t 17) (.k (.c (.int .i64 1)))⟩, ⟨some 17, none, .mv (.t 31)⟩] none [1, 2, 15, 16, 17]))))))) (.seq (.reg [⟨some 6, none, .mv (.k (.c (.bool true)))⟩] none [6]) .ret))))
theorem chk_EqualF : chkX Tryd.prog 32 (Tryd.f40.body.getD .skip) x_EqualF = true := by kernel_rfl
theorem rs_EqualF : okRs Tryd.prog Tryd.f40.results.toList [.tmp 6] = true := by kernel_rfl
theorem call_EqualF : okCallee Tryd.prog 40 = true := by kernel_rfl
def x_ValSameI : X := (.seq (.reg [⟨some 2, none, .box (.t 0) (some 5)⟩, ⟨some 3, none, .box (.t 1) (some 5)⟩, ⟨some 4, none, .mv (.k (.c (.bool false)))⟩] none [2, 3]) (.seq (.reg [⟨some 5, none, .fa (.t 2) 0⟩, ⟨some 6, none, .load (.t 5) none⟩, ⟨some 7, none, .fa (.t 3) 0⟩, ⟨some 8, none, .load (.t 7) none⟩, ⟨some 9, none, .bin false .eql (.t 6) (.t 8)⟩, ⟨some 10, none, .mv (.t 9)⟩, ⟨some 11, some (10, true), .fa (.t 2) 1⟩, ⟨some 12, some (10, true), .load (.t 11) none⟩, ⟨some 13, some (10, true), .fa (.t 3) 1⟩, ⟨some 14, some (10, true), .load (.t 13) none⟩, ⟨some 15, some (10, true), .bin false .eql (.t 12) (.t 14)⟩, ⟨some 16, none, .pick (.t 10) (.t 15) (.k (.c (.bool false)))⟩, ⟨some 17, none, .mv (.t 16)⟩, ⟨some 18, some (17, true), .fa (.t 2) 2⟩, ⟨some 19, some (17, true), .load (.t 18) none⟩, ⟨some 20, some (17, true), .fa (.t 3) 2⟩, ⟨some 21, some (17, true), .load (.t 20) none⟩, ⟨some 22, some (17, true), .bin false .eql (.t 19) (.t 21)⟩, ⟨some 23, none, .pick (.t 17) (.t 22) (.k (.c (.bool false)))⟩, ⟨some 24, none, .mv (.t 23)⟩, ⟨some 25, some (24, true), .fa (.t 2) 3⟩, ⟨some 26, some (24, true), .load (.t 25) none⟩, ⟨some 27, some (24, true), .fa (.t 3) 3⟩, ⟨some 28, some (24, true), .load (.t 27) none⟩, ⟨some 29, some (24, true), .call 39 [(.t 26), (.t 28)]⟩, ⟨some 30, none, .pick (.t 24) (.t 29) (.k (.c (.bool false)))⟩, ⟨some 31, none, .mv (.t 30)⟩, ⟨some 32, some (31, true), .fa (.t 2) 4⟩, ⟨some 33, some (31, true), .load (.t 32) none⟩, ⟨some 34, some (31, true), .fa (.t 3) 4⟩, ⟨some 35, some (31, true), .load (.t 34) none⟩, ⟨some 36, some (31, true), .call 40 [(.t 33), (.t 35), (.k (.c (.fn 13)))]⟩, ⟨some 37, none, .pick (.t 31) (.t 36) (.k (.c (.bool false)))⟩, ⟨some 4, none, .mv (.t 37)⟩] none [4]) .ret))
theorem chk_ValSameI : chkX Tryd.prog 38 (Tryd.f13.body.getD .skip) x_ValSameI = true := by kernel_rfl
theorem rs_ValSameI : okRs Tryd.prog Tryd.f13.results.toList [.tmp 4] = true := by kernel_rfl
theorem call_ValSameI : okCallee Tryd.prog 13 = true := by kernel_rfl
noncomputable def spEqualS  : Spec := Spec.of (ι := (List ByteArray) × (List ByteArray)) [false, false] (fun i => [.d (.one (.row 1 (strs i.1))), .d (.one (.row 1 (strs i.2)))]) (fun i => lenB 140737488355328 i.1.length /\ lenB 140737488355328 i.2.length) (fun i => [.d (.one (.bool (decide (i.1 = i.2))))]) (fun _ => [.gone, .gone])
theorem spEqualS_inj : ∀ i j : (List ByteArray) × (List ByteArray), (fun (i : (List ByteArray) × (List ByteArray)) => ([.d (.one (.row 1 (strs i.1))), .d (.one (.row 1 (strs i.2)))] : List AV)) i = (fun (i : (List ByteArray) × (List ByteArray)) => ([.d (.one (.row 1 (strs i.1))), .d (.one (.row 1 (strs i.2)))] : List AV)) j -> i = j := by
 rintro ⟨a, b⟩ ⟨a', b'⟩ h
 simp only [Prod.mk.injEq]
 simpa [strs_eq, T.enc_eq, encL_eq, F.enc_eq, encF_eq, Tk.enc_eq, encTk_eq, Gn.enc_eq, ints_eq] using h
theorem spEqualS_md  : (spEqualS).md = [false, false] := rfl
theorem spEqualS_pre  (a : List ByteArray) (b : List ByteArray) : (spEqualS).pre [.d (.one (.row 1 (strs a))), .d (.one (.row 1 (strs b)))] = (lenB 140737488355328 a.length /\ lenB 140737488355328 b.length) := Spec.of_pre' spEqualS_inj (a, b)
theorem spEqualS_alts  : (spEqualS).alts = none := rfl
theorem spEqualS_res  (a : List ByteArray) (b : List ByteArray) : (spEqualS).res [.d (.one (.row 1 (strs a))), .d (.one (.row 1 (strs b)))] = [.d (.one (.bool (decide (a = b))))] := Spec.of_res spEqualS_inj (a, b)
theorem spEqualS_out  (a : List ByteArray) (b : List ByteArray) : (spEqualS).out [.d (.one (.row 1 (strs a))), .d (.one (.row 1 (strs b)))] = [.gone, .gone] := Spec.of_out spEqualS_inj (a, b)
theorem equalS_sound : Sound Tryd.prog 39 spEqualS := by
 refine sound_fam GOK.nil Tryd.func39 (c := Tryd.f39.body.getD .skip) rfl (n := 26) rfl chk_EqualS rs_EqualS (fun _ => by simp) ?_ ?_
 ·exact spEqualS_inj
 ·rintro ⟨a, b⟩ h1
  simp only [lenB] at h1
  by_cases hl : a.length = b.length
  ·have b1 : ((a.length : Int) = (b.length : Int)) = True := by simp [hl]
   simp only [x_EqualS, rg, go_sem, seval, b1]
   refine pw_loop (ι := Nat) (fun i => a.length - i) (fun i => i <= a.length /\ a.take i = b.take i)
    (fun i => ⟨[(0, .q (.c (.row 1 (strs a)))), (1, .q (.c (.row 1 (strs b)))), (12, .q (.c (.int .i64 a.length))), (13, .q (.c (.int .i64 i)))], [], []⟩) 0 ⟨Nat.zero_le _, rfl⟩ (Le.refl _) ?_
   rintro i ⟨hi, heq⟩
   rcases Nat.lt_or_ge i a.length with hlt | hge
   ·obtain ⟨s, hs, _, hmem⟩ := drop_at hlt
    obtain ⟨s', hs', _, hmem'⟩ := drop_at (l := b) (i := i) (by omega)
    have a1 := strs_at hs
    have a1' := strs_at hs'
    have a2 : ((i : Int) < (a.length : Int)) = True := by simp; omega
    have a3 : ((i : Int) < (b.length : Int)) = True := by simp; omega
    by_cases hc : s = s'
    ·have c1 : (s = s') = True := by simp [hc]
     simp only [go_sem, seval, rg, a1, a1', a2, a3, c1]
     repeat' (first | with_reducible assumption | with_reducible refine And.intro ?_ ?_ | intro _)
     all_goals first | omega | skip
     exact ⟨i + 1, ⟨by omega, take_at hs (hc ▸ hs') heq⟩, by omega, Le.refl _⟩
    ·have c1 : (s = s') = False := by simp [hc]
     simp only [go_sem, seval, rg, a1, a1', a2, a3, c1]
     repeat' (first | with_reducible assumption | with_reducible refine And.intro ?_ ?_ | intro _)
     all_goals first | omega | skip
     rename_i h; exact ne_at hs hs' hc h
   ·have a2 : ((i : Int) < (a.length : Int)) = False := by simp; omega
    have hie : i = a.length := by omega
    subst hie
    simp only [go_sem, seval, a2]
    exact take_all hl heq
  ·have b1 : ((a.length : Int) = (b.length : Int)) = False := by simp; omega
   simp only [x_EqualS, rg, go_sem, seval, b1]
   exact fun e => hl (by rw [e])
noncomputable def spSameI (k:Nat) : Spec := Spec.of (ι := T × T) [false, false] (fun i => [.d (.agg i.1.enc), .d (.agg i.2.enc)]) (fun i => (i.1.fit 140737488355328 /\ i.2.fit 140737488355328) /\ SizeOf.sizeOf i.1 < k) (fun i => [.d (.one (.bool (decide (i.1 = i.2))))]) (fun _ => [.gone, .gone])
theorem spSameI_inj : ∀ i j : T × T, (fun (i : T × T) => ([.d (.agg i.1.enc), .d (.agg i.2.enc)] : List AV)) i = (fun (i : T × T) => ([.d (.agg i.1.enc), .d (.agg i.2.enc)] : List AV)) j -> i = j := by
 rintro ⟨a, b⟩ ⟨a', b'⟩ h
 simp only [Prod.mk.injEq]
 simpa [strs_eq, T.enc_eq, encL_eq, F.enc_eq, encF_eq, Tk.enc_eq, encTk_eq, Gn.enc_eq, ints_eq] using h
theorem spSameI_md (k:Nat) : (spSameI k).md = [false, false] := rfl
theorem spSameI_pre (k:Nat) (a : T) (b : T) : (spSameI k).pre [.d (.agg a.enc), .d (.agg b.enc)] = ((a.fit 140737488355328 /\ b.fit 140737488355328) /\ SizeOf.sizeOf a < k) := Spec.of_pre' spSameI_inj (a, b)
theorem spSameI_alts (k:Nat) : (spSameI k).alts = none := rfl
theorem spSameI_res (k:Nat) (a : T) (b : T) : (spSameI k).res [.d (.agg a.enc), .d (.agg b.enc)] = [.d (.one (.bool (decide (a = b))))] := Spec.of_res spSameI_inj (a, b)
theorem spSameI_out (k:Nat) (a : T) (b : T) : (spSameI k).out [.d (.agg a.enc), .d (.agg b.enc)] = [.gone, .gone] := Spec.of_out spSameI_inj (a, b)
noncomputable def spEqualF (k:Nat) : Spec := Spec.of (ι := (List T) × (List T)) [false, false, false] (fun i => [.d (.one (.row 5 (encL i.1))), .d (.one (.row 5 (encL i.2))), .d (.one (.fn 13))]) (fun i => (lenB 140737488355328 i.1.length /\ fitL 140737488355328 i.1 /\ lenB 140737488355328 i.2.length /\ fitL 140737488355328 i.2) /\ SizeOf.sizeOf i.1 < k) (fun i => [.d (.one (.bool (decide (i.1 = i.2))))]) (fun _ => [.gone, .gone, .gone])
theorem spEqualF_inj : ∀ i j : (List T) × (List T), (fun (i : (List T) × (List T)) => ([.d (.one (.row 5 (encL i.1))), .d (.one (.row 5 (encL i.2))), .d (.one (.fn 13))] : List AV)) i = (fun (i : (List T) × (List T)) => ([.d (.one (.row 5 (encL i.1))), .d (.one (.row 5 (encL i.2))), .d (.one (.fn 13))] : List AV)) j -> i = j := by
 rintro ⟨a, b⟩ ⟨a', b'⟩ h
 simp only [Prod.mk.injEq]
 simpa [strs_eq, T.enc_eq, encL_eq, F.enc_eq, encF_eq, Tk.enc_eq, encTk_eq, Gn.enc_eq, ints_eq] using h
theorem spEqualF_md (k:Nat) : (spEqualF k).md = [false, false, false] := rfl
theorem spEqualF_pre (k:Nat) (a : List T) (b : List T) : (spEqualF k).pre [.d (.one (.row 5 (encL a))), .d (.one (.row 5 (encL b))), .d (.one (.fn 13))] = ((lenB 140737488355328 a.length /\ fitL 140737488355328 a /\ lenB 140737488355328 b.length /\ fitL 140737488355328 b) /\ SizeOf.sizeOf a < k) := Spec.of_pre' spEqualF_inj (a, b)
theorem spEqualF_alts (k:Nat) : (spEqualF k).alts = none := rfl
theorem spEqualF_res (k:Nat) (a : List T) (b : List T) : (spEqualF k).res [.d (.one (.row 5 (encL a))), .d (.one (.row 5 (encL b))), .d (.one (.fn 13))] = [.d (.one (.bool (decide (a = b))))] := Spec.of_res spEqualF_inj (a, b)
theorem spEqualF_out (k:Nat) (a : List T) (b : List T) : (spEqualF k).out [.d (.one (.row 5 (encL a))), .d (.one (.row 5 (encL b))), .d (.one (.fn 13))] = [.gone, .gone, .gone] := Spec.of_out spEqualF_inj (a, b)
theorem sameI_sound (k : Nat) (hS : Sound Tryd.prog 40 (spEqualF k)) : Sound Tryd.prog 13 (spSameI (k + 1)) := by
 refine sound_fam (GOK.cons (l := [(40, spEqualF k)]) call_EqualS equalS_sound (GOK.cons call_EqualF hS GOK.nil)) Tryd.func13 (c := Tryd.f13.body.getD .skip) rfl (n := 38) rfl chk_ValSameI rs_ValSameI (fun _ => by simp) ?_ ?_
 ·exact spSameI_inj
 ·rintro ⟨a, b⟩ ⟨⟨h1, h2⟩, h4⟩
  obtain ⟨kk, n, s, ks, l⟩ := a
  obtain ⟨kk', n', s', ks', l'⟩ := b
  simp only [T.fit, strsFit] at h1 h2
  obtain ⟨_, _, f1, ⟨f2, f2'⟩, f3, f4⟩ := h1
  obtain ⟨_, _, g1, ⟨g2, g2'⟩, g3, g4⟩ := h2
  have e3 : SizeOf.sizeOf l < k := by have e : SizeOf.sizeOf (T.mk kk n s ks l) < k + 1 := h4
                                      rw [T.mk.sizeOf_spec] at e; omega
  clear h4
  simp only [x_ValSameI, T.enc, go_sem, seval, rg, T.mk.injEq, spEqualS_md, spEqualS_pre, spEqualS_alts, spEqualS_res, spEqualS_out, spEqualF_md, spEqualF_pre, spEqualF_alts, spEqualF_res, spEqualF_out]
  repeat' (first | with_reducible assumption | with_reducible refine And.intro ?_ ?_ | intro _)
  all_goals first | omega | (grind; done) | skip
theorem equalF_sound (k : Nat) (hS : Sound Tryd.prog 13 (spSameI k)) : Sound Tryd.prog 40 (spEqualF (k + 1)) := by
 refine sound_fam (GOK.cons call_ValSameI hS GOK.nil) Tryd.func40 (c := Tryd.f40.body.getD .skip) rfl (n := 32) rfl chk_EqualF rs_EqualF (fun _ => by simp) ?_ ?_
 ·exact spEqualF_inj
 ·rintro ⟨a, b⟩ ⟨h1, h3⟩
  simp only at h3
  simp only [lenB] at h1
  have fa := fitL_mem h1.2.1
  have fb := fitL_mem h1.2.2.2
  by_cases hl : a.length = b.length
  ·have b1 : ((a.length : Int) = (b.length : Int)) = True := by simp [hl]
   simp only [x_EqualF, rg, go_sem, seval, b1]
   refine pw_loop (ι := Nat) (fun i => a.length - i) (fun i => i <= a.length /\ a.take i = b.take i)
    (fun i => ⟨[(1, .q (.c (.row 5 (encL b)))), (2, .q (.c (.fn 13))), (15, .q (.c (.row 5 (encL a)))), (16, .q (.c (.int .i64 a.length))), (17, .q (.c (.int .i64 i)))], [], []⟩) 0 ⟨Nat.zero_le _, rfl⟩ (Le.refl _) ?_
   rintro i ⟨hi, heq⟩
   rcases Nat.lt_or_ge i a.length with hlt | hge
   ·obtain ⟨s, hs, _, hmem⟩ := drop_at hlt
    obtain ⟨s', hs', _, hmem'⟩ := drop_at (l := b) (i := i) (by omega)
    have a1 := encL_at hs
    have a1' := encL_at hs'
    have a2 : ((i : Int) < (a.length : Int)) = True := by simp; omega
    have a3 : ((i : Int) < (b.length : Int)) = True := by simp; omega
    have a4 := fa s hmem
    have a5 := fb s' hmem'
    have a6 := T.enc_len s
    have a6' := T.enc_len s'
    have a8 := size_mem hmem
    by_cases hc : s = s'
    ·have c1 : (s = s') = True := by simp [hc]
     simp only [go_sem, seval, rg, a1, a1', a2, a3, a6, a6', c1, spSameI_md, spSameI_pre, spSameI_alts, spSameI_res, spSameI_out]
     repeat' (first | with_reducible assumption | with_reducible refine And.intro ?_ ?_ | intro _)
     all_goals first | omega | skip
     exact ⟨i + 1, ⟨by omega, take_at hs (hc ▸ hs') heq⟩, by omega, Le.sub (fun _ h => h) (fun _ h => by cases h) (fun _ h => h)⟩
    ·have c1 : (s = s') = False := by simp [hc]
     simp only [go_sem, seval, rg, a1, a1', a2, a3, a6, a6', c1, spSameI_md, spSameI_pre, spSameI_alts, spSameI_res, spSameI_out]
     repeat' (first | with_reducible assumption | with_reducible refine And.intro ?_ ?_ | intro _)
     all_goals first | omega | skip
     rename_i h; exact ne_at hs hs' hc h
   ·have a2 : ((i : Int) < (a.length : Int)) = False := by simp; omega
    have hie : i = a.length := by omega
    subst hie
    simp only [go_sem, seval, a2]
    exact take_all hl heq
  ·have b1 : ((a.length : Int) = (b.length : Int)) = False := by simp; omega
   simp only [x_EqualF, rg, go_sem, seval, b1]
   exact fun e => hl (by rw [e])
theorem sameI_all (k : Nat) : Sound Tryd.prog 13 (spSameI k) /\ Sound Tryd.prog 40 (spEqualF k) := by
 induction k with
 | zero => exact ⟨Sound.none, Sound.none⟩
 | succ k ih => exact ⟨sameI_sound k ih.2, equalF_sound k ih.1⟩
noncomputable def spSameIV  : Spec := Spec.of (ι := T × T) [false, false] (fun i => [.d (.agg i.1.enc), .d (.agg i.2.enc)]) (fun i => i.1.fit 140737488355328 /\ i.2.fit 140737488355328) (fun i => [.d (.one (.bool (decide (i.1 = i.2))))]) (fun _ => [.gone, .gone])
theorem spSameIV_inj : ∀ i j : T × T, (fun (i : T × T) => ([.d (.agg i.1.enc), .d (.agg i.2.enc)] : List AV)) i = (fun (i : T × T) => ([.d (.agg i.1.enc), .d (.agg i.2.enc)] : List AV)) j -> i = j := by
 rintro ⟨a, b⟩ ⟨a', b'⟩ h
 simp only [Prod.mk.injEq]
 simpa [strs_eq, T.enc_eq, encL_eq, F.enc_eq, encF_eq, Tk.enc_eq, encTk_eq, Gn.enc_eq, ints_eq] using h
theorem spSameIV_md  : (spSameIV).md = [false, false] := rfl
theorem spSameIV_pre  (a : T) (b : T) : (spSameIV).pre [.d (.agg a.enc), .d (.agg b.enc)] = (a.fit 140737488355328 /\ b.fit 140737488355328) := Spec.of_pre' spSameIV_inj (a, b)
theorem spSameIV_alts  : (spSameIV).alts = none := rfl
theorem spSameIV_res  (a : T) (b : T) : (spSameIV).res [.d (.agg a.enc), .d (.agg b.enc)] = [.d (.one (.bool (decide (a = b))))] := Spec.of_res spSameIV_inj (a, b)
theorem spSameIV_out  (a : T) (b : T) : (spSameIV).out [.d (.agg a.enc), .d (.agg b.enc)] = [.gone, .gone] := Spec.of_out spSameIV_inj (a, b)
theorem sameIV_sound : Sound Tryd.prog 13 spSameIV := Sound.all (μ := fun i => SizeOf.sizeOf i.1) (fun k => (sameI_all k).1)
end Go.Proofs.Pw
namespace Go.Proofs.Pw
variable [Globs]
def x_pick : X := (.seq (.reg [⟨some 4, none, .mv (.k (.c (.int .i64 0)))⟩] none [0, 1]) (.seq (.reg [⟨some 7, none, .mv (.t 0)⟩, ⟨some 8, none, .mv (.t 0)⟩, ⟨some 9, none, .nilc (.t 8)⟩, ⟨some 10, none, .fa (.t 9) 1⟩, ⟨some 11, none, .load (.t 10) none⟩, ⟨some 12, none, .bin false .add (.t 11) (.k (.c (.int .i64 1)))⟩, ⟨some 13, none, .nilc (.t 7)⟩, ⟨some 14, none, .fa (.t 13) 1⟩, ⟨none, none, .st (.t 14) (.t 12) none⟩] none [0, 1]) (.seq (.seq (.reg [⟨some 15, none, .mv (.t 1)⟩, ⟨some 16, none, .bin false .lss (.t 15) (.k (.c (.int .i64 1)))⟩, ⟨some 17, none, .mv (.t 16)⟩, ⟨some 18, some (17, false), .mv (.t 0)⟩, ⟨some 19, some (17, false), .nilc (.t 18)⟩, ⟨some 20, some (17, false), .fa (.t 19) 0⟩, ⟨some 21, some (17, false), .load (.t 20) none⟩, ⟨some 22, some (17, false), .len (.t 21) false⟩, ⟨some 23, some (17, false), .bin false .eql (.t 22) (.k (.c (.int .i64 0)))⟩, ⟨some 24, none, .pick (.t 17) (.k (.c (.bool true))) (.t 23)⟩] none [0, 1, 24]) (.cond (.t 24) (.seq (.reg [⟨some 4, none, .mv (.k (.c (.int .i64 0)))⟩] none [4]) .ret) .skip)) (.seq (.reg [⟨some 25, none, .mv (.t 0)⟩, ⟨some 26, none, .nilc (.t 25)⟩, ⟨some 27, none, .fa (.t 26) 1⟩, ⟨some 28, none, .load (.t 27) none⟩, ⟨some 29, none, .bin false .sub (.t 28) (.k (.c (.int .i64 1)))⟩, ⟨some 5, none, .mv (.t 29)⟩] none [0, 1, 5]) (.seq (.seq (.reg [⟨some 30, none, .mv (.t 5)⟩, ⟨some 31, none, .mv (.t 0)⟩, ⟨some 32, none, .nilc (.t 31)⟩, ⟨some 33, none, .fa (.t 32) 0⟩, ⟨some 34, none, .load (.t 33) none⟩, ⟨some 35, none, .len (.t 34) false⟩, ⟨some 36, none, .bin false .lss (.t 30) (.t 35)⟩] none [0, 1, 5, 36]) (.cond (.t 36) (.seq (.reg [⟨some 37, none, .mv (.t 0)⟩, ⟨some 38, none, .nilc (.t 37)⟩, ⟨some 39, none, .fa (.t 38) 0⟩, ⟨some 40, none, .load (.t 39) none⟩, ⟨some 41, none, .mv (.t 5)⟩, ⟨some 42, none, .ia (.t 40) (.t 41) 1⟩, ⟨some 43, none, .load (.t 42) none⟩, ⟨some 44, none, .conv .i64 (.t 43)⟩, ⟨some 45, none, .mv (.t 1)⟩, ⟨some 46, none, .bin false .rem (.t 44) (.t 45)⟩, ⟨some 4, none, .mv (.t 46)⟩] none [4]) .ret) .skip)) (.seq (.reg [⟨some 47, none, .mv (.t 0)⟩, ⟨some 48, none, .nilc (.t 47)⟩, ⟨some 49, none, .fa (.t 48) 0⟩, ⟨some 50, none, .load (.t 49) none⟩, ⟨some 51, none, .mv (.t 5)⟩, ⟨some 52, none, .mv (.t 0)⟩, ⟨some 53, none, .nilc (.t 52)⟩, ⟨some 54, none, .fa (.t 53) 0⟩, ⟨some 55, none, .load (.t 54) none⟩, ⟨some 56, none, .len (.t 55) false⟩, ⟨some 57, none, .bin false .rem (.t 51) (.t 56)⟩, ⟨some 58, none, .ia (.t 50) (.t 57) 1⟩, ⟨some 59, none, .load (.t 58) none⟩, ⟨some 60, none, .conv .i64 (.t 59)⟩, ⟨some 61, none, .bin false .mul (.t 60) (.k (.c (.int .i64 131)))⟩, ⟨some 62, none, .mv (.t 0)⟩, ⟨some 63, none, .nilc (.t 62)⟩, ⟨some 64, none, .fa (.t 63) 0⟩, ⟨some 65, none, .load (.t 64) none⟩, ⟨some 66, none, .mv (.t 5)⟩, ⟨some 67, none, .bin false .mul (.t 66) (.k (.c (.int .i64 7)))⟩, ⟨some 68, none, .bin false .add (.t 67) (.k (.c (.int .i64 3)))⟩, ⟨some 69, none, .mv (.t 0)⟩, ⟨some 70, none, .nilc (.t 69)⟩, ⟨some 71, none, .fa (.t 70) 0⟩, ⟨some 72, none, .load (.t 71) none⟩, ⟨some 73, none, .len (.t 72) false⟩, ⟨some 74, none, .bin false .rem (.t 68) (.t 73)⟩, ⟨some 75, none, .ia (.t 65) (.t 74) 1⟩, ⟨some 76, none, .load (.t 75) none⟩, ⟨some 77, none, .conv .i64 (.t 76)⟩, ⟨some 78, none, .bin false .mul (.t 77) (.k (.c (.int .i64 1117)))⟩, ⟨some 79, none, .bin false .add (.t 61) (.t 78)⟩, ⟨some 80, none, .mv (.t 5)⟩, ⟨some 81, none, .bin false .mul (.t 80) (.k (.c (.int .i64 29)))⟩, ⟨some 82, none, .bin false .add (.t 79) (.t 81)⟩, ⟨some 83, none, .mv (.t 5)⟩, ⟨some 84, none, .mv (.t 0)⟩, ⟨some 85, none, .nilc (.t 84)⟩, ⟨some 86, none, .fa (.t 85) 0⟩, ⟨some 87, none, .load (.t 86) none⟩, ⟨some 88, none, .len (.t 87) false⟩, ⟨some 89, none, .bin false .quo (.t 83) (.t 88)⟩, ⟨some 90, none, .bin false .mul (.t 89) (.k (.c (.int .i64 53)))⟩, ⟨some 91, none, .bin false .add (.t 82) (.t 90)⟩, ⟨some 6, none, .mv (.t 91)⟩] (some 44) [1, 6]) (.seq (.reg [⟨some 92, none, .mv (.t 6)⟩, ⟨some 93, none, .mv (.t 6)⟩, ⟨some 94, none, .bin false .quo (.t 93) (.k (.c (.int .i64 64)))⟩, ⟨some 95, none, .bin false .xor (.t 92) (.t 94)⟩, ⟨some 6, none, .mv (.t 95)⟩] none [1, 6]) (.seq (.reg [⟨some 96, none, .mv (.t 6)⟩, ⟨some 97, none, .mv (.t 1)⟩, ⟨some 98, none, .bin false .rem (.t 96) (.t 97)⟩, ⟨some 4, none, .mv (.t 98)⟩] none [4]) .ret))))))))
theorem chk_pick : chkX Tryd.prog 99 (Tryd.f48.body.getD .skip) x_pick = true := by kernel_rfl
theorem rs_pick : okRs Tryd.prog Tryd.f48.results.toList [.tmp 4] = true := by kernel_rfl
theorem call_pick : okCallee Tryd.prog 48 = true := by kernel_rfl
def x_dof : X := (.seq (.reg [⟨some 4, none, .mv (.k (.c (.str ⟨#[]⟩)))⟩] none [0, 1]) (.seq (.reg [⟨some 5, none, .mv (.t 1)⟩, ⟨some 6, none, .mv (.t 0)⟩, ⟨some 7, none, .mv (.t 1)⟩, ⟨some 8, none, .len (.t 7) false⟩, ⟨some 9, none, .callr 48 [(.t 6), (.t 8)]⟩, ⟨some 10, none, .ia (.t 5) (.t 9) 1⟩, ⟨some 11, none, .load (.t 10) none⟩, ⟨some 4, none, .mv (.t 11)⟩] none [4]) .ret))
theorem chk_dof : chkX Tryd.prog 12 (Tryd.f49.body.getD .skip) x_dof = true := by kernel_rfl
theorem rs_dof : okRs Tryd.prog Tryd.f49.results.toList [.tmp 4] = true := by kernel_rfl
theorem call_dof : okCallee Tryd.prog 49 = true := by kernel_rfl
def x_dnum : X := (.seq (.reg [⟨some 4, none, .mv (.k (.c (.int .i64 0)))⟩] none [0, 1]) (.seq (.reg [⟨some 5, none, .mv (.t 1)⟩, ⟨some 6, none, .mv (.t 0)⟩, ⟨some 7, none, .mv (.t 1)⟩, ⟨some 8, none, .len (.t 7) false⟩, ⟨some 9, none, .callr 48 [(.t 6), (.t 8)]⟩, ⟨some 10, none, .ia (.t 5) (.t 9) 1⟩, ⟨some 11, none, .load (.t 10) none⟩, ⟨some 4, none, .mv (.t 11)⟩] none [4]) .ret))
theorem chk_dnum : chkX Tryd.prog 12 (Tryd.f67.body.getD .skip) x_dnum = true := by kernel_rfl
theorem rs_dnum : okRs Tryd.prog Tryd.f67.results.toList [.tmp 4] = true := by kernel_rfl
theorem call_dnum : okCallee Tryd.prog 67 = true := by kernel_rfl
def x_l1Leaf : X := (.seq (.reg [⟨some 2, none, .alloc [(.c (.int .i64 0)), (.c (.int .i64 0)), (.c (.str ⟨#[]⟩)), (.z 1), (.z 5)]⟩] none [0, 2]) (.seq (.seq (.reg [⟨some 3, none, .mv (.t 0)⟩, ⟨some 4, none, .callr 48 [(.t 3), (.k (.c (.int .i64 8)))]⟩] none [0, 2, 4]) (.block 0 (.seq (.reg [⟨some 6, none, .bin false .eql (.t 4) (.k (.c (.int .i64 0)))⟩, ⟨some 5, none, .mv (.t 6)⟩] none [0, 2, 4, 5]) (.cond (.t 5) (.seq (.reg [⟨some 7, none, .mv (.t 0)⟩, ⟨some 8, none, .callr 48 [(.t 7), (.k (.c (.int .i64 3)))]⟩, ⟨some 9, none, .build [(.c (.int .i64 0)), (.c (.int .i64 0)), (.c (.str ⟨#[]⟩)), (.z 1), (.z 5)] [(0, (.t 8), none)]⟩, ⟨none, none, .st (.t 2) (.t 9) (some 5)⟩] none [2]) .ret) (.seq (.seq (.reg [⟨some 11, none, .bin false .eql (.t 4) (.k (.c (.int .i64 1)))⟩, ⟨some 10, none, .mv (.t 11)⟩] none [0, 2, 4, 10]) (.cond (.t 10) .skip (.reg [⟨some 12, none, .bin false .eql (.t 4) (.k (.c (.int .i64 2)))⟩, ⟨some 10, none, .mv (.t 12)⟩] none [0, 2, 4, 10]))) (.cond (.t 10) (.seq (.reg [⟨some 13, none, .mv (.t 0)⟩, ⟨some 14, none, .bsl 1 [((.k (.c (.str ⟨#[]⟩))), none), ((.k (.c (.str ⟨#[97]⟩))), none), ((.k (.c (.str ⟨#[98]⟩))), none), ((.k (.c (.str ⟨#[97, 98]⟩))), none), ((.k (.c (.str ⟨#[122, 122]⟩))), none), ((.k (.c (.str ⟨#[97, 98, 99, 100, 101, 102, 103, 104, 105, 106, 107, 108]⟩))), none)]⟩, ⟨some 15, none, .callr 49 [(.t 13), (.t 14)]⟩, ⟨some 16, none, .build [(.c (.int .i64 0)), (.c (.int .i64 0)), (.c (.str ⟨#[]⟩)), (.z 1), (.z 5)] [(0, (.k (.c (.int .i64 4))), none), (2, (.t 15), none)]⟩, ⟨none, none, .st (.t 2) (.t 16) (some 5)⟩] none [2]) .ret) (.seq (.reg [⟨some 18, none, .bin false .eql (.t 4) (.k (.c (.int .i64 3)))⟩, ⟨some 17, none, .mv (.t 18)⟩] none [0, 2, 17]) (.cond (.t 17) (.seq (.reg [⟨some 19, none, .mv (.t 0)⟩, ⟨some 20, none, .callr 48 [(.t 19), (.k (.c (.int .i64 2)))]⟩, ⟨some 21, none, .bin false .add (.k (.c (.int .i64 5))) (.t 20)⟩, ⟨some 22, none, .build [(.c (.int .i64 0)), (.c (.int .i64 0)), (.c (.str ⟨#[]⟩)), (.z 1), (.z 5)] [(0, (.t 21), none)]⟩, ⟨none, none, .st (.t 2) (.t 22) (some 5)⟩] none [2]) .ret) .skip)))))))) (.seq (.reg [⟨some 23, none, .mv (.t 0)⟩, ⟨some 24, none, .bsl 1 [((.k (.c (.int .i64 0))), none), ((.k (.c (.int .i64 1))), none), ((.k (.c (.int .i64 2))), none), ((.k (.c (.int .i64 3))), none), ((.k (.c (.int .i64 (-1)))), none), ((.k (.c (.int .i64 7))), none), ((.k (.c (.int .i64 1000000))), none)]⟩, ⟨some 25, none, .callr 67 [(.t 23), (.t 24)]⟩, ⟨some 26, none, .build [(.c (.int .i64 0)), (.c (.int .i64 0)), (.c (.str ⟨#[]⟩)), (.z 1), (.z 5)] [(0, (.k (.c (.int .i64 3))), none), (1, (.t 25), none)]⟩, ⟨none, none, .st (.t 2) (.t 26) (some 5)⟩] none [2]) .ret)))
theorem chk_l1Leaf : chkX Tryd.prog 27 (Tryd.f83.body.getD .skip) x_l1Leaf = true := by kernel_rfl
theorem rs_l1Leaf : okRs Tryd.prog Tryd.f83.results.toList [.cell 2 (some 5)] = true := by kernel_rfl
theorem call_l1Leaf : okCallee Tryd.prog 83 = true := by kernel_rfl
def spPick  : Spec := Spec.ofR (ι := (List Int) × Int × Int) (κ := Int) [true, false] (fun i => [.ref (rdC i.1 i.2.1), .d (.one (.int .i64 i.2.2))]) (fun i => byt i.1 /\ 0 <= i.2.1 /\ i.2.1 <= 1099511627776 /\ i.2.2 <= 1000000) (fun i k => 0 <= k /\ (1 <= i.2.2 -> k < i.2.2) /\ (i.2.2 < 1 -> k = 0)) (fun i k => [.d (.one (.int .i64 k))]) (fun i k => [.ref (rdC i.1 (i.2.1 + 1)), .gone])
theorem spPick_inj : ∀ i j : (List Int) × Int × Int, (fun (i : (List Int) × Int × Int) => ([.ref (rdC i.1 i.2.1), .d (.one (.int .i64 i.2.2))] : List AV)) i = (fun (i : (List Int) × Int × Int) => ([.ref (rdC i.1 i.2.1), .d (.one (.int .i64 i.2.2))] : List AV)) j -> i = j := by
 rintro ⟨bs, p, n⟩ ⟨bs', p', n'⟩ h
 simp only [Prod.mk.injEq]
 simpa [strs_eq, T.enc_eq, encL_eq, F.enc_eq, encF_eq, Tk.enc_eq, encTk_eq, Gn.enc_eq, ints_eq, rdC_eq, and_assoc] using h
theorem spPick_md  : (spPick).md = [true, false] := rfl
theorem spPick_pre  (bs : List Int) (p : Int) (n : Int) : (spPick).pre [.ref (rdC bs p), .d (.one (.int .i64 n))] = (byt bs /\ 0 <= p /\ p <= 1099511627776 /\ n <= 1000000) := Spec.ofR_pre spPick_inj (bs, p, n)
theorem spPick_ne0  (bs : List Int) (p : Int) (n : Int) : (spPick).ne [.ref (rdC bs p), .d (.one (.int .i64 n))] = (∃ k : Int, 0 <= k /\ (1 <= n -> k < n) /\ (n < 1 -> k = 0)) := Spec.ofR_ne spPick_inj (bs, p, n)
theorem spPick_all  (bs : List Int) (p : Int) (n : Int) (F : List AV -> List AV -> Prop) : (spPick).all [.ref (rdC bs p), .d (.one (.int .i64 n))] F = (∀ (m : Int), (0 <= m /\ (1 <= n -> m < n) /\ (n < 1 -> m = 0)) -> F [.d (.one (.int .i64 m))] [.ref (rdC bs (p + 1)), .gone]) := by
 refine (Spec.ofR_all spPick_inj (bs, p, n) F).trans (propext ⟨fun h m hr => h m hr, fun h k hr => ?_⟩)
 exact h k hr
theorem spPick_ne (bs : List Int) (p n : Int) : spPick.ne [.ref (rdC bs p), .d (.one (.int .i64 n))] = True := by
 rw [spPick_ne0]
 exact eq_true ⟨0, by omega⟩
set_option maxHeartbeats 2000000 in
theorem pick_sound : Sound Tryd.prog 48 spPick := by
 refine sound_famR GOK.nil Tryd.func48 (c := Tryd.f48.body.getD .skip) rfl (n := 99) rfl chk_pick rs_pick (fun _ => by simp) ?_
 ·rintro ⟨bs, p, n⟩ ⟨hb, h1, h2, h3⟩
  change byt bs at hb
  have hl := hb.2
  simp only at h1 h2 h3
  have hm : ∀ x : Int, 0 <= x -> ¬ n < 1 -> 0 <= x.tmod n /\ x.tmod n < n := fun x hx hn => ⟨Int.tmod_nonneg n hx, Int.tmod_lt_of_pos x (by omega)⟩
  by_cases c1 : n < 1
  ·have a1 : (n < 1) = True := eq_true c1
   simp only [x_pick, rdC, rg, go_sem, seval, ints_len, a1]
   repeat' (first | with_reducible assumption | with_reducible refine And.intro ?_ ?_ | intro _)
   all_goals first | omega | exact ⟨0, by omega, rfl⟩
  ·have a1 : (n < 1) = False := eq_false c1
   by_cases c2 : bs.length = 0
   ·have a2 : ((bs.length : Int) = 0) = True := by simp [c2]
    simp only [x_pick, rdC, rg, go_sem, seval, ints_len, a1, a2]
    repeat' (first | with_reducible assumption | with_reducible refine And.intro ?_ ?_ | intro _)
    all_goals first | omega | exact ⟨0, by omega, rfl⟩
   ·have a2 : ((bs.length : Int) = 0) = False := by simp; intro h; exact c2 (by simp [h])
    have a3 : p + 1 - 1 = p := by omega
    by_cases c3 : p < bs.length
    ·have a4 : (p < (bs.length : Int)) = True := eq_true c3
     obtain ⟨b, _, a5, b1, b2⟩ := byt_at hb (i := p.toNat) (by omega)
     simp only [x_pick, rdC, rg, go_sem, seval, ints_len, a1, a2, a3, a4, a5]
     repeat' (first | with_reducible assumption | with_reducible refine And.intro ?_ ?_ | intro _)
     all_goals first | omega | skip
     have := hm b b1 c1
     exact ⟨b.tmod n, by omega, rfl⟩
    ·have a4 : (p < (bs.length : Int)) = False := eq_false c3
     have hL : 0 < (bs.length : Int) := by omega
     have d1 := Int.tmod_nonneg (bs.length : Int) h1
     have d2 := Int.tmod_lt_of_pos p hL
     have d3 := Int.tmod_nonneg (bs.length : Int) (show 0 <= p * 7 + 3 by omega)
     have d4 := Int.tmod_lt_of_pos (p * 7 + 3) hL
     have d5 : 0 <= p.tdiv bs.length := Int.tdiv_nonneg h1 (by omega)
     have d6 : p.tdiv bs.length <= p := by
      rw [Int.tdiv_eq_ediv_of_nonneg h1]
      exact Int.ediv_le_self _ h1
     obtain ⟨b, _, a5, b1, b2⟩ := byt_at hb (i := (p.tmod bs.length).toNat) (by omega)
     obtain ⟨c, _, a6, c5, c6⟩ := byt_at hb (i := ((p * 7 + 3).tmod bs.length).toNat) (by omega)
     have d7 : 0 <= (b * 131 + c * 1117 + p * 29 + p.tdiv bs.length * 53).tdiv 64 := Int.tdiv_nonneg (by omega) (by omega)
     have d8 : (b * 131 + c * 1117 + p * 29 + p.tdiv bs.length * 53).tdiv 64 <= b * 131 + c * 1117 + p * 29 + p.tdiv bs.length * 53 := by
      rw [Int.tdiv_eq_ediv_of_nonneg (by omega)]
      exact Int.ediv_le_self _ (by omega)
     simp only [x_pick, rdC, rg, go_sem, seval, ints_len, a1, a2, a3, a4, a5, a6]
     repeat' (first | with_reducible assumption | with_reducible refine And.intro ?_ ?_ | intro _)
     all_goals first | omega | skip
     have := hm (((b * 131 + c * 1117 + p * 29 + p.tdiv bs.length * 53).toNat ^^^ ((b * 131 + c * 1117 + p * 29 + p.tdiv bs.length * 53).tdiv 64).toNat : Nat) : Int) (by omega) c1
     exact ⟨_, ⟨this.1, fun _ => this.2⟩, rfl⟩
def spDof  : Spec := Spec.ofR (ι := (List Int) × Int × (List ByteArray)) (κ := ByteArray) [true, false] (fun i => [.ref (rdC i.1 i.2.1), .d (.one (.row 1 (strs i.2.2)))]) (fun i => byt i.1 /\ 0 <= i.2.1 /\ i.2.1 <= 1099511627776 /\ 1 <= i.2.2.length /\ i.2.2.length <= 1000) (fun i k => k ∈ i.2.2 \/ i.2.2 = []) (fun i k => [.d (.one (.str k))]) (fun i k => [.ref (rdC i.1 (i.2.1 + 1)), .gone])
theorem spDof_inj : ∀ i j : (List Int) × Int × (List ByteArray), (fun (i : (List Int) × Int × (List ByteArray)) => ([.ref (rdC i.1 i.2.1), .d (.one (.row 1 (strs i.2.2)))] : List AV)) i = (fun (i : (List Int) × Int × (List ByteArray)) => ([.ref (rdC i.1 i.2.1), .d (.one (.row 1 (strs i.2.2)))] : List AV)) j -> i = j := by
 rintro ⟨bs, p, l⟩ ⟨bs', p', l'⟩ h
 simp only [Prod.mk.injEq]
 simpa [strs_eq, T.enc_eq, encL_eq, F.enc_eq, encF_eq, Tk.enc_eq, encTk_eq, Gn.enc_eq, ints_eq, rdC_eq, and_assoc] using h
theorem spDof_md  : (spDof).md = [true, false] := rfl
theorem spDof_pre  (bs : List Int) (p : Int) (l : List ByteArray) : (spDof).pre [.ref (rdC bs p), .d (.one (.row 1 (strs l)))] = (byt bs /\ 0 <= p /\ p <= 1099511627776 /\ 1 <= l.length /\ l.length <= 1000) := Spec.ofR_pre spDof_inj (bs, p, l)
theorem spDof_ne0  (bs : List Int) (p : Int) (l : List ByteArray) : (spDof).ne [.ref (rdC bs p), .d (.one (.row 1 (strs l)))] = (∃ k : ByteArray, k ∈ l \/ l = []) := Spec.ofR_ne spDof_inj (bs, p, l)
theorem spDof_all  (bs : List Int) (p : Int) (l : List ByteArray) (F : List AV -> List AV -> Prop) : (spDof).all [.ref (rdC bs p), .d (.one (.row 1 (strs l)))] F = (∀ (s : ByteArray), (s ∈ l \/ l = []) -> F [.d (.one (.str s))] [.ref (rdC bs (p + 1)), .gone]) := by
 refine (Spec.ofR_all spDof_inj (bs, p, l) F).trans (propext ⟨fun h s hr => h s hr, fun h k hr => ?_⟩)
 exact h k hr
theorem spDof_ne (bs : List Int) (p : Int) (l : List ByteArray) : spDof.ne [.ref (rdC bs p), .d (.one (.row 1 (strs l)))] = True := by
 rw [spDof_ne0]
 cases l with
 | nil => exact eq_true ⟨⟨#[]⟩, .inr rfl⟩
 | cons x l => exact eq_true ⟨x, .inl (by simp)⟩
theorem dof_sound : Sound Tryd.prog 49 spDof := by
 refine sound_famR (GOK.cons call_pick pick_sound GOK.nil) Tryd.func49 (c := Tryd.f49.body.getD .skip) rfl (n := 12) rfl chk_dof rs_dof (fun _ => by simp) ?_
 ·rintro ⟨bs, p, l⟩ ⟨hb, h1, h2, h3, h4⟩
  change byt bs at hb
  simp only at h1 h2 h3 h4
  simp only [x_dof, rg, go_sem, seval, strs_len, spPick_md, spPick_pre, spPick_ne, ↓spPick_all, spPick_all]
  repeat' (first | with_reducible assumption | with_reducible refine And.intro ?_ ?_ | intro _)
  all_goals first | omega | skip
  ·rename_i m hm _
   obtain ⟨s, hs, _, hmem⟩ := drop_at (l := l) (i := m.toNat) (by omega)
   rw [strs_at hs]; simp
  ·rename_i m hm _ _
   obtain ⟨s, hs, _, hmem⟩ := drop_at (l := l) (i := m.toNat) (by omega)
   rw [strs_at hs]
   exact ⟨s, .inl hmem, rfl⟩
def spDnum  : Spec := Spec.ofR (ι := (List Int) × Int × (List Int)) (κ := Int) [true, false] (fun i => [.ref (rdC i.1 i.2.1), .d (.one (.row 1 (ints .i64 i.2.2)))]) (fun i => byt i.1 /\ 0 <= i.2.1 /\ i.2.1 <= 1099511627776 /\ 1 <= i.2.2.length /\ i.2.2.length <= 1000) (fun i k => k ∈ i.2.2 \/ i.2.2 = []) (fun i k => [.d (.one (.int .i64 k))]) (fun i k => [.ref (rdC i.1 (i.2.1 + 1)), .gone])
theorem spDnum_inj : ∀ i j : (List Int) × Int × (List Int), (fun (i : (List Int) × Int × (List Int)) => ([.ref (rdC i.1 i.2.1), .d (.one (.row 1 (ints .i64 i.2.2)))] : List AV)) i = (fun (i : (List Int) × Int × (List Int)) => ([.ref (rdC i.1 i.2.1), .d (.one (.row 1 (ints .i64 i.2.2)))] : List AV)) j -> i = j := by
 rintro ⟨bs, p, l⟩ ⟨bs', p', l'⟩ h
 simp only [Prod.mk.injEq]
 simpa [strs_eq, T.enc_eq, encL_eq, F.enc_eq, encF_eq, Tk.enc_eq, encTk_eq, Gn.enc_eq, ints_eq, rdC_eq, and_assoc] using h
theorem spDnum_md  : (spDnum).md = [true, false] := rfl
theorem spDnum_pre  (bs : List Int) (p : Int) (l : List Int) : (spDnum).pre [.ref (rdC bs p), .d (.one (.row 1 (ints .i64 l)))] = (byt bs /\ 0 <= p /\ p <= 1099511627776 /\ 1 <= l.length /\ l.length <= 1000) := Spec.ofR_pre spDnum_inj (bs, p, l)
theorem spDnum_ne0  (bs : List Int) (p : Int) (l : List Int) : (spDnum).ne [.ref (rdC bs p), .d (.one (.row 1 (ints .i64 l)))] = (∃ k : Int, k ∈ l \/ l = []) := Spec.ofR_ne spDnum_inj (bs, p, l)
theorem spDnum_all  (bs : List Int) (p : Int) (l : List Int) (F : List AV -> List AV -> Prop) : (spDnum).all [.ref (rdC bs p), .d (.one (.row 1 (ints .i64 l)))] F = (∀ (s : Int), (s ∈ l \/ l = []) -> F [.d (.one (.int .i64 s))] [.ref (rdC bs (p + 1)), .gone]) := by
 refine (Spec.ofR_all spDnum_inj (bs, p, l) F).trans (propext ⟨fun h s hr => h s hr, fun h k hr => ?_⟩)
 exact h k hr
theorem spDnum_ne (bs : List Int) (p : Int) (l : List Int) : spDnum.ne [.ref (rdC bs p), .d (.one (.row 1 (ints .i64 l)))] = True := by
 rw [spDnum_ne0]
 cases l with
 | nil => exact eq_true ⟨0, .inr rfl⟩
 | cons x l => exact eq_true ⟨x, .inl (by simp)⟩
theorem dnum_sound : Sound Tryd.prog 67 spDnum := by
 refine sound_famR (GOK.cons call_pick pick_sound GOK.nil) Tryd.func67 (c := Tryd.f67.body.getD .skip) rfl (n := 12) rfl chk_dnum rs_dnum (fun _ => by simp) ?_
 ·rintro ⟨bs, p, l⟩ ⟨hb, h1, h2, h3, h4⟩
  change byt bs at hb
  simp only at h1 h2 h3 h4
  simp only [x_dnum, rg, go_sem, seval, ints_len, spPick_md, spPick_pre, spPick_ne, ↓spPick_all, spPick_all]
  repeat' (first | with_reducible assumption | with_reducible refine And.intro ?_ ?_ | intro _)
  all_goals first | omega | skip
  ·rename_i m hm _
   obtain ⟨s, hs, _, hmem⟩ := drop_at (l := l) (i := m.toNat) (by omega)
   rw [ints_at hs]; simp
  ·rename_i m hm _ _
   obtain ⟨s, hs, _, hmem⟩ := drop_at (l := l) (i := m.toNat) (by omega)
   rw [ints_at hs]
   exact ⟨s, .inl hmem, rfl⟩
theorem strs3 (a b c : ByteArray) : C.row 1 [[C.str a], [C.str b], [C.str c]] = C.row 1 (strs [a, b, c]) := rfl
theorem strs4l (a b c d : ByteArray) : [[C.str a], [C.str b], [C.str c], [C.str d]] = strs [a, b, c, d] := rfl
theorem strs6 (a b c d e f : ByteArray) : C.row 1 [[C.str a], [C.str b], [C.str c], [C.str d], [C.str e], [C.str f]] = C.row 1 (strs [a, b, c, d, e, f]) := rfl
theorem ints3 (a b c : Int) : C.row 1 [[C.int .i64 a], [C.int .i64 b], [C.int .i64 c]] = C.row 1 (ints .i64 [a, b, c]) := rfl
theorem ints5 (a b c d e : Int) : C.row 1 [[C.int .i64 a], [C.int .i64 b], [C.int .i64 c], [C.int .i64 d], [C.int .i64 e]] = C.row 1 (ints .i64 [a, b, c, d, e]) := rfl
theorem ints7 (a b c d e f g : Int) : C.row 1 [[C.int .i64 a], [C.int .i64 b], [C.int .i64 c], [C.int .i64 d], [C.int .i64 e], [C.int .i64 f], [C.int .i64 g]] = C.row 1 (ints .i64 [a, b, c, d, e, f, g]) := rfl
def spLeaf  : Spec := Spec.ofR (ι := (List Int) × Int) (κ := Int × Int × ByteArray × (List ByteArray) × (List T) × Int) [true] (fun i => [.ref (rdC i.1 i.2)]) (fun i => byt i.1 /\ 0 <= i.2 /\ i.2 <= 1099511627776 - 20) (fun i k => drT 1 (.mk k.1 k.2.1 k.2.2.1 k.2.2.2.1 k.2.2.2.2.1) /\ i.2 <= k.2.2.2.2.2 /\ k.2.2.2.2.2 <= i.2 + 20) (fun i k => [.ag [.c (.int .i64 k.1), .c (.int .i64 k.2.1), .c (.str k.2.2.1), .o 1 (strs k.2.2.2.1), .c (.row 5 (encL k.2.2.2.2.1))]]) (fun i k => [.ref (rdC i.1 k.2.2.2.2.2)])
theorem spLeaf_inj : ∀ i j : (List Int) × Int, (fun (i : (List Int) × Int) => ([.ref (rdC i.1 i.2)] : List AV)) i = (fun (i : (List Int) × Int) => ([.ref (rdC i.1 i.2)] : List AV)) j -> i = j := by
 rintro ⟨bs, p⟩ ⟨bs', p'⟩ h
 simp only [Prod.mk.injEq]
 simpa [strs_eq, T.enc_eq, encL_eq, F.enc_eq, encF_eq, Tk.enc_eq, encTk_eq, Gn.enc_eq, ints_eq, rdC_eq, and_assoc] using h
theorem spLeaf_md  : (spLeaf).md = [true] := rfl
theorem spLeaf_pre  (bs : List Int) (p : Int) : (spLeaf).pre [.ref (rdC bs p)] = (byt bs /\ 0 <= p /\ p <= 1099511627776 - 20) := Spec.ofR_pre spLeaf_inj (bs, p)
theorem spLeaf_ne0  (bs : List Int) (p : Int) : (spLeaf).ne [.ref (rdC bs p)] = (∃ k : Int × Int × ByteArray × (List ByteArray) × (List T) × Int, drT 1 (.mk k.1 k.2.1 k.2.2.1 k.2.2.2.1 k.2.2.2.2.1) /\ p <= k.2.2.2.2.2 /\ k.2.2.2.2.2 <= p + 20) := Spec.ofR_ne spLeaf_inj (bs, p)
theorem spLeaf_all  (bs : List Int) (p : Int) (F : List AV -> List AV -> Prop) : (spLeaf).all [.ref (rdC bs p)] F = (∀ (k : Int) (n : Int) (s : ByteArray) (ks : List ByteArray) (l : List T) (q : Int), (drT 1 (.mk k n s ks l) /\ p <= q /\ q <= p + 20) -> F [.ag [.c (.int .i64 k), .c (.int .i64 n), .c (.str s), .o 1 (strs ks), .c (.row 5 (encL l))]] [.ref (rdC bs q)]) := by
 refine (Spec.ofR_all spLeaf_inj (bs, p) F).trans (propext ⟨fun h k n s ks l q hr => h (k, n, s, ks, l, q) hr, fun h k hr => ?_⟩)
 exact h k.1 k.2.1 k.2.2.1 k.2.2.2.1 k.2.2.2.2.1 k.2.2.2.2.2 hr
theorem spLeaf_ne (bs : List Int) (p : Int) : spLeaf.ne [.ref (rdC bs p)] = True := by
 rw [spLeaf_ne0]
 exact eq_true ⟨(0, 0, ⟨#[]⟩, [], [], p), drT_leaf (k := 0) (n := 0) (s := ⟨#[]⟩) (by unfold i64; omega) (by unfold i64; omega) (by decide), Int.le_refl _, by show p <= p + 20; omega⟩
theorem leaf_ex {bs : List Int} {p q k n : Int} {s : ByteArray} (hk : i64 k) (hn : i64 n) (hs : (s.size : Int) <= 1000) (hq : p <= q /\ q <= p + 20) : ∃ i : Int × Int × ByteArray × List ByteArray × List T × Int,
 (drT 1 (T.mk i.1 i.2.1 i.2.2.1 i.2.2.2.1 i.2.2.2.2.1) /\ p <= i.2.2.2.2.2 /\ i.2.2.2.2.2 <= p + 20) /\ (k = i.1 /\ n = i.2.1 /\ s = i.2.2.1 /\ strs i.2.2.2.1 = [] /\ [] = encL i.2.2.2.2.1) /\ rdC bs q = rdC bs i.2.2.2.2.2 :=
 ⟨(k, n, s, [], [], q), ⟨drT_leaf hk hn hs, hq⟩, ⟨rfl, rfl, rfl, rfl, rfl⟩, rfl⟩
set_option maxHeartbeats 1000000 in
theorem l1Leaf_sound : Sound Tryd.prog 83 spLeaf := by
 refine sound_famR (GOK.cons (l := [(49, spDof), (67, spDnum)]) call_pick pick_sound (GOK.cons call_dof dof_sound (GOK.cons call_dnum dnum_sound GOK.nil))) Tryd.func83 (c := Tryd.f83.body.getD .skip) rfl (n := 27) rfl chk_l1Leaf rs_l1Leaf (fun _ => by simp) ?_
 ·rintro ⟨bs, p⟩ ⟨hb, h1, h2⟩
  change byt bs at hb
  simp only at h1 h2
  simp only [x_l1Leaf, rg, go_sem, seval, Prod.fst, strs6, ints7, spPick_md, spPick_pre, spPick_ne, ↓spPick_all, spPick_all, spDof_md, spDof_pre, spDof_ne, ↓spDof_all, spDof_all, spDnum_md, spDnum_pre, spDnum_ne, ↓spDnum_all, spDnum_all]
  repeat' (first | with_reducible assumption | with_reducible refine And.intro ?_ ?_ | intro _)
  all_goals first | omega | skip
  all_goals
   refine leaf_ex ?_ ?_ ?_ (by omega)
   all_goals first | (unfold i64; omega) | decide | skip
  all_goals
   rename_i h
   simp only [List.mem_cons, List.not_mem_nil, or_false] at h
   first | (rcases h with rfl | rfl | rfl | rfl | rfl | rfl <;> decide) | (unfold i64; omega)
end Go.Proofs.Pw
