/- Marks: the functions that write them, and that look for them. -/
import Derived.Test.YtkngbnefhelepaaPwT12
import Derived.Test.YtkngbnefhelepaaPwT10
import Derived.Test.YtkngbnefhelepaaProg
import Derived.KernelRfl
set_option linter.unusedSimpArgs false
set_option linter.unusedVariables false

set_option linter.unusedSimpArgs false
set_option maxRecDepth 20000
namespace Go.Proofs.Pw
set_option linter.unusedSectionVars false
attribute [go_sem] flatP flatS flatC bytesL callM agPts agOwn agPut Q.killL finAg agFin initAg List.mem_singleton List.mem_cons List.not_mem_nil List.set_cons_succ List.set_cons_zero
variable [Globs]
def x_markText : X := (.seq (.reg [⟨some 2, none, .mv (.k (.c (.str ⟨#[]⟩)))⟩] none [0]) (.seq (.seq (.reg [⟨some 4, none, .mv (.t 0)⟩, ⟨some 5, none, .bin false .leq (.t 4) (.k (.c (.int .i64 0)))⟩] none [0, 5]) (.cond (.t 5) (.seq (.reg [⟨some 2, none, .mv (.k (.c (.str ⟨#[109, 48]⟩)))⟩] none [2]) .ret) .skip)) (.seq (.reg [⟨some 3, none, .mv (.k (.c (.str ⟨#[]⟩)))⟩] none [0, 3]) (.seq (.block 0 (.loop (.seq (.seq (.reg [⟨some 6, none, .mv (.t 0)⟩, ⟨some 7, none, .bin false .gtr (.t 6) (.k (.c (.int .i64 0)))⟩] none [0, 3, 7]) (.cond (.t 7) .skip (.exit 0))) (.block 1 (.seq (.reg [⟨some 8, none, .mv (.t 0)⟩, ⟨some 9, none, .bin false .rem (.t 8) (.k (.c (.int .i64 10)))⟩, ⟨some 10, none, .bin false .add (.k (.c (.int .i64 48))) (.t 9)⟩, ⟨some 11, none, .conv .u8 (.t 10)⟩, ⟨some 12, none, .bsl 1 [((.t 11), none)]⟩, ⟨some 13, none, .bts (.t 12)⟩, ⟨some 14, none, .mv (.t 3)⟩, ⟨some 15, none, .bin false .add (.t 13) (.t 14)⟩, ⟨some 3, none, .mv (.t 15)⟩] none [0, 3]) (.reg [⟨some 16, none, .mv (.t 0)⟩, ⟨some 17, none, .bin false .quo (.t 16) (.k (.c (.int .i64 10)))⟩, ⟨some 0, none, .mv (.t 17)⟩] none [0, 3])))))) (.seq (.reg [⟨some 18, none, .mv (.t 3)⟩, ⟨some 19, none, .bin false .add (.k (.c (.str ⟨#[109]⟩))) (.t 18)⟩, ⟨some 2, none, .mv (.t 19)⟩] none [2]) .ret)))))
theorem chk_markText : chkX Go.Proofs.Try.prog 20 (Go.Proofs.Try.f34.body.getD .skip) x_markText = true := by kernel_rfl
theorem rs_markText : okRs Go.Proofs.Try.prog Go.Proofs.Try.f34.results.toList [.tmp 2] = true := by kernel_rfl
theorem call_markText : okCallee Go.Proofs.Try.prog 34 = true := by kernel_rfl
def x_markStringS : X := (.seq (.reg [⟨some 4, none, .mv (.k (.c (.int .i64 0)))⟩] none [0, 1]) (.seq (.seq (.reg [⟨some 5, none, .mv (.k (.c (.int .i64 0)))⟩] none [0, 1, 5]) (.block 0 (.loop (.seq (.seq (.reg [⟨some 6, none, .mv (.t 5)⟩, ⟨some 7, none, .mv (.t 0)⟩, ⟨some 8, none, .len (.t 7) false⟩, ⟨some 9, none, .bin false .lss (.t 6) (.t 8)⟩] none [0, 1, 5, 9]) (.cond (.t 9) .skip (.exit 0))) (.seq (.block 1 (.seq (.reg [⟨some 12, none, .mv (.t 0)⟩, ⟨some 13, none, .mv (.t 5)⟩, ⟨some 14, none, .mv (.t 1)⟩, ⟨some 15, none, .call 34 [(.t 14)]⟩, ⟨some 16, none, .ia (.t 12) (.t 13) 1⟩, ⟨none, none, .st (.t 16) (.t 15) none⟩] none [0, 1, 5]) (.reg [⟨some 17, none, .mv (.t 1)⟩, ⟨some 18, none, .bin false .add (.t 17) (.k (.c (.int .i64 1)))⟩, ⟨some 1, none, .mv (.t 18)⟩] none [0, 1, 5]))) (.reg [⟨some 10, none, .mv (.t 5)⟩, ⟨some 11, none, .bin false .add (.t 10) (.k (.c (.int .i64 1)))⟩, ⟨some 5, none, .mv (.t 11)⟩] none [0, 1, 5])))))) (.seq (.reg [⟨some 19, none, .mv (.t 1)⟩, ⟨some 4, none, .mv (.t 19)⟩] none [4]) .ret)))
theorem chk_markStringS : chkX Go.Proofs.Try.prog 20 (Go.Proofs.Try.f32.body.getD .skip) x_markStringS = true := by kernel_rfl
theorem rs_markStringS : okRs Go.Proofs.Try.prog Go.Proofs.Try.f32.results.toList [.tmp 4] = true := by kernel_rfl
theorem call_markStringS : okCallee Go.Proofs.Try.prog 32 = true := by kernel_rfl
def x_markValS : X := (.seq (.reg [⟨some 4, none, .mv (.k (.c (.int .i64 0)))⟩] none [0, 1]) (.seq (.seq (.reg [⟨some 5, none, .mv (.k (.c (.int .i64 0)))⟩] none [0, 1, 5]) (.block 0 (.loop (.seq (.seq (.reg [⟨some 6, none, .mv (.t 5)⟩, ⟨some 7, none, .mv (.t 0)⟩, ⟨some 8, none, .len (.t 7) false⟩, ⟨some 9, none, .bin false .lss (.t 6) (.t 8)⟩] none [0, 1, 5, 9]) (.cond (.t 9) .skip (.exit 0))) (.seq (.block 1 (.seq (.reg [⟨some 12, none, .mv (.t 0)⟩, ⟨some 13, none, .mv (.t 5)⟩, ⟨some 14, none, .mv (.t 1)⟩, ⟨some 15, none, .ia (.t 12) (.t 13) 5⟩, ⟨some 16, none, .fa (.t 15) 0⟩, ⟨none, none, .st (.t 16) (.t 14) none⟩] none [0, 1, 5]) (.seq (.reg [⟨some 17, none, .mv (.t 1)⟩, ⟨some 18, none, .bin false .add (.t 17) (.k (.c (.int .i64 1)))⟩, ⟨some 1, none, .mv (.t 18)⟩] none [0, 1, 5]) (.seq (.reg [⟨some 19, none, .mv (.t 0)⟩, ⟨some 20, none, .mv (.t 5)⟩, ⟨some 21, none, .mv (.t 1)⟩, ⟨some 22, none, .ia (.t 19) (.t 20) 5⟩, ⟨some 23, none, .fa (.t 22) 1⟩, ⟨none, none, .st (.t 23) (.t 21) none⟩] none [0, 1, 5]) (.seq (.reg [⟨some 24, none, .mv (.t 1)⟩, ⟨some 25, none, .bin false .add (.t 24) (.k (.c (.int .i64 1)))⟩, ⟨some 1, none, .mv (.t 25)⟩] none [0, 1, 5]) (.seq (.reg [⟨some 26, none, .mv (.t 0)⟩, ⟨some 27, none, .mv (.t 5)⟩, ⟨some 28, none, .mv (.t 1)⟩, ⟨some 29, none, .call 34 [(.t 28)]⟩, ⟨some 30, none, .ia (.t 26) (.t 27) 5⟩, ⟨some 31, none, .fa (.t 30) 2⟩, ⟨none, none, .st (.t 31) (.t 29) none⟩] none [0, 1, 5]) (.seq (.reg [⟨some 32, none, .mv (.t 1)⟩, ⟨some 33, none, .bin false .add (.t 32) (.k (.c (.int .i64 1)))⟩, ⟨some 1, none, .mv (.t 33)⟩] none [0, 1, 5]) (.seq (.reg [⟨some 34, none, .mv (.t 0)⟩, ⟨some 35, none, .mv (.t 5)⟩, ⟨some 36, none, .ia (.t 34) (.t 35) 5⟩, ⟨some 37, none, .fa (.t 36) 3⟩, ⟨some 38, none, .load (.t 37) none⟩, ⟨some 39, none, .mv (.t 1)⟩, ⟨some 40, none, .callm 32 (.t 38) (.t 39)⟩, ⟨some 1, none, .mv (.t 40)⟩] none [0, 1, 5]) (.reg [⟨some 41, none, .mv (.t 0)⟩, ⟨some 42, none, .mv (.t 5)⟩, ⟨some 43, none, .ia (.t 41) (.t 42) 5⟩, ⟨some 44, none, .fa (.t 43) 4⟩, ⟨some 45, none, .load (.t 44) none⟩, ⟨some 46, none, .mv (.t 1)⟩, ⟨some 47, none, .callm 33 (.t 45) (.t 46)⟩, ⟨some 1, none, .mv (.t 47)⟩] none [0, 1, 5]))))))))) (.reg [⟨some 10, none, .mv (.t 5)⟩, ⟨some 11, none, .bin false .add (.t 10) (.k (.c (.int .i64 1)))⟩, ⟨some 5, none, .mv (.t 11)⟩] none [0, 1, 5])))))) (.seq (.reg [⟨some 48, none, .mv (.t 1)⟩, ⟨some 4, none, .mv (.t 48)⟩] none [4]) .ret)))
theorem chk_markValS : chkX Go.Proofs.Try.prog 49 (Go.Proofs.Try.f33.body.getD .skip) x_markValS = true := by kernel_rfl
theorem rs_markValS : okRs Go.Proofs.Try.prog Go.Proofs.Try.f33.results.toList [.tmp 4] = true := by kernel_rfl
theorem call_markValS : okCallee Go.Proofs.Try.prog 33 = true := by kernel_rfl
def x_markVal : X := (.seq (.reg [⟨some 2, none, .box (.t 0) (some 5)⟩, ⟨some 4, none, .mv (.k (.c (.int .i64 0)))⟩] none [1, 2]) (.seq (.reg [⟨some 5, none, .fa (.t 2) 3⟩, ⟨some 6, none, .load (.t 5) none⟩, ⟨some 7, none, .mv (.t 1)⟩, ⟨some 8, none, .call 32 [(.t 6), (.t 7)]⟩, ⟨some 1, none, .mv (.t 8)⟩] none [1, 2]) (.seq (.reg [⟨some 9, none, .fa (.t 2) 4⟩, ⟨some 10, none, .load (.t 9) none⟩, ⟨some 11, none, .mv (.t 1)⟩, ⟨some 12, none, .call 33 [(.t 10), (.t 11)]⟩, ⟨some 1, none, .mv (.t 12)⟩] none [1]) (.seq (.reg [⟨some 13, none, .mv (.t 1)⟩, ⟨some 4, none, .mv (.t 13)⟩] none [4]) .ret))))
theorem chk_markVal : chkX Go.Proofs.Try.prog 14 (Go.Proofs.Try.f12.body.getD .skip) x_markVal = true := by kernel_rfl
theorem rs_markVal : okRs Go.Proofs.Try.prog Go.Proofs.Try.f12.results.toList [.tmp 4] = true := by kernel_rfl
theorem call_markVal : okCallee Go.Proofs.Try.prog 12 = true := by kernel_rfl
def x_heldStringS : X := (.seq (.reg [⟨some 4, none, .mv (.k (.c (.int .i64 0)))⟩] none [0, 1]) (.seq (.seq (.reg [⟨some 5, none, .mv (.k (.c (.int .i64 0)))⟩] none [0, 1, 5]) (.block 0 (.loop (.seq (.seq (.reg [⟨some 6, none, .mv (.t 5)⟩, ⟨some 7, none, .mv (.t 0)⟩, ⟨some 8, none, .len (.t 7) false⟩, ⟨some 9, none, .bin false .lss (.t 6) (.t 8)⟩] none [0, 1, 5, 9]) (.cond (.t 9) .skip (.exit 0))) (.seq (.block 1 (.seq (.seq (.reg [⟨some 12, none, .mv (.t 0)⟩, ⟨some 13, none, .mv (.t 5)⟩, ⟨some 14, none, .ia (.t 12) (.t 13) 1⟩, ⟨some 15, none, .load (.t 14) none⟩, ⟨some 16, none, .mv (.t 1)⟩, ⟨some 17, none, .call 34 [(.t 16)]⟩, ⟨some 18, none, .bin false .neq (.t 15) (.t 17)⟩] (some 6) [0, 1, 5, 18]) (.cond (.t 18) (.seq (.reg [⟨some 4, none, .mv (.k (.c (.int .i64 (-1))))⟩] none [4]) .ret) .skip)) (.reg [⟨some 19, none, .mv (.t 1)⟩, ⟨some 20, none, .bin false .add (.t 19) (.k (.c (.int .i64 1)))⟩, ⟨some 1, none, .mv (.t 20)⟩] none [0, 1, 5]))) (.reg [⟨some 10, none, .mv (.t 5)⟩, ⟨some 11, none, .bin false .add (.t 10) (.k (.c (.int .i64 1)))⟩, ⟨some 5, none, .mv (.t 11)⟩] none [0, 1, 5])))))) (.seq (.reg [⟨some 21, none, .mv (.t 1)⟩, ⟨some 4, none, .mv (.t 21)⟩] none [4]) .ret)))
theorem chk_heldStringS : chkX Go.Proofs.Try.prog 22 (Go.Proofs.Try.f35.body.getD .skip) x_heldStringS = true := by kernel_rfl
theorem rs_heldStringS : okRs Go.Proofs.Try.prog Go.Proofs.Try.f35.results.toList [.tmp 4] = true := by kernel_rfl
theorem call_heldStringS : okCallee Go.Proofs.Try.prog 35 = true := by kernel_rfl
def x_heldValS : X := (.seq (.reg [⟨some 4, none, .mv (.k (.c (.int .i64 0)))⟩] none [0, 1]) (.seq (.seq (.reg [⟨some 5, none, .mv (.k (.c (.int .i64 0)))⟩] none [0, 1, 5]) (.block 0 (.loop (.seq (.seq (.reg [⟨some 6, none, .mv (.t 5)⟩, ⟨some 7, none, .mv (.t 0)⟩, ⟨some 8, none, .len (.t 7) false⟩, ⟨some 9, none, .bin false .lss (.t 6) (.t 8)⟩] none [0, 1, 5, 9]) (.cond (.t 9) .skip (.exit 0))) (.seq (.block 1 (.seq (.seq (.reg [⟨some 12, none, .mv (.t 0)⟩, ⟨some 13, none, .mv (.t 5)⟩, ⟨some 14, none, .ia (.t 12) (.t 13) 5⟩, ⟨some 15, none, .fa (.t 14) 0⟩, ⟨some 16, none, .load (.t 15) none⟩, ⟨some 17, none, .mv (.t 1)⟩, ⟨some 18, none, .bin false .neq (.t 16) (.t 17)⟩] none [0, 1, 5, 18]) (.cond (.t 18) (.seq (.reg [⟨some 4, none, .mv (.k (.c (.int .i64 (-1))))⟩] none [4]) .ret) .skip)) (.seq (.reg [⟨some 19, none, .mv (.t 1)⟩, ⟨some 20, none, .bin false .add (.t 19) (.k (.c (.int .i64 1)))⟩, ⟨some 1, none, .mv (.t 20)⟩] none [0, 1, 5]) (.seq (.seq (.reg [⟨some 21, none, .mv (.t 0)⟩, ⟨some 22, none, .mv (.t 5)⟩, ⟨some 23, none, .ia (.t 21) (.t 22) 5⟩, ⟨some 24, none, .fa (.t 23) 1⟩, ⟨some 25, none, .load (.t 24) none⟩, ⟨some 26, none, .mv (.t 1)⟩, ⟨some 27, none, .bin false .neq (.t 25) (.t 26)⟩] none [0, 1, 5, 27]) (.cond (.t 27) (.seq (.reg [⟨some 4, none, .mv (.k (.c (.int .i64 (-1))))⟩] none [4]) .ret) .skip)) (.seq (.reg [⟨some 28, none, .mv (.t 1)⟩, ⟨some 29, none, .bin false .add (.t 28) (.k (.c (.int .i64 1)))⟩, ⟨some 1, none, .mv (.t 29)⟩] none [0, 1, 5]) (.seq (.seq (.reg [⟨some 30, none, .mv (.t 0)⟩, ⟨some 31, none, .mv (.t 5)⟩, ⟨some 32, none, .ia (.t 30) (.t 31) 5⟩, ⟨some 33, none, .fa (.t 32) 2⟩, ⟨some 34, none, .load (.t 33) none⟩, ⟨some 35, none, .mv (.t 1)⟩, ⟨some 36, none, .call 34 [(.t 35)]⟩, ⟨some 37, none, .bin false .neq (.t 34) (.t 36)⟩] (some 7) [0, 1, 5, 37]) (.cond (.t 37) (.seq (.reg [⟨some 4, none, .mv (.k (.c (.int .i64 (-1))))⟩] none [4]) .ret) .skip)) (.seq (.reg [⟨some 38, none, .mv (.t 1)⟩, ⟨some 39, none, .bin false .add (.t 38) (.k (.c (.int .i64 1)))⟩, ⟨some 1, none, .mv (.t 39)⟩] none [0, 1, 5]) (.seq (.reg [⟨some 40, none, .mv (.t 0)⟩, ⟨some 41, none, .mv (.t 5)⟩, ⟨some 42, none, .ia (.t 40) (.t 41) 5⟩, ⟨some 43, none, .fa (.t 42) 3⟩, ⟨some 44, none, .load (.t 43) none⟩, ⟨some 45, none, .mv (.t 1)⟩, ⟨some 46, none, .call 35 [(.t 44), (.t 45)]⟩, ⟨some 1, none, .mv (.t 46)⟩] none [0, 1, 5]) (.seq (.seq (.reg [⟨some 47, none, .mv (.t 1)⟩, ⟨some 48, none, .bin false .lss (.t 47) (.k (.c (.int .i64 0)))⟩] none [0, 1, 5, 48]) (.cond (.t 48) (.seq (.reg [⟨some 4, none, .mv (.k (.c (.int .i64 (-1))))⟩] none [4]) .ret) .skip)) (.seq (.reg [⟨some 49, none, .mv (.t 0)⟩, ⟨some 50, none, .mv (.t 5)⟩, ⟨some 51, none, .ia (.t 49) (.t 50) 5⟩, ⟨some 52, none, .fa (.t 51) 4⟩, ⟨some 53, none, .load (.t 52) none⟩, ⟨some 54, none, .mv (.t 1)⟩, ⟨some 55, none, .call 36 [(.t 53), (.t 54)]⟩, ⟨some 1, none, .mv (.t 55)⟩] none [0, 1, 5]) (.seq (.reg [⟨some 56, none, .mv (.t 1)⟩, ⟨some 57, none, .bin false .lss (.t 56) (.k (.c (.int .i64 0)))⟩] none [0, 1, 5, 57]) (.cond (.t 57) (.seq (.reg [⟨some 4, none, .mv (.k (.c (.int .i64 (-1))))⟩] none [4]) .ret) .skip)))))))))))) (.reg [⟨some 10, none, .mv (.t 5)⟩, ⟨some 11, none, .bin false .add (.t 10) (.k (.c (.int .i64 1)))⟩, ⟨some 5, none, .mv (.t 11)⟩] none [0, 1, 5])))))) (.seq (.reg [⟨some 58, none, .mv (.t 1)⟩, ⟨some 4, none, .mv (.t 58)⟩] none [4]) .ret)))
theorem chk_heldValS : chkX Go.Proofs.Try.prog 59 (Go.Proofs.Try.f36.body.getD .skip) x_heldValS = true := by kernel_rfl
theorem rs_heldValS : okRs Go.Proofs.Try.prog Go.Proofs.Try.f36.results.toList [.tmp 4] = true := by kernel_rfl
theorem call_heldValS : okCallee Go.Proofs.Try.prog 36 = true := by kernel_rfl
def x_heldVal : X := (.seq (.reg [⟨some 2, none, .box (.t 0) (some 5)⟩, ⟨some 4, none, .mv (.k (.c (.int .i64 0)))⟩] none [1, 2]) (.seq (.reg [⟨some 5, none, .fa (.t 2) 3⟩, ⟨some 6, none, .load (.t 5) none⟩, ⟨some 7, none, .mv (.t 1)⟩, ⟨some 8, none, .call 35 [(.t 6), (.t 7)]⟩, ⟨some 1, none, .mv (.t 8)⟩] none [1, 2]) (.seq (.seq (.reg [⟨some 9, none, .mv (.t 1)⟩, ⟨some 10, none, .bin false .lss (.t 9) (.k (.c (.int .i64 0)))⟩] none [1, 2, 10]) (.cond (.t 10) (.seq (.reg [⟨some 4, none, .mv (.k (.c (.int .i64 (-1))))⟩] none [4]) .ret) .skip)) (.seq (.reg [⟨some 11, none, .fa (.t 2) 4⟩, ⟨some 12, none, .load (.t 11) none⟩, ⟨some 13, none, .mv (.t 1)⟩, ⟨some 14, none, .call 36 [(.t 12), (.t 13)]⟩, ⟨some 1, none, .mv (.t 14)⟩] none [1]) (.seq (.seq (.reg [⟨some 15, none, .mv (.t 1)⟩, ⟨some 16, none, .bin false .lss (.t 15) (.k (.c (.int .i64 0)))⟩] none [1, 16]) (.cond (.t 16) (.seq (.reg [⟨some 4, none, .mv (.k (.c (.int .i64 (-1))))⟩] none [4]) .ret) .skip)) (.seq (.reg [⟨some 17, none, .mv (.t 1)⟩, ⟨some 4, none, .mv (.t 17)⟩] none [4]) .ret))))))
theorem chk_heldVal : chkX Go.Proofs.Try.prog 18 (Go.Proofs.Try.f14.body.getD .skip) x_heldVal = true := by kernel_rfl
theorem rs_heldVal : okRs Go.Proofs.Try.prog Go.Proofs.Try.f14.results.toList [.tmp 4] = true := by kernel_rfl
theorem call_heldVal : okCallee Go.Proofs.Try.prog 14 = true := by kernel_rfl
noncomputable def spMkS  : Spec := Spec.of (ι := Int) [false] (fun i => [.d (.one (.int .i64 i))]) (fun i => i ≤ 4611686018427387904 ∧ -4611686018427387904 ≤ i) (fun i => [.d (.one (.str (mkS i)))]) (fun _ => [.gone])
theorem spMkS_inj : ∀ i j : Int, (fun (i : Int) => ([.d (.one (.int .i64 i))] : List AV)) i = (fun (i : Int) => ([.d (.one (.int .i64 i))] : List AV)) j → i = j := by
  intro k k' h
  simpa [strs_eq, T.enc_eq, encL_eq, F.enc_eq, encF_eq, Tk.enc_eq, encTk_eq, Gn.enc_eq, ints_eq, encLX_eq, agX_eq] using h
theorem spMkS_md  : (spMkS).md = [false] := rfl
theorem spMkS_pre  (k : Int) : (spMkS).pre [.d (.one (.int .i64 k))] = (k ≤ 4611686018427387904 ∧ -4611686018427387904 ≤ k) := Spec.of_pre' spMkS_inj k
theorem spMkS_alts  : (spMkS).alts = none := rfl
theorem spMkS_res  (k : Int) : (spMkS).res [.d (.one (.int .i64 k))] = [.d (.one (.str (mkS k)))] := Spec.of_res spMkS_inj k
theorem spMkS_out  (k : Int) : (spMkS).out [.d (.one (.int .i64 k))] = [.gone] := Spec.of_out spMkS_inj k
theorem bytesS_one (n : Int) : (bytesS [n]).size = 1 := rfl
theorem mkS_sound : Sound Go.Proofs.Try.prog 34 spMkS := by
  refine sound_fam GOK.nil Go.Proofs.Try.func34 (c := Go.Proofs.Try.f34.body.getD .skip) rfl (n := 20) rfl chk_markText rs_markText (fun _ => by simp) ?_ ?_
  · exact spMkS_inj
  · intro k0 h1
    by_cases c : k0 ≤ 0
    · simp only [x_markText, rg, go_sem, seval, c, mkS, decide_true]
      repeat' (first | with_reducible assumption | with_reducible refine And.intro ?_ ?_ | intro _)
    · simp only [x_markText, rg, go_sem, seval, c, mkS, decide_false]
      refine pw_loop (ι := Int × ByteArray) (fun i => i.1.toNat) (fun i => 0 ≤ i.1 ∧ i.1 ≤ k0 ∧ i.2.size + i.1 ≤ k0 ∧ digF i.1.toNat i.1 i.2 = digF k0.toNat k0 ⟨#[]⟩)
        (fun i => ⟨[(0, .q (.c (.int .i64 i.1))), (3, .q (.c (.str i.2)))], [], []⟩) (k0, ⟨#[]⟩) ⟨by omega, by omega, by simp [ByteArray.size], rfl⟩ (Le.refl _) ?_
      rintro ⟨k, out⟩ ⟨h2, h3, h4, h5⟩
      simp only at h2 h3 h4 h5
      by_cases c2 : 0 < k
      · have e1 : k.tdiv 10 = k / 10 := Int.tdiv_eq_ediv_of_nonneg (by omega)
        have e2 : k.tmod 10 = k % 10 := Int.tmod_eq_emod_of_nonneg (by omega)
        simp only [rg, go_sem, seval, c2, decide_true, bytesS_one]
        repeat' (first | with_reducible assumption | with_reducible refine And.intro ?_ ?_ | intro _)
        all_goals first | omega | skip
        refine ⟨(k.tdiv 10, bytesS [48 + k.tmod 10] ++ out), ⟨by omega, by omega, ?_, ?_⟩, by simp only; omega, Le.refl _⟩
        · simp only [ByteArray.size_append, bytesS_one]; omega
        · simp only
          rw [← h5]
          obtain ⟨f, hf⟩ : ∃ f, k.toNat = f + 1 := ⟨k.toNat - 1, by omega⟩
          rw [hf, digF_pos c2]
          exact digF_more (Nat.le_refl _) (by omega)
      · rw [digF_stop c2] at h5
        have c3 : ((0 : Int) < k) = False := by simp; omega
        simp only [rg, go_sem, seval, c3, decide_false, h5]
        repeat' (first | with_reducible assumption | with_reducible refine And.intro ?_ ?_ | intro _)
        rw [← h5]
        show (((1 + out.size : Nat)) : Int) ≤ 9223372036854775807
        omega
noncomputable def spMkSS  : Spec := Spec.of (ι := (List ByteArray) × Int) [true, false] (fun i => [.own 1 (strs i.1), .d (.one (.int .i64 i.2))]) (fun i => lenB 140737488355328 i.1.length ∧ 0 ≤ i.2 ∧ i.2 + i.1.length ≤ 4611686018427387904) (fun i => [.d (.one (.int .i64 (i.2 + i.1.length)))]) (fun i => [.own 1 (strs (mkKs i.1 i.2)), .gone])
theorem spMkSS_inj : ∀ i j : (List ByteArray) × Int, (fun (i : (List ByteArray) × Int) => ([.own 1 (strs i.1), .d (.one (.int .i64 i.2))] : List AV)) i = (fun (i : (List ByteArray) × Int) => ([.own 1 (strs i.1), .d (.one (.int .i64 i.2))] : List AV)) j → i = j := by
  rintro ⟨ks, k⟩ ⟨ks', k'⟩ h
  simp only [Prod.mk.injEq]
  simpa [strs_eq, T.enc_eq, encL_eq, F.enc_eq, encF_eq, Tk.enc_eq, encTk_eq, Gn.enc_eq, ints_eq, encLX_eq, agX_eq] using h
theorem spMkSS_md  : (spMkSS).md = [true, false] := rfl
theorem spMkSS_pre  (ks : List ByteArray) (k : Int) : (spMkSS).pre [.own 1 (strs ks), .d (.one (.int .i64 k))] = (lenB 140737488355328 ks.length ∧ 0 ≤ k ∧ k + ks.length ≤ 4611686018427387904) := Spec.of_pre' spMkSS_inj (ks, k)
theorem spMkSS_alts  : (spMkSS).alts = none := rfl
theorem spMkSS_res  (ks : List ByteArray) (k : Int) : (spMkSS).res [.own 1 (strs ks), .d (.one (.int .i64 k))] = [.d (.one (.int .i64 (k + ks.length)))] := Spec.of_res spMkSS_inj (ks, k)
theorem spMkSS_out  (ks : List ByteArray) (k : Int) : (spMkSS).out [.own 1 (strs ks), .d (.one (.int .i64 k))] = [.own 1 (strs (mkKs ks k)), .gone] := Spec.of_out spMkSS_inj (ks, k)
theorem strs_nil : strs [] = [] := rfl
theorem strs_cons (a : ByteArray) (b : List ByteArray) : strs (a :: b) = [C.str a] :: strs b := rfl
theorem mkSS_sound : Sound Go.Proofs.Try.prog 32 spMkSS := by
  refine sound_fam (GOK.cons call_markText mkS_sound GOK.nil) Go.Proofs.Try.func32 (c := Go.Proofs.Try.f32.body.getD .skip) rfl (n := 20) rfl chk_markStringS rs_markStringS (fun _ => by simp) ?_ ?_
  · exact spMkSS_inj
  · rintro ⟨ks, k0⟩ ⟨h1, h2, h3⟩
    simp only [lenB] at h1 h2 h3
    simp only [x_markStringS, rg, go_sem, seval]
    refine pw_loop (ι := Nat) (fun i => ks.length - i) (fun i => i ≤ ks.length)
      (fun i => ⟨[(0, .q (.own 1000000020)), (1, .q (.c (.int .i64 (k0 + i)))), (5, .q (.c (.int .i64 i)))], [], [(1000000020, 1, strs (mkKs (ks.take i) k0) ++ strs (ks.drop i))]⟩) 0 (Nat.zero_le _) (Le.of_eq (by simp [mkKs, strs])) ?_
    intro i hi
    rcases Nat.lt_or_ge i ks.length with hlt | hge
    · obtain ⟨s, hs, hdr, hmem⟩ := drop_at hlt
      have a2 : ((i : Int) < (ks.length : Int)) = True := by simp; omega
      have a3 : (strs (mkKs (ks.take i) k0)).length = i := by rw [strs_len, mkKs_len]; simp; omega
      have a4 : (strs (mkKs (ks.take i) k0) ++ [C.str s] :: strs (ks.drop (i + 1))).length = ks.length := by rw [List.length_append, a3, List.length_cons, strs_len]; simp; omega
      have a5 := fun y => set_mid (x := [C.str s]) (y := y) (r := strs (ks.drop (i + 1))) a3
      have a6 := get_mid (x := [C.str s]) (d := []) (r := strs (ks.drop (i + 1))) a3
      simp only [hdr, strs_cons, rg, go_sem, seval, a2, a4, a5, a6, spMkS_md, spMkS_pre, spMkS_alts, spMkS_res, spMkS_out]
      repeat' (first | with_reducible assumption | with_reducible refine And.intro ?_ ?_ | intro _)
      all_goals first | omega | skip
      refine ⟨i + 1, by omega, by omega, Le.of_eq ?_⟩
      rw [mkKs_take hs, strs_app]
      simp [strs_cons, strs]
      omega
    · have a2 : ((i : Int) < (ks.length : Int)) = False := by simp; omega
      have a3 : i = ks.length := by omega
      subst a3
      have a4 : (strs (mkKs ks k0)).length = ks.length := by rw [strs_len, mkKs_len]
      simp only [rg, go_sem, seval, a2, a4, List.take_length, List.drop_length, strs_nil, List.append_nil]
noncomputable def spMkTS (k:Nat) : Spec := Spec.of (ι := (List T) × Int) [true, false] (fun i => [.own 5 (encLX i.1), .d (.one (.int .i64 i.2))]) (fun i => (lenB 140737488355328 i.1.length ∧ fitL 140737488355328 i.1 ∧ 0 ≤ i.2 ∧ i.2 + nmL i.1 ≤ 4611686018427387904) ∧ SizeOf.sizeOf i.1 < k) (fun i => [.d (.one (.int .i64 (i.2 + nmL i.1)))]) (fun i => [.own 5 (encLX (mkL i.1 i.2)), .gone])
theorem spMkTS_inj : ∀ i j : (List T) × Int, (fun (i : (List T) × Int) => ([.own 5 (encLX i.1), .d (.one (.int .i64 i.2))] : List AV)) i = (fun (i : (List T) × Int) => ([.own 5 (encLX i.1), .d (.one (.int .i64 i.2))] : List AV)) j → i = j := by
  rintro ⟨l, n⟩ ⟨l', n'⟩ h
  simp only [Prod.mk.injEq]
  simpa [strs_eq, T.enc_eq, encL_eq, F.enc_eq, encF_eq, Tk.enc_eq, encTk_eq, Gn.enc_eq, ints_eq, encLX_eq, agX_eq] using h
theorem spMkTS_md (k:Nat) : (spMkTS k).md = [true, false] := rfl
theorem spMkTS_pre (k:Nat) (l : List T) (n : Int) : (spMkTS k).pre [.own 5 (encLX l), .d (.one (.int .i64 n))] = ((lenB 140737488355328 l.length ∧ fitL 140737488355328 l ∧ 0 ≤ n ∧ n + nmL l ≤ 4611686018427387904) ∧ SizeOf.sizeOf l < k) := Spec.of_pre' spMkTS_inj (l, n)
theorem spMkTS_alts (k:Nat) : (spMkTS k).alts = none := rfl
theorem spMkTS_res (k:Nat) (l : List T) (n : Int) : (spMkTS k).res [.own 5 (encLX l), .d (.one (.int .i64 n))] = [.d (.one (.int .i64 (n + nmL l)))] := Spec.of_res spMkTS_inj (l, n)
theorem spMkTS_out (k:Nat) (l : List T) (n : Int) : (spMkTS k).out [.own 5 (encLX l), .d (.one (.int .i64 n))] = [.own 5 (encLX (mkL l n)), .gone] := Spec.of_out spMkTS_inj (l, n)
set_option maxHeartbeats 1000000 in
theorem mkTS_sound (k : Nat) (hS : Sound Go.Proofs.Try.prog 33 (spMkTS k)) : Sound Go.Proofs.Try.prog 33 (spMkTS (k + 1)) := by
  refine sound_fam (GOK.cons (l := [(32, spMkSS), (33, spMkTS k)]) call_markText mkS_sound (GOK.cons (l := [(33, spMkTS k)]) call_markStringS mkSS_sound (GOK.cons call_markValS hS GOK.nil))) Go.Proofs.Try.func33 (c := Go.Proofs.Try.f33.body.getD .skip) rfl (n := 49) rfl chk_markValS rs_markValS (fun _ => by simp) ?_ ?_
  · exact spMkTS_inj
  · rintro ⟨l, k0⟩ ⟨⟨h1, hf, h2, h3⟩, h4⟩
    simp only [lenB] at h1 hf h2 h3 h4
    simp only [x_markValS, rg, go_sem, seval]
    refine pw_loop (ι := Nat) (fun i => l.length - i) (fun i => i ≤ l.length)
      (fun i => ⟨[(0, .q (.own 1000000049)), (1, .q (.c (.int .i64 (k0 + nmL (l.take i))))), (5, .q (.c (.int .i64 i)))], [], [(1000000049, 5, encLX (mkL (l.take i) k0) ++ encLX (l.drop i))]⟩) 0 (Nat.zero_le _) (Le.of_eq (by simp [mkL, encLX, nmL])) ?_
    intro i hi
    rcases Nat.lt_or_ge i l.length with hlt | hge
    · obtain ⟨t, ht, hdr, hmem⟩ := drop_at hlt
      have a2 : ((i : Int) < (l.length : Int)) = True := by simp; omega
      have a3 : (encLX (mkL (l.take i) k0)).length = i := by rw [encLX_len, mkL_len]; simp; omega
      have a4 := fun (y : List C) => show (encLX (mkL (l.take i) k0) ++ y :: encLX (l.drop (i + 1))).length = l.length from by rw [List.length_append, a3, List.length_cons, encLX_len]; simp; omega
      have a5 := fun x y => set_mid (x := x) (y := y) (r := encLX (l.drop (i + 1))) a3
      have a6 := fun x => get_mid (x := x) (d := []) (r := encLX (l.drop (i + 1))) a3
      have a7 : nmL (l.take (i + 1)) ≤ nmL l := nmL_take_le
      have a8 := nmL_take ht
      have a9 := nmL_nn (l.take i)
      have b1 := fitL_mem hf t hmem
      have b2 := size_mem hmem
      have b3 := mkL_take ht k0
      obtain ⟨kk, n, s, ks, l'⟩ := t
      have c1 := nmL_nn l'
      have e3 : SizeOf.sizeOf l' < k := by rw [T.mk.sizeOf_spec] at b2; omega
      simp only [nmT] at a8
      simp only [T.fit, strsFit, lenB] at b1
      obtain ⟨_, _, f1, ⟨f2, _⟩, f3, f4⟩ := b1
      simp only [hdr, encLX, T.encX, mkT, rg, go_sem, seval, a2, a4, a5, a6, spMkS_md, spMkS_pre, spMkS_alts, spMkS_res, spMkS_out, spMkSS_md, spMkSS_pre, spMkSS_alts, spMkSS_res, spMkSS_out, spMkTS_md, spMkTS_pre, spMkTS_alts, spMkTS_res, spMkTS_out]
      repeat' (first | with_reducible assumption | with_reducible refine And.intro ?_ ?_ | intro _)
      all_goals first | omega | assumption | skip
      refine ⟨i + 1, by omega, by omega, Le.of_eq ?_⟩
      have d1 : k0 + nmL (l.take i) + 1 + 1 = k0 + nmL (l.take i) + 2 := by omega
      have d2 : k0 + nmL (l.take i) + 2 + 1 = k0 + nmL (l.take i) + 3 := by omega
      have d3 : k0 + nmL (l.take i) + 3 + ↑ks.length + nmL l' = k0 + nmL (l.take (i + 1)) := by omega
      rw [d1, d2, d3, b3, encLX_app]
      simp [encLX, T.encX, mkT]
    · have a2 : ((i : Int) < (l.length : Int)) = False := by simp; omega
      have a3 : i = l.length := by omega
      subst a3
      have a4 : (encLX (mkL l k0)).length = l.length := by rw [encLX_len, mkL_len]
      simp only [rg, go_sem, seval, a2, a4, List.take_length, List.drop_length, encLX, List.append_nil]
theorem mkTS_all (k : Nat) : Sound Go.Proofs.Try.prog 33 (spMkTS k) := by
  induction k with
  | zero => exact Sound.none
  | succ k ih => exact mkTS_sound k ih
noncomputable def spMkL  : Spec := Spec.of (ι := (List T) × Int) [true, false] (fun i => [.own 5 (encLX i.1), .d (.one (.int .i64 i.2))]) (fun i => lenB 140737488355328 i.1.length ∧ fitL 140737488355328 i.1 ∧ 0 ≤ i.2 ∧ i.2 + nmL i.1 ≤ 4611686018427387904) (fun i => [.d (.one (.int .i64 (i.2 + nmL i.1)))]) (fun i => [.own 5 (encLX (mkL i.1 i.2)), .gone])
theorem spMkL_inj : ∀ i j : (List T) × Int, (fun (i : (List T) × Int) => ([.own 5 (encLX i.1), .d (.one (.int .i64 i.2))] : List AV)) i = (fun (i : (List T) × Int) => ([.own 5 (encLX i.1), .d (.one (.int .i64 i.2))] : List AV)) j → i = j := by
  rintro ⟨l, n⟩ ⟨l', n'⟩ h
  simp only [Prod.mk.injEq]
  simpa [strs_eq, T.enc_eq, encL_eq, F.enc_eq, encF_eq, Tk.enc_eq, encTk_eq, Gn.enc_eq, ints_eq, encLX_eq, agX_eq] using h
theorem spMkL_md  : (spMkL).md = [true, false] := rfl
theorem spMkL_pre  (l : List T) (n : Int) : (spMkL).pre [.own 5 (encLX l), .d (.one (.int .i64 n))] = (lenB 140737488355328 l.length ∧ fitL 140737488355328 l ∧ 0 ≤ n ∧ n + nmL l ≤ 4611686018427387904) := Spec.of_pre' spMkL_inj (l, n)
theorem spMkL_alts  : (spMkL).alts = none := rfl
theorem spMkL_res  (l : List T) (n : Int) : (spMkL).res [.own 5 (encLX l), .d (.one (.int .i64 n))] = [.d (.one (.int .i64 (n + nmL l)))] := Spec.of_res spMkL_inj (l, n)
theorem spMkL_out  (l : List T) (n : Int) : (spMkL).out [.own 5 (encLX l), .d (.one (.int .i64 n))] = [.own 5 (encLX (mkL l n)), .gone] := Spec.of_out spMkL_inj (l, n)
theorem mkL_sound : Sound Go.Proofs.Try.prog 33 spMkL := Sound.all (μ := fun i => SizeOf.sizeOf i.1) mkTS_all
noncomputable def spMkV  : Spec := Spec.of (ι := T × Int) [true, false] (fun i => [.ag (agX i.1), .d (.one (.int .i64 i.2))]) (fun i => i.1.fit 140737488355328 ∧ 0 ≤ i.2 ∧ i.2 + nmV i.1 ≤ 4611686018427387904) (fun i => [.d (.one (.int .i64 (i.2 + nmV i.1)))]) (fun i => [.ag (agX (mkV i.1 i.2)), .gone])
theorem spMkV_inj : ∀ i j : T × Int, (fun (i : T × Int) => ([.ag (agX i.1), .d (.one (.int .i64 i.2))] : List AV)) i = (fun (i : T × Int) => ([.ag (agX i.1), .d (.one (.int .i64 i.2))] : List AV)) j → i = j := by
  rintro ⟨t, n⟩ ⟨t', n'⟩ h
  simp only [Prod.mk.injEq]
  simpa [strs_eq, T.enc_eq, encL_eq, F.enc_eq, encF_eq, Tk.enc_eq, encTk_eq, Gn.enc_eq, ints_eq, encLX_eq, agX_eq] using h
theorem spMkV_md  : (spMkV).md = [true, false] := rfl
theorem spMkV_pre  (t : T) (n : Int) : (spMkV).pre [.ag (agX t), .d (.one (.int .i64 n))] = (t.fit 140737488355328 ∧ 0 ≤ n ∧ n + nmV t ≤ 4611686018427387904) := Spec.of_pre' spMkV_inj (t, n)
theorem spMkV_alts  : (spMkV).alts = none := rfl
theorem spMkV_res  (t : T) (n : Int) : (spMkV).res [.ag (agX t), .d (.one (.int .i64 n))] = [.d (.one (.int .i64 (n + nmV t)))] := Spec.of_res spMkV_inj (t, n)
theorem spMkV_out  (t : T) (n : Int) : (spMkV).out [.ag (agX t), .d (.one (.int .i64 n))] = [.ag (agX (mkV t n)), .gone] := Spec.of_out spMkV_inj (t, n)
theorem mkV_sound : Sound Go.Proofs.Try.prog 12 spMkV := by
  refine sound_famG (GOK.cons (l := [(33, spMkL)]) call_markStringS mkSS_sound (GOK.cons call_markValS mkL_sound GOK.nil)) Go.Proofs.Try.func12 (c := Go.Proofs.Try.f12.body.getD .skip) rfl (n := 14) rfl chk_markVal rs_markVal (by decide) (by decide) ?_ ?_
  · exact spMkV_inj
  · rintro ⟨t, n⟩ ⟨h1, h2, h3⟩
    obtain ⟨kk, m, s, ks, l⟩ := t
    have c1 := nmL_nn l
    simp only [T.fit, strsFit, nmV, lenB] at h1 h3
    obtain ⟨_, _, f1, ⟨f2, _⟩, f3, f4⟩ := h1
    simp only [x_markVal, agX, mkV, nmV, go_sem, seval, Prod.fst, rg, spMkSS_md, spMkSS_pre, spMkSS_alts, spMkSS_res, spMkSS_out, spMkL_md, spMkL_pre, spMkL_alts, spMkL_res, spMkL_out]
    repeat' (first | with_reducible assumption | with_reducible refine And.intro ?_ ?_ | intro _)
    all_goals first | omega | assumption | skip
noncomputable def spHdSS  : Spec := Spec.of (ι := (List ByteArray) × Int) [false, false] (fun i => [.d (.one (.row 1 (strs i.1))), .d (.one (.int .i64 i.2))]) (fun i => lenB 140737488355328 i.1.length ∧ 0 ≤ i.2 ∧ i.2 + i.1.length ≤ 4611686018427387904 ∧ mkKs i.1 i.2 = i.1) (fun i => [.d (.one (.int .i64 (i.2 + i.1.length)))]) (fun _ => [.gone, .gone])
theorem spHdSS_inj : ∀ i j : (List ByteArray) × Int, (fun (i : (List ByteArray) × Int) => ([.d (.one (.row 1 (strs i.1))), .d (.one (.int .i64 i.2))] : List AV)) i = (fun (i : (List ByteArray) × Int) => ([.d (.one (.row 1 (strs i.1))), .d (.one (.int .i64 i.2))] : List AV)) j → i = j := by
  rintro ⟨ks, k⟩ ⟨ks', k'⟩ h
  simp only [Prod.mk.injEq]
  simpa [strs_eq, T.enc_eq, encL_eq, F.enc_eq, encF_eq, Tk.enc_eq, encTk_eq, Gn.enc_eq, ints_eq, encLX_eq, agX_eq] using h
theorem spHdSS_md  : (spHdSS).md = [false, false] := rfl
theorem spHdSS_pre  (ks : List ByteArray) (k : Int) : (spHdSS).pre [.d (.one (.row 1 (strs ks))), .d (.one (.int .i64 k))] = (lenB 140737488355328 ks.length ∧ 0 ≤ k ∧ k + ks.length ≤ 4611686018427387904 ∧ mkKs ks k = ks) := Spec.of_pre' spHdSS_inj (ks, k)
theorem spHdSS_alts  : (spHdSS).alts = none := rfl
theorem spHdSS_res  (ks : List ByteArray) (k : Int) : (spHdSS).res [.d (.one (.row 1 (strs ks))), .d (.one (.int .i64 k))] = [.d (.one (.int .i64 (k + ks.length)))] := Spec.of_res spHdSS_inj (ks, k)
theorem spHdSS_out  (ks : List ByteArray) (k : Int) : (spHdSS).out [.d (.one (.row 1 (strs ks))), .d (.one (.int .i64 k))] = [.gone, .gone] := Spec.of_out spHdSS_inj (ks, k)
theorem hdSS_sound : Sound Go.Proofs.Try.prog 35 spHdSS := by
  refine sound_fam (GOK.cons call_markText mkS_sound GOK.nil) Go.Proofs.Try.func35 (c := Go.Proofs.Try.f35.body.getD .skip) rfl (n := 22) rfl chk_heldStringS rs_heldStringS (fun _ => by simp) ?_ ?_
  · exact spHdSS_inj
  · rintro ⟨ks, k0⟩ ⟨h1, h2, h3, h4⟩
    simp only [lenB] at h1 h2 h3 h4
    simp only [x_heldStringS, rg, go_sem, seval]
    refine pw_loop (ι := Nat) (fun i => ks.length - i) (fun i => i ≤ ks.length)
      (fun i => ⟨[(0, .q (.c (.row 1 (strs ks)))), (1, .q (.c (.int .i64 (k0 + i)))), (5, .q (.c (.int .i64 i)))], [], []⟩) 0 (Nat.zero_le _) (Le.of_eq (by simp)) ?_
    intro i hi
    rcases Nat.lt_or_ge i ks.length with hlt | hge
    · obtain ⟨s, hs, hdr, hmem⟩ := drop_at hlt
      have a1 := strs_at hs
      have a2 : ((i : Int) < (ks.length : Int)) = True := by simp; omega
      have a3 := mkKs_at h4 hs
      simp only [rg, go_sem, seval, Prod.fst, a1, a2, a3, strs_len, spMkS_md, spMkS_pre, spMkS_alts, spMkS_res, spMkS_out, decide_true, Bool.not_true]
      repeat' (first | with_reducible assumption | with_reducible refine And.intro ?_ ?_ | intro _)
      all_goals first | omega | skip
      exact ⟨i + 1, by omega, by omega, Le.of_eq (by simp; omega)⟩
    · have a2 : ((i : Int) < (ks.length : Int)) = False := by simp; omega
      have a3 : i = ks.length := by omega
      subst a3
      simp only [rg, go_sem, seval, a2, strs_len]
noncomputable def spHdTS (k:Nat) : Spec := Spec.of (ι := (List T) × Int) [false, false] (fun i => [.d (.one (.row 5 (encL i.1))), .d (.one (.int .i64 i.2))]) (fun i => (lenB 140737488355328 i.1.length ∧ fitL 140737488355328 i.1 ∧ 0 ≤ i.2 ∧ i.2 + nmL i.1 ≤ 4611686018427387904 ∧ mkL i.1 i.2 = i.1) ∧ SizeOf.sizeOf i.1 < k) (fun i => [.d (.one (.int .i64 (i.2 + nmL i.1)))]) (fun _ => [.gone, .gone])
theorem spHdTS_inj : ∀ i j : (List T) × Int, (fun (i : (List T) × Int) => ([.d (.one (.row 5 (encL i.1))), .d (.one (.int .i64 i.2))] : List AV)) i = (fun (i : (List T) × Int) => ([.d (.one (.row 5 (encL i.1))), .d (.one (.int .i64 i.2))] : List AV)) j → i = j := by
  rintro ⟨l, n⟩ ⟨l', n'⟩ h
  simp only [Prod.mk.injEq]
  simpa [strs_eq, T.enc_eq, encL_eq, F.enc_eq, encF_eq, Tk.enc_eq, encTk_eq, Gn.enc_eq, ints_eq, encLX_eq, agX_eq] using h
theorem spHdTS_md (k:Nat) : (spHdTS k).md = [false, false] := rfl
theorem spHdTS_pre (k:Nat) (l : List T) (n : Int) : (spHdTS k).pre [.d (.one (.row 5 (encL l))), .d (.one (.int .i64 n))] = ((lenB 140737488355328 l.length ∧ fitL 140737488355328 l ∧ 0 ≤ n ∧ n + nmL l ≤ 4611686018427387904 ∧ mkL l n = l) ∧ SizeOf.sizeOf l < k) := Spec.of_pre' spHdTS_inj (l, n)
theorem spHdTS_alts (k:Nat) : (spHdTS k).alts = none := rfl
theorem spHdTS_res (k:Nat) (l : List T) (n : Int) : (spHdTS k).res [.d (.one (.row 5 (encL l))), .d (.one (.int .i64 n))] = [.d (.one (.int .i64 (n + nmL l)))] := Spec.of_res spHdTS_inj (l, n)
theorem spHdTS_out (k:Nat) (l : List T) (n : Int) : (spHdTS k).out [.d (.one (.row 5 (encL l))), .d (.one (.int .i64 n))] = [.gone, .gone] := Spec.of_out spHdTS_inj (l, n)
set_option maxHeartbeats 1000000 in
theorem hdTS_sound (k : Nat) (hS : Sound Go.Proofs.Try.prog 36 (spHdTS k)) : Sound Go.Proofs.Try.prog 36 (spHdTS (k + 1)) := by
  refine sound_fam (GOK.cons (l := [(35, spHdSS), (36, spHdTS k)]) call_markText mkS_sound (GOK.cons (l := [(36, spHdTS k)]) call_heldStringS hdSS_sound (GOK.cons call_heldValS hS GOK.nil))) Go.Proofs.Try.func36 (c := Go.Proofs.Try.f36.body.getD .skip) rfl (n := 59) rfl chk_heldValS rs_heldValS (fun _ => by simp) ?_ ?_
  · exact spHdTS_inj
  · rintro ⟨l, k0⟩ ⟨⟨h1, hf, h2, h3, h5⟩, h4⟩
    simp only [lenB] at h1 hf h2 h3 h4 h5
    simp only [x_heldValS, rg, go_sem, seval]
    refine pw_loop (ι := Nat) (fun i => l.length - i) (fun i => i ≤ l.length)
      (fun i => ⟨[(0, .q (.c (.row 5 (encL l)))), (1, .q (.c (.int .i64 (k0 + nmL (l.take i))))), (5, .q (.c (.int .i64 i)))], [], []⟩) 0 (Nat.zero_le _) (Le.of_eq (by simp [nmL])) ?_
    intro i hi
    rcases Nat.lt_or_ge i l.length with hlt | hge
    · obtain ⟨t, ht, hdr, hmem⟩ := drop_at hlt
      have a1 := encL_at ht
      have a2 : ((i : Int) < (l.length : Int)) = True := by simp; omega
      have a3 := mkL_at h5 ht
      have a7 : nmL (l.take (i + 1)) ≤ nmL l := nmL_take_le
      have a8 := nmL_take ht
      have a9 := nmL_nn (l.take i)
      have b1 := fitL_mem hf t hmem
      have b2 := size_mem hmem
      obtain ⟨kk, n, s, ks, l'⟩ := t
      have c1 := nmL_nn l'
      have e3 : SizeOf.sizeOf l' < k := by rw [T.mk.sizeOf_spec] at b2; omega
      simp only [nmT] at a8
      simp only [T.fit, strsFit, lenB] at b1
      obtain ⟨_, _, f1, ⟨f2, _⟩, f3, f4⟩ := b1
      simp only [mkT, T.mk.injEq] at a3
      obtain ⟨g1, g2, g3, g4, g5⟩ := a3
      generalize hk : k0 + nmL (l.take i) = kk' at *
      subst g1 g2 g3
      have d1 : kk' + 1 + 1 = kk' + 2 := by omega
      have d2 : kk' + 2 + 1 = kk' + 3 := by omega
      have d4 : (kk' + 3 + (ks.length : Int) < 0) = False := by simp; omega
      have d5 : (kk' + 3 + (ks.length : Int) + nmL l' < 0) = False := by simp; omega
      have b4 : T.enc (.mk kk' (kk' + 1) (mkS (kk' + 2)) ks l') = [.int .i64 kk', .int .i64 (kk' + 1), .str (mkS (kk' + 2)), .row 1 (strs ks), .row 5 (encL l')] := rfl
      rw [b4] at a1
      simp only [rg, go_sem, seval, Prod.fst, a1, a2, d1, d2, d4, d5, encL_len, spMkS_md, spMkS_pre, spMkS_alts, spMkS_res, spMkS_out, spHdSS_md, spHdSS_pre, spHdSS_alts, spHdSS_res, spHdSS_out, spHdTS_md, spHdTS_pre, spHdTS_alts, spHdTS_res, spHdTS_out, decide_true, Bool.not_true]
      repeat' (first | with_reducible assumption | with_reducible refine And.intro ?_ ?_ | intro _)
      all_goals first | omega | assumption | skip
      exact ⟨i + 1, by omega, by omega, Le.of_eq (by rw [show k0 + nmL (l.take (i + 1)) = kk' + 3 + ↑ks.length + nmL l' by omega]; simp)⟩
    · have a2 : ((i : Int) < (l.length : Int)) = False := by simp; omega
      have a3 : i = l.length := by omega
      subst a3
      simp only [rg, go_sem, seval, a2, List.take_length, encL_len]
theorem hdTS_all (k : Nat) : Sound Go.Proofs.Try.prog 36 (spHdTS k) := by
  induction k with
  | zero => exact Sound.none
  | succ k ih => exact hdTS_sound k ih
noncomputable def spHdL  : Spec := Spec.of (ι := (List T) × Int) [false, false] (fun i => [.d (.one (.row 5 (encL i.1))), .d (.one (.int .i64 i.2))]) (fun i => lenB 140737488355328 i.1.length ∧ fitL 140737488355328 i.1 ∧ 0 ≤ i.2 ∧ i.2 + nmL i.1 ≤ 4611686018427387904 ∧ mkL i.1 i.2 = i.1) (fun i => [.d (.one (.int .i64 (i.2 + nmL i.1)))]) (fun _ => [.gone, .gone])
theorem spHdL_inj : ∀ i j : (List T) × Int, (fun (i : (List T) × Int) => ([.d (.one (.row 5 (encL i.1))), .d (.one (.int .i64 i.2))] : List AV)) i = (fun (i : (List T) × Int) => ([.d (.one (.row 5 (encL i.1))), .d (.one (.int .i64 i.2))] : List AV)) j → i = j := by
  rintro ⟨l, n⟩ ⟨l', n'⟩ h
  simp only [Prod.mk.injEq]
  simpa [strs_eq, T.enc_eq, encL_eq, F.enc_eq, encF_eq, Tk.enc_eq, encTk_eq, Gn.enc_eq, ints_eq, encLX_eq, agX_eq] using h
theorem spHdL_md  : (spHdL).md = [false, false] := rfl
theorem spHdL_pre  (l : List T) (n : Int) : (spHdL).pre [.d (.one (.row 5 (encL l))), .d (.one (.int .i64 n))] = (lenB 140737488355328 l.length ∧ fitL 140737488355328 l ∧ 0 ≤ n ∧ n + nmL l ≤ 4611686018427387904 ∧ mkL l n = l) := Spec.of_pre' spHdL_inj (l, n)
theorem spHdL_alts  : (spHdL).alts = none := rfl
theorem spHdL_res  (l : List T) (n : Int) : (spHdL).res [.d (.one (.row 5 (encL l))), .d (.one (.int .i64 n))] = [.d (.one (.int .i64 (n + nmL l)))] := Spec.of_res spHdL_inj (l, n)
theorem spHdL_out  (l : List T) (n : Int) : (spHdL).out [.d (.one (.row 5 (encL l))), .d (.one (.int .i64 n))] = [.gone, .gone] := Spec.of_out spHdL_inj (l, n)
theorem hdL_sound : Sound Go.Proofs.Try.prog 36 spHdL := Sound.all (μ := fun i => SizeOf.sizeOf i.1) hdTS_all
noncomputable def spHdV  : Spec := Spec.of (ι := T × Int) [false, false] (fun i => [.d (.agg i.1.enc), .d (.one (.int .i64 i.2))]) (fun i => i.1.fit 140737488355328 ∧ 0 ≤ i.2 ∧ i.2 + nmV i.1 ≤ 4611686018427387904 ∧ mkV i.1 i.2 = i.1) (fun i => [.d (.one (.int .i64 (i.2 + nmV i.1)))]) (fun _ => [.gone, .gone])
theorem spHdV_inj : ∀ i j : T × Int, (fun (i : T × Int) => ([.d (.agg i.1.enc), .d (.one (.int .i64 i.2))] : List AV)) i = (fun (i : T × Int) => ([.d (.agg i.1.enc), .d (.one (.int .i64 i.2))] : List AV)) j → i = j := by
  rintro ⟨t, n⟩ ⟨t', n'⟩ h
  simp only [Prod.mk.injEq]
  simpa [strs_eq, T.enc_eq, encL_eq, F.enc_eq, encF_eq, Tk.enc_eq, encTk_eq, Gn.enc_eq, ints_eq, encLX_eq, agX_eq] using h
theorem spHdV_md  : (spHdV).md = [false, false] := rfl
theorem spHdV_pre  (t : T) (n : Int) : (spHdV).pre [.d (.agg t.enc), .d (.one (.int .i64 n))] = (t.fit 140737488355328 ∧ 0 ≤ n ∧ n + nmV t ≤ 4611686018427387904 ∧ mkV t n = t) := Spec.of_pre' spHdV_inj (t, n)
theorem spHdV_alts  : (spHdV).alts = none := rfl
theorem spHdV_res  (t : T) (n : Int) : (spHdV).res [.d (.agg t.enc), .d (.one (.int .i64 n))] = [.d (.one (.int .i64 (n + nmV t)))] := Spec.of_res spHdV_inj (t, n)
theorem spHdV_out  (t : T) (n : Int) : (spHdV).out [.d (.agg t.enc), .d (.one (.int .i64 n))] = [.gone, .gone] := Spec.of_out spHdV_inj (t, n)
theorem hdV_sound : Sound Go.Proofs.Try.prog 14 spHdV := by
  refine sound_fam (GOK.cons (l := [(36, spHdL)]) call_heldStringS hdSS_sound (GOK.cons call_heldValS hdL_sound GOK.nil)) Go.Proofs.Try.func14 (c := Go.Proofs.Try.f14.body.getD .skip) rfl (n := 18) rfl chk_heldVal rs_heldVal (fun _ => by simp) ?_ ?_
  · exact spHdV_inj
  · rintro ⟨t, n⟩ ⟨h1, h2, h3, h4⟩
    obtain ⟨kk, m, s, ks, l⟩ := t
    have c1 := nmL_nn l
    simp only [T.fit, strsFit, nmV, lenB] at h1 h3
    obtain ⟨_, _, f1, ⟨f2, _⟩, f3, f4⟩ := h1
    simp only [mkV, T.mk.injEq, true_and] at h4
    have d4 : (n + (ks.length : Int) < 0) = False := by simp; omega
    have d5 : (n + (ks.length : Int) + nmL l < 0) = False := by simp; omega
    simp only [x_heldVal, T.enc, nmV, go_sem, seval, rg, d4, d5, spHdSS_md, spHdSS_pre, spHdSS_alts, spHdSS_res, spHdSS_out, spHdL_md, spHdL_pre, spHdL_alts, spHdL_res, spHdL_out]
    repeat' (first | with_reducible assumption | with_reducible refine And.intro ?_ ?_ | intro _)
    all_goals first | omega | assumption | exact h4.1 | exact h4.2 | skip
end Go.Proofs.Pw
/- Ways in the laws' text: their size, copies that nobody else holds, equality, marks. -/
set_option linter.unusedSimpArgs false
set_option maxRecDepth 20000
namespace Go.Proofs.Pw
set_option linter.unusedSectionVars false
variable [Globs]
def x_szStep : X := (.seq (.reg [⟨some 2, none, .box (.t 0) (some 3)⟩, ⟨some 4, none, .mv (.k (.c (.int .i64 0)))⟩] none [1, 2]) (.seq (.reg [⟨some 5, none, .mv (.t 1)⟩, ⟨some 6, none, .fa (.t 2) 1⟩, ⟨some 7, none, .load (.t 6) none⟩, ⟨some 8, none, .len (.t 7) true⟩, ⟨some 9, none, .bin false .sub (.t 5) (.t 8)⟩, ⟨some 1, none, .mv (.t 9)⟩] none [1]) (.seq (.seq (.reg [⟨some 10, none, .mv (.t 1)⟩, ⟨some 11, none, .bin false .lss (.t 10) (.k (.c (.int .i64 0)))⟩] none [1, 11]) (.cond (.t 11) (.seq (.reg [⟨some 4, none, .mv (.k (.c (.int .i64 (-1))))⟩] none [4]) .ret) .skip)) (.seq (.reg [⟨some 12, none, .mv (.t 1)⟩, ⟨some 4, none, .mv (.t 12)⟩] none [4]) .ret))))
theorem chk_szStep : chkX Go.Proofs.Try.prog 13 (Go.Proofs.Try.f17.body.getD .skip) x_szStep = true := by kernel_rfl
theorem rs_szStep : okRs Go.Proofs.Try.prog Go.Proofs.Try.f17.results.toList [.tmp 4] = true := by kernel_rfl
theorem call_szStep : okCallee Go.Proofs.Try.prog 17 = true := by kernel_rfl
def x_szStepS : X := (.seq (.reg [⟨some 4, none, .mv (.k (.c (.int .i64 0)))⟩] none [0, 1]) (.seq (.reg [⟨some 6, none, .mv (.t 1)⟩, ⟨some 7, none, .mv (.t 0)⟩, ⟨some 8, none, .len (.t 7) false⟩, ⟨some 9, none, .bin false .sub (.t 6) (.t 8)⟩, ⟨some 1, none, .mv (.t 9)⟩] none [0, 1]) (.seq (.seq (.reg [⟨some 10, none, .mv (.t 1)⟩, ⟨some 11, none, .bin false .lss (.t 10) (.k (.c (.int .i64 0)))⟩] none [0, 1, 11]) (.cond (.t 11) (.seq (.reg [⟨some 4, none, .mv (.k (.c (.int .i64 (-1))))⟩] none [4]) .ret) .skip)) (.seq (.seq (.reg [⟨some 5, none, .mv (.k (.c (.int .i64 0)))⟩] none [0, 1, 5]) (.block 0 (.loop (.seq (.seq (.reg [⟨some 12, none, .mv (.t 5)⟩, ⟨some 13, none, .mv (.t 0)⟩, ⟨some 14, none, .len (.t 13) false⟩, ⟨some 15, none, .bin false .lss (.t 12) (.t 14)⟩] none [0, 1, 5, 15]) (.cond (.t 15) .skip (.exit 0))) (.seq (.block 1 (.seq (.reg [⟨some 18, none, .mv (.t 0)⟩, ⟨some 19, none, .mv (.t 5)⟩, ⟨some 20, none, .ia (.t 18) (.t 19) 3⟩, ⟨some 21, none, .load (.t 20) (some 3)⟩, ⟨some 22, none, .mv (.t 1)⟩, ⟨some 23, none, .call 17 [(.t 21), (.t 22)]⟩, ⟨some 1, none, .mv (.t 23)⟩] none [0, 1, 5]) (.seq (.reg [⟨some 24, none, .mv (.t 1)⟩, ⟨some 25, none, .bin false .lss (.t 24) (.k (.c (.int .i64 0)))⟩] none [0, 1, 5, 25]) (.cond (.t 25) (.seq (.reg [⟨some 4, none, .mv (.k (.c (.int .i64 (-1))))⟩] none [4]) .ret) .skip)))) (.reg [⟨some 16, none, .mv (.t 5)⟩, ⟨some 17, none, .bin false .add (.t 16) (.k (.c (.int .i64 1)))⟩, ⟨some 5, none, .mv (.t 17)⟩] none [0, 1, 5])))))) (.seq (.reg [⟨some 26, none, .mv (.t 1)⟩, ⟨some 4, none, .mv (.t 26)⟩] none [4]) .ret)))))
theorem chk_szStepS : chkX Go.Proofs.Try.prog 27 (Go.Proofs.Try.f5.body.getD .skip) x_szStepS = true := by kernel_rfl
theorem rs_szStepS : okRs Go.Proofs.Try.prog Go.Proofs.Try.f5.results.toList [.tmp 4] = true := by kernel_rfl
theorem call_szStepS : okCallee Go.Proofs.Try.prog 5 = true := by kernel_rfl
def x_toStep : X := (.seq (.reg [⟨some 1, none, .box (.t 0) (some 3)⟩, ⟨some 2, none, .alloc [(.c (.bool false)), (.c (.str ⟨#[]⟩)), (.c (.int .i64 0))]⟩] none [1, 2]) (.seq (.reg [⟨some 3, none, .alloc [(.c (.bool false)), (.c (.str ⟨#[]⟩)), (.c (.int .i64 0))]⟩] none [1, 2, 3]) (.seq (.reg [⟨some 4, none, .fa (.t 1) 0⟩, ⟨some 5, none, .load (.t 4) none⟩, ⟨some 6, none, .fa (.t 3) 0⟩, ⟨none, none, .st (.t 6) (.t 5) none⟩] none [1, 2, 3]) (.seq (.reg [⟨some 7, none, .fa (.t 1) 1⟩, ⟨some 8, none, .load (.t 7) none⟩, ⟨some 9, none, .fa (.t 3) 1⟩, ⟨none, none, .st (.t 9) (.t 8) none⟩] none [1, 2, 3]) (.seq (.reg [⟨some 10, none, .fa (.t 1) 2⟩, ⟨some 11, none, .load (.t 10) none⟩, ⟨some 12, none, .fa (.t 3) 2⟩, ⟨none, none, .st (.t 12) (.t 11) none⟩] none [2, 3]) (.seq (.reg [⟨some 13, none, .load (.t 3) (some 3)⟩, ⟨none, none, .st (.t 2) (.t 13) (some 3)⟩] none [2]) .ret))))))
theorem chk_toStep : chkX Go.Proofs.Try.prog 14 (Go.Proofs.Try.f24.body.getD .skip) x_toStep = true := by kernel_rfl
theorem rs_toStep : okRs Go.Proofs.Try.prog Go.Proofs.Try.f24.results.toList [.cell 2 (some 3)] = true := by kernel_rfl
theorem call_toStep : okCallee Go.Proofs.Try.prog 24 = true := by kernel_rfl
def x_toStepS : X := (.seq (.reg [⟨some 2, none, .mv (.k (.z 3))⟩] none [0]) (.seq (.reg [⟨some 5, none, .mv (.t 0)⟩, ⟨some 6, none, .len (.t 5) false⟩, ⟨some 7, none, .mk (.t 6) [(.bool false), (.str ⟨#[]⟩), (.int .i64 0)] 32⟩, ⟨some 3, none, .mv (.t 7)⟩] none [0, 3]) (.seq (.seq (.reg [⟨some 4, none, .mv (.k (.c (.int .i64 0)))⟩] none [0, 3, 4]) (.block 0 (.loop (.seq (.seq (.reg [⟨some 8, none, .mv (.t 4)⟩, ⟨some 9, none, .mv (.t 0)⟩, ⟨some 10, none, .len (.t 9) false⟩, ⟨some 11, none, .bin false .lss (.t 8) (.t 10)⟩] none [0, 3, 4, 11]) (.cond (.t 11) .skip (.exit 0))) (.seq (.block 1 (.reg [⟨some 14, none, .mv (.t 3)⟩, ⟨some 15, none, .mv (.t 4)⟩, ⟨some 16, none, .mv (.t 0)⟩, ⟨some 17, none, .mv (.t 4)⟩, ⟨some 18, none, .ia (.t 16) (.t 17) 3⟩, ⟨some 19, none, .load (.t 18) (some 3)⟩, ⟨some 20, none, .call 24 [(.t 19)]⟩, ⟨some 21, none, .ia (.t 14) (.t 15) 3⟩, ⟨none, none, .st (.t 21) (.t 20) (some 3)⟩] none [0, 3, 4])) (.reg [⟨some 12, none, .mv (.t 4)⟩, ⟨some 13, none, .bin false .add (.t 12) (.k (.c (.int .i64 1)))⟩, ⟨some 4, none, .mv (.t 13)⟩] none [0, 3, 4])))))) (.seq (.reg [⟨some 22, none, .mv (.t 3)⟩, ⟨some 2, none, .mv (.t 22)⟩] none [2]) .ret))))
theorem chk_toStepS : chkX Go.Proofs.Try.prog 23 (Go.Proofs.Try.f8.body.getD .skip) x_toStepS = true := by kernel_rfl
theorem rs_toStepS : okRs Go.Proofs.Try.prog Go.Proofs.Try.f8.results.toList [.tmp 2] = true := by kernel_rfl
theorem call_toStepS : okCallee Go.Proofs.Try.prog 8 = true := by kernel_rfl
def x_eqStep : X := (.seq (.reg [⟨some 2, none, .box (.t 0) (some 3)⟩, ⟨some 3, none, .box (.t 1) (some 3)⟩, ⟨some 4, none, .mv (.k (.c (.bool false)))⟩] none [2, 3]) (.seq (.seq (.reg [⟨some 5, none, .fa (.t 2) 0⟩, ⟨some 6, none, .load (.t 5) none⟩, ⟨some 7, none, .fa (.t 3) 0⟩, ⟨some 8, none, .load (.t 7) none⟩, ⟨some 9, none, .bin true .neq (.t 6) (.t 8)⟩] none [2, 3, 9]) (.cond (.t 9) (.seq (.reg [⟨some 4, none, .mv (.k (.c (.bool false)))⟩] none [4]) .ret) .skip)) (.seq (.seq (.reg [⟨some 10, none, .fa (.t 2) 1⟩, ⟨some 11, none, .load (.t 10) none⟩, ⟨some 12, none, .fa (.t 3) 1⟩, ⟨some 13, none, .load (.t 12) none⟩, ⟨some 14, none, .bin false .neq (.t 11) (.t 13)⟩] none [2, 3, 14]) (.cond (.t 14) (.seq (.reg [⟨some 4, none, .mv (.k (.c (.bool false)))⟩] none [4]) .ret) .skip)) (.seq (.seq (.reg [⟨some 15, none, .fa (.t 2) 2⟩, ⟨some 16, none, .load (.t 15) none⟩, ⟨some 17, none, .fa (.t 3) 2⟩, ⟨some 18, none, .load (.t 17) none⟩, ⟨some 19, none, .bin false .neq (.t 16) (.t 18)⟩] none [19]) (.cond (.t 19) (.seq (.reg [⟨some 4, none, .mv (.k (.c (.bool false)))⟩] none [4]) .ret) .skip)) (.seq (.reg [⟨some 4, none, .mv (.k (.c (.bool true)))⟩] none [4]) .ret)))))
theorem chk_eqStep : chkX Go.Proofs.Try.prog 20 (Go.Proofs.Try.f31.body.getD .skip) x_eqStep = true := by kernel_rfl
theorem rs_eqStep : okRs Go.Proofs.Try.prog Go.Proofs.Try.f31.results.toList [.tmp 4] = true := by kernel_rfl
theorem call_eqStep : okCallee Go.Proofs.Try.prog 31 = true := by kernel_rfl
def x_eqStepS : X := (.seq (.reg [⟨some 4, none, .mv (.k (.c (.bool false)))⟩] none [0, 1]) (.seq (.seq (.reg [⟨some 6, none, .mv (.t 0)⟩, ⟨some 7, none, .len (.t 6) false⟩, ⟨some 8, none, .mv (.t 1)⟩, ⟨some 9, none, .len (.t 8) false⟩, ⟨some 10, none, .bin false .neq (.t 7) (.t 9)⟩] none [0, 1, 10]) (.cond (.t 10) (.seq (.reg [⟨some 4, none, .mv (.k (.c (.bool false)))⟩] none [4]) .ret) .skip)) (.seq (.seq (.reg [⟨some 5, none, .mv (.k (.c (.int .i64 0)))⟩] none [0, 1, 5]) (.block 0 (.loop (.seq (.seq (.reg [⟨some 11, none, .mv (.t 5)⟩, ⟨some 12, none, .mv (.t 0)⟩, ⟨some 13, none, .len (.t 12) false⟩, ⟨some 14, none, .bin false .lss (.t 11) (.t 13)⟩] none [0, 1, 5, 14]) (.cond (.t 14) .skip (.exit 0))) (.seq (.block 1 (.seq (.reg [⟨some 17, none, .mv (.t 0)⟩, ⟨some 18, none, .mv (.t 5)⟩, ⟨some 19, none, .ia (.t 17) (.t 18) 3⟩, ⟨some 20, none, .load (.t 19) (some 3)⟩, ⟨some 21, none, .mv (.t 1)⟩, ⟨some 22, none, .mv (.t 5)⟩, ⟨some 23, none, .ia (.t 21) (.t 22) 3⟩, ⟨some 24, none, .load (.t 23) (some 3)⟩, ⟨some 25, none, .call 31 [(.t 20), (.t 24)]⟩, ⟨some 26, none, .not (.t 25)⟩] (some 8) [0, 1, 5, 26]) (.cond (.t 26) (.seq (.reg [⟨some 4, none, .mv (.k (.c (.bool false)))⟩] none [4]) .ret) .skip))) (.reg [⟨some 15, none, .mv (.t 5)⟩, ⟨some 16, none, .bin false .add (.t 15) (.k (.c (.int .i64 1)))⟩, ⟨some 5, none, .mv (.t 16)⟩] none [0, 1, 5])))))) (.seq (.reg [⟨some 4, none, .mv (.k (.c (.bool true)))⟩] none [4]) .ret))))
theorem chk_eqStepS : chkX Go.Proofs.Try.prog 27 (Go.Proofs.Try.f11.body.getD .skip) x_eqStepS = true := by kernel_rfl
theorem rs_eqStepS : okRs Go.Proofs.Try.prog Go.Proofs.Try.f11.results.toList [.tmp 4] = true := by kernel_rfl
theorem call_eqStepS : okCallee Go.Proofs.Try.prog 11 = true := by kernel_rfl
def x_markStepS : X := (.seq (.reg [⟨some 4, none, .mv (.k (.c (.int .i64 0)))⟩] none [0, 1]) (.seq (.seq (.reg [⟨some 5, none, .mv (.k (.c (.int .i64 0)))⟩] none [0, 1, 5]) (.block 0 (.loop (.seq (.seq (.reg [⟨some 6, none, .mv (.t 5)⟩, ⟨some 7, none, .mv (.t 0)⟩, ⟨some 8, none, .len (.t 7) false⟩, ⟨some 9, none, .bin false .lss (.t 6) (.t 8)⟩] none [0, 1, 5, 9]) (.cond (.t 9) .skip (.exit 0))) (.seq (.block 1 (.seq (.reg [⟨some 12, none, .mv (.t 0)⟩, ⟨some 13, none, .mv (.t 5)⟩, ⟨some 14, none, .mv (.t 1)⟩, ⟨some 15, none, .bin false .rem (.t 14) (.k (.c (.int .i64 3)))⟩, ⟨some 16, none, .bin false .eql (.t 15) (.k (.c (.int .i64 0)))⟩, ⟨some 17, none, .ia (.t 12) (.t 13) 3⟩, ⟨some 18, none, .fa (.t 17) 0⟩, ⟨none, none, .st (.t 18) (.t 16) none⟩] none [0, 1, 5]) (.seq (.reg [⟨some 19, none, .mv (.t 1)⟩, ⟨some 20, none, .bin false .add (.t 19) (.k (.c (.int .i64 1)))⟩, ⟨some 1, none, .mv (.t 20)⟩] none [0, 1, 5]) (.seq (.reg [⟨some 21, none, .mv (.t 0)⟩, ⟨some 22, none, .mv (.t 5)⟩, ⟨some 23, none, .mv (.t 1)⟩, ⟨some 24, none, .call 34 [(.t 23)]⟩, ⟨some 25, none, .ia (.t 21) (.t 22) 3⟩, ⟨some 26, none, .fa (.t 25) 1⟩, ⟨none, none, .st (.t 26) (.t 24) none⟩] none [0, 1, 5]) (.seq (.reg [⟨some 27, none, .mv (.t 1)⟩, ⟨some 28, none, .bin false .add (.t 27) (.k (.c (.int .i64 1)))⟩, ⟨some 1, none, .mv (.t 28)⟩] none [0, 1, 5]) (.seq (.reg [⟨some 29, none, .mv (.t 0)⟩, ⟨some 30, none, .mv (.t 5)⟩, ⟨some 31, none, .mv (.t 1)⟩, ⟨some 32, none, .ia (.t 29) (.t 30) 3⟩, ⟨some 33, none, .fa (.t 32) 2⟩, ⟨none, none, .st (.t 33) (.t 31) none⟩] none [0, 1, 5]) (.reg [⟨some 34, none, .mv (.t 1)⟩, ⟨some 35, none, .bin false .add (.t 34) (.k (.c (.int .i64 1)))⟩, ⟨some 1, none, .mv (.t 35)⟩] none [0, 1, 5]))))))) (.reg [⟨some 10, none, .mv (.t 5)⟩, ⟨some 11, none, .bin false .add (.t 10) (.k (.c (.int .i64 1)))⟩, ⟨some 5, none, .mv (.t 11)⟩] none [0, 1, 5])))))) (.seq (.reg [⟨some 36, none, .mv (.t 1)⟩, ⟨some 4, none, .mv (.t 36)⟩] none [4]) .ret)))
theorem chk_markStepS : chkX Go.Proofs.Try.prog 37 (Go.Proofs.Try.f13.body.getD .skip) x_markStepS = true := by kernel_rfl
theorem rs_markStepS : okRs Go.Proofs.Try.prog Go.Proofs.Try.f13.results.toList [.tmp 4] = true := by kernel_rfl
theorem call_markStepS : okCallee Go.Proofs.Try.prog 13 = true := by kernel_rfl
noncomputable def spSzStp  : Spec := Spec.of (ι := Stp × Int) [false, false] (fun i => [.d (.agg i.1.enc), .d (.one (.int .i64 i.2))]) (fun i => stpFit i.1 ∧ 0 ≤ i.2 ∧ i.2 ≤ 1048576) (fun i => [.d (.one (.int .i64 (if i.2 - i.1.key.size < 0 then -1 else i.2 - i.1.key.size)))]) (fun _ => [.gone, .gone])
theorem spSzStp_inj : ∀ i j : Stp × Int, (fun (i : Stp × Int) => ([.d (.agg i.1.enc), .d (.one (.int .i64 i.2))] : List AV)) i = (fun (i : Stp × Int) => ([.d (.agg i.1.enc), .d (.one (.int .i64 i.2))] : List AV)) j → i = j := by
  rintro ⟨s, l⟩ ⟨s', l'⟩ h
  simp only [Prod.mk.injEq]
  simpa [strs_eq, T.enc_eq, encL_eq, F.enc_eq, encF_eq, Tk.enc_eq, encTk_eq, Gn.enc_eq, ints_eq, encS_eq, Stp.enc_eq] using h
theorem spSzStp_md  : (spSzStp).md = [false, false] := rfl
theorem spSzStp_pre  (s : Stp) (l : Int) : (spSzStp).pre [.d (.agg s.enc), .d (.one (.int .i64 l))] = (stpFit s ∧ 0 ≤ l ∧ l ≤ 1048576) := Spec.of_pre' spSzStp_inj (s, l)
theorem spSzStp_alts  : (spSzStp).alts = none := rfl
theorem spSzStp_res  (s : Stp) (l : Int) : (spSzStp).res [.d (.agg s.enc), .d (.one (.int .i64 l))] = [.d (.one (.int .i64 (if l - s.key.size < 0 then -1 else l - s.key.size)))] := Spec.of_res spSzStp_inj (s, l)
theorem spSzStp_out  (s : Stp) (l : Int) : (spSzStp).out [.d (.agg s.enc), .d (.one (.int .i64 l))] = [.gone, .gone] := Spec.of_out spSzStp_inj (s, l)
theorem szStp_sound : Sound Go.Proofs.Try.prog 17 spSzStp := by
  refine sound_fam GOK.nil Go.Proofs.Try.func17 (c := Go.Proofs.Try.f17.body.getD .skip) rfl (n := 13) rfl chk_szStep rs_szStep (fun _ => by simp) ?_ ?_
  · exact spSzStp_inj
  · rintro ⟨⟨m, key, a⟩, l⟩ ⟨⟨h1, h2, h3⟩, h4, h5⟩
    simp only at h1 h2 h3 h4 h5
    by_cases c : l - key.size < 0
    · have c' := eq_true c
      simp only [x_szStep, rg, go_sem, seval, Prod.fst, Stp.enc, c', if_true]
      repeat' (first | with_reducible assumption | with_reducible refine And.intro ?_ ?_ | intro _)
      all_goals first | omega | skip
    · have c' := eq_false c
      simp only [x_szStep, rg, go_sem, seval, Prod.fst, Stp.enc, c', if_false]
      repeat' (first | with_reducible assumption | with_reducible refine And.intro ?_ ?_ | intro _)
      all_goals first | omega | skip
noncomputable def spSzStpS  : Spec := Spec.of (ι := (List Stp) × Int) [false, false] (fun i => [.d (.one (.row 3 (encS i.1))), .d (.one (.int .i64 i.2))]) (fun i => wayFit i.1 ∧ 0 ≤ i.2 ∧ i.2 ≤ 1048576) (fun i => [.d (.one (.int .i64 (szStpS i.1 i.2)))]) (fun _ => [.gone, .gone])
theorem spSzStpS_inj : ∀ i j : (List Stp) × Int, (fun (i : (List Stp) × Int) => ([.d (.one (.row 3 (encS i.1))), .d (.one (.int .i64 i.2))] : List AV)) i = (fun (i : (List Stp) × Int) => ([.d (.one (.row 3 (encS i.1))), .d (.one (.int .i64 i.2))] : List AV)) j → i = j := by
  rintro ⟨p, l⟩ ⟨p', l'⟩ h
  simp only [Prod.mk.injEq]
  simpa [strs_eq, T.enc_eq, encL_eq, F.enc_eq, encF_eq, Tk.enc_eq, encTk_eq, Gn.enc_eq, ints_eq, encS_eq, Stp.enc_eq] using h
theorem spSzStpS_md  : (spSzStpS).md = [false, false] := rfl
theorem spSzStpS_pre  (p : List Stp) (l : Int) : (spSzStpS).pre [.d (.one (.row 3 (encS p))), .d (.one (.int .i64 l))] = (wayFit p ∧ 0 ≤ l ∧ l ≤ 1048576) := Spec.of_pre' spSzStpS_inj (p, l)
theorem spSzStpS_alts  : (spSzStpS).alts = none := rfl
theorem spSzStpS_res  (p : List Stp) (l : Int) : (spSzStpS).res [.d (.one (.row 3 (encS p))), .d (.one (.int .i64 l))] = [.d (.one (.int .i64 (szStpS p l)))] := Spec.of_res spSzStpS_inj (p, l)
theorem spSzStpS_out  (p : List Stp) (l : Int) : (spSzStpS).out [.d (.one (.row 3 (encS p))), .d (.one (.int .i64 l))] = [.gone, .gone] := Spec.of_out spSzStpS_inj (p, l)
theorem szStpS_sound : Sound Go.Proofs.Try.prog 5 spSzStpS := by
  refine sound_fam (GOK.cons call_szStep szStp_sound GOK.nil) Go.Proofs.Try.func5 (c := Go.Proofs.Try.f5.body.getD .skip) rfl (n := 27) rfl chk_szStepS rs_szStepS (fun _ => by simp) ?_ ?_
  · exact spSzStpS_inj
  · rintro ⟨p, left⟩ ⟨h1, h2, h3⟩
    have h1' := h1.1
    simp only at h1' h2 h3
    by_cases c : left - p.length < 0
    · have c' := eq_true c
      have e : szStpS p left = -1 := by unfold szStpS szStrS; rw [List.length_map, if_pos c]
      simp only [x_szStepS, rg, go_sem, seval, Prod.fst, c', e, encS_len]
      repeat' (first | with_reducible assumption | with_reducible refine And.intro ?_ ?_ | intro _)
      all_goals first | omega | skip
    · have c' := eq_false c
      have e : szStpS p left = szStr (p.map Stp.key) (left - p.length) := by unfold szStpS szStrS; rw [List.length_map, if_neg c]
      simp only [x_szStepS, rg, go_sem, seval, Prod.fst, c', e, encS_len]
      repeat' (first | with_reducible assumption | with_reducible refine And.intro ?_ ?_ | intro _)
      all_goals first | omega | skip
      refine pw_loop (ι := Nat × Int) (fun i => p.length - i.1) (fun i => i.1 ≤ p.length ∧ 0 ≤ i.2 ∧ i.2 ≤ left ∧ szStr ((p.drop i.1).map Stp.key) i.2 = szStr (p.map Stp.key) (left - p.length))
        (fun i => ⟨[(0, .q (.c (.row 3 (encS p)))), (1, .q (.c (.int .i64 i.2))), (5, .q (.c (.int .i64 i.1)))], [], []⟩) (0, left - p.length) ⟨by omega, by omega, by omega, rfl⟩ (Le.refl _) ?_
      rintro ⟨i, l⟩ ⟨hi, hl0, hl, heq⟩
      simp only at hi hl0 hl heq
      rcases Nat.lt_or_ge i p.length with hlt | hge
      · obtain ⟨s, hs, hdr, hmem⟩ := drop_at hlt
        have a1 := encS_at hs
        have f1 := wayFit_at h1 hs
        have l3 := Stp.len3 s
        have h7 : ((i : Int) < (p.length : Int)) = True := by simp; omega
        rw [hdr] at heq
        simp only [List.map_cons, szStr] at heq
        by_cases d : l - s.key.size < 0
        · have d' := eq_true d
          rw [if_pos d] at heq
          simp only [rg, go_sem, seval, Prod.fst, a1, h7, d', l3, encS_len, if_true, spSzStp_md, spSzStp_pre, spSzStp_alts, spSzStp_res, spSzStp_out]
          repeat' (first | with_reducible assumption | with_reducible refine And.intro ?_ ?_ | intro _)
          all_goals first | omega | assumption | skip
        · have d' := eq_false d
          rw [if_neg d] at heq
          simp only [rg, go_sem, seval, Prod.fst, a1, h7, d', l3, encS_len, if_false, spSzStp_md, spSzStp_pre, spSzStp_alts, spSzStp_res, spSzStp_out]
          repeat' (first | with_reducible assumption | with_reducible refine And.intro ?_ ?_ | intro _)
          all_goals first | omega | assumption | skip
          exact ⟨(i + 1, l - s.key.size), ⟨by simp only; omega, by simp only; omega, by simp only; omega, heq⟩, by simp only; omega, Le.refl _⟩
      · have h7 : ((i : Int) < (p.length : Int)) = False := by simp; omega
        rw [List.drop_eq_nil_of_le hge] at heq
        simp only [List.map_nil, szStr] at heq
        simp only [rg, go_sem, seval, Prod.fst, h7, encS_len]
        repeat' (first | with_reducible assumption | with_reducible refine And.intro ?_ ?_ | intro _)
        all_goals first | omega | exact heq.symm | skip
noncomputable def spToStp  : Spec := Spec.of (ι := Stp) [false] (fun i => [.d (.agg i.enc)]) (fun _ => True) (fun i => [.d (.agg i.enc)]) (fun _ => [.gone])
theorem spToStp_inj : ∀ i j : Stp, (fun (i : Stp) => ([.d (.agg i.enc)] : List AV)) i = (fun (i : Stp) => ([.d (.agg i.enc)] : List AV)) j → i = j := by
  intro s s' h
  simpa [strs_eq, T.enc_eq, encL_eq, F.enc_eq, encF_eq, Tk.enc_eq, encTk_eq, Gn.enc_eq, ints_eq, encS_eq, Stp.enc_eq] using h
theorem spToStp_md  : (spToStp).md = [false] := rfl
theorem spToStp_pre  (s : Stp) : (spToStp).pre [.d (.agg s.enc)] = (True) := Spec.of_pre' spToStp_inj s
theorem spToStp_alts  : (spToStp).alts = none := rfl
theorem spToStp_res  (s : Stp) : (spToStp).res [.d (.agg s.enc)] = [.d (.agg s.enc)] := Spec.of_res spToStp_inj s
theorem spToStp_out  (s : Stp) : (spToStp).out [.d (.agg s.enc)] = [.gone] := Spec.of_out spToStp_inj s
theorem toStp_sound : Sound Go.Proofs.Try.prog 24 spToStp := by
  refine sound_fam GOK.nil Go.Proofs.Try.func24 (c := Go.Proofs.Try.f24.body.getD .skip) rfl (n := 14) rfl chk_toStep rs_toStep (fun _ => by simp) ?_ ?_
  · exact spToStp_inj
  · rintro ⟨m, key, a⟩ _
    simp only [x_toStep, rg, go_sem, seval, Prod.fst, Stp.enc]
    repeat' (first | with_reducible assumption | with_reducible refine And.intro ?_ ?_ | intro _)
    all_goals first | omega | skip
noncomputable def spToStpS  : Spec := Spec.of (ι := (List Stp)) [false] (fun i => [.d (.one (.row 3 (encS i)))]) (fun i => lenB 1048576 i.length) (fun i => [.own 3 (encS i)]) (fun _ => [.gone])
theorem spToStpS_inj : ∀ i j : (List Stp), (fun (i : (List Stp)) => ([.d (.one (.row 3 (encS i)))] : List AV)) i = (fun (i : (List Stp)) => ([.d (.one (.row 3 (encS i)))] : List AV)) j → i = j := by
  intro p p' h
  simpa [strs_eq, T.enc_eq, encL_eq, F.enc_eq, encF_eq, Tk.enc_eq, encTk_eq, Gn.enc_eq, ints_eq, encS_eq, Stp.enc_eq] using h
theorem spToStpS_md  : (spToStpS).md = [false] := rfl
theorem spToStpS_pre  (p : List Stp) : (spToStpS).pre [.d (.one (.row 3 (encS p)))] = (lenB 1048576 p.length) := Spec.of_pre' spToStpS_inj p
theorem spToStpS_alts  : (spToStpS).alts = none := rfl
theorem spToStpS_res  (p : List Stp) : (spToStpS).res [.d (.one (.row 3 (encS p)))] = [.own 3 (encS p)] := Spec.of_res spToStpS_inj p
theorem spToStpS_out  (p : List Stp) : (spToStpS).out [.d (.one (.row 3 (encS p)))] = [.gone] := Spec.of_out spToStpS_inj p
theorem toStpS_sound : Sound Go.Proofs.Try.prog 8 spToStpS := by
  refine sound_fam (GOK.cons call_toStep toStp_sound GOK.nil) Go.Proofs.Try.func8 (c := Go.Proofs.Try.f8.body.getD .skip) rfl (n := 23) rfl chk_toStepS rs_toStepS (fun _ => by simp) ?_ ?_
  · exact spToStpS_inj
  · intro p h1
    simp only [lenB] at h1
    simp only [x_toStepS, rg, go_sem, seval, Prod.fst, encS_len]
    repeat' (first | with_reducible assumption | with_reducible refine And.intro ?_ ?_ | intro _)
    all_goals first | omega | skip
    have hl : (encS p).length = (List.replicate p.length [C.bool false, C.str ⟨#[]⟩, C.int .i64 0]).length := by simp [encS_len]
    refine pw_loop (ι := Nat) (fun i => p.length - i) (fun i => i ≤ p.length)
      (fun i => ⟨[(0, .q (.c (.row 3 (encS p)))), (3, .q (.own 7)), (4, .q (.c (.int .i64 i)))], [], [(7, 3, (encS p).take i ++ (List.replicate p.length [C.bool false, C.str ⟨#[]⟩, C.int .i64 0]).drop i)]⟩) 0 (Nat.zero_le _) (Le.refl _) ?_
    intro i hi
    rcases Nat.lt_or_ge i p.length with hlt | hge
    · obtain ⟨s, hs, hdr, hmem⟩ := drop_at hlt
      have a1 := encS_at hs
      have a2 : ((i : Int) < (p.length : Int)) = True := by simp; omega
      have a3 : ((encS p).take i ++ (List.replicate p.length [C.bool false, C.str ⟨#[]⟩, C.int .i64 0]).drop i).length = p.length := by rw [fill_len hl]; simp
      have a4 : ((encS p).take i ++ (List.replicate p.length [C.bool false, C.str ⟨#[]⟩, C.int .i64 0]).drop i).getD i [] = [C.bool false, C.str ⟨#[]⟩, C.int .i64 0] := by rw [fill_get hl (by rw [encS_len]; exact hlt), getD_rep hlt]
      have a5 : ((encS p).take i ++ (List.replicate p.length [C.bool false, C.str ⟨#[]⟩, C.int .i64 0]).drop i).set i s.enc = (encS p).take (i + 1) ++ (List.replicate p.length [C.bool false, C.str ⟨#[]⟩, C.int .i64 0]).drop (i + 1) := fill_set hl (by simp [encS, hs])
      obtain ⟨m, key, a⟩ := s
      have p1 := spToStp_pre ⟨m, key, a⟩
      have p2 := spToStp_res ⟨m, key, a⟩
      have p3 := spToStp_out ⟨m, key, a⟩
      simp only [Stp.enc] at a1 a5 p1 p2 p3
      simp only [go_sem, seval, Prod.fst, rg, a1, a2, a3, a4, a5, p1, p2, p3, encS_len, spToStp_md, spToStp_alts]
      repeat' (first | with_reducible assumption | with_reducible refine And.intro ?_ ?_ | intro _)
      all_goals first | omega | skip
      exact ⟨i + 1, by omega, by omega, Le.refl _⟩
    · have a2 : ((i : Int) < (p.length : Int)) = False := by simp; omega
      have hie : i = (encS p).length := by rw [encS_len]; omega
      have a3 : (encS p).take i ++ (List.replicate p.length [C.bool false, C.str ⟨#[]⟩, C.int .i64 0]).drop i = encS p := by rw [hie]; exact fill_all hl
      simp only [go_sem, seval, rg, Prod.fst, a2, a3, encS_len]
noncomputable def spEqStp  : Spec := Spec.of (ι := Stp × Stp) [false, false] (fun i => [.d (.agg i.1.enc), .d (.agg i.2.enc)]) (fun _ => True) (fun i => [.d (.one (.bool (decide (i.1 = i.2))))]) (fun _ => [.gone, .gone])
theorem spEqStp_inj : ∀ i j : Stp × Stp, (fun (i : Stp × Stp) => ([.d (.agg i.1.enc), .d (.agg i.2.enc)] : List AV)) i = (fun (i : Stp × Stp) => ([.d (.agg i.1.enc), .d (.agg i.2.enc)] : List AV)) j → i = j := by
  rintro ⟨a, b⟩ ⟨a', b'⟩ h
  simp only [Prod.mk.injEq]
  simpa [strs_eq, T.enc_eq, encL_eq, F.enc_eq, encF_eq, Tk.enc_eq, encTk_eq, Gn.enc_eq, ints_eq, encS_eq, Stp.enc_eq] using h
theorem spEqStp_md  : (spEqStp).md = [false, false] := rfl
theorem spEqStp_pre  (a : Stp) (b : Stp) : (spEqStp).pre [.d (.agg a.enc), .d (.agg b.enc)] = (True) := Spec.of_pre' spEqStp_inj (a, b)
theorem spEqStp_alts  : (spEqStp).alts = none := rfl
theorem spEqStp_res  (a : Stp) (b : Stp) : (spEqStp).res [.d (.agg a.enc), .d (.agg b.enc)] = [.d (.one (.bool (decide (a = b))))] := Spec.of_res spEqStp_inj (a, b)
theorem spEqStp_out  (a : Stp) (b : Stp) : (spEqStp).out [.d (.agg a.enc), .d (.agg b.enc)] = [.gone, .gone] := Spec.of_out spEqStp_inj (a, b)
theorem eqStp_sound : Sound Go.Proofs.Try.prog 31 spEqStp := by
  refine sound_fam GOK.nil Go.Proofs.Try.func31 (c := Go.Proofs.Try.f31.body.getD .skip) rfl (n := 20) rfl chk_eqStep rs_eqStep (fun _ => by simp) ?_ ?_
  · exact spEqStp_inj
  · rintro ⟨⟨m, key, a⟩, ⟨m', key', a'⟩⟩ _
    by_cases c1 : m = m'
    · subst c1
      by_cases c2 : key = key'
      · subst c2
        by_cases c3 : a = a'
        · subst c3
          cases m <;> simp only [x_eqStep, rg, go_sem, seval, Prod.fst, Stp.enc, decide_true, not_true_eq_false]
        · have c3' := eq_false c3
          have e : ((⟨m, key, a⟩ : Stp) = ⟨m, key, a'⟩) = False := eq_false (fun h => c3 (Stp.mk.inj h).2.2)
          cases m <;> simp only [x_eqStep, rg, go_sem, seval, Prod.fst, Stp.enc, c3', e, not_false_eq_true, not_true_eq_false]
      · have c2' := eq_false c2
        have e : ((⟨m, key, a⟩ : Stp) = ⟨m, key', a'⟩) = False := eq_false (fun h => c2 (Stp.mk.inj h).2.1)
        cases m <;> simp only [x_eqStep, rg, go_sem, seval, Prod.fst, Stp.enc, c2', e, not_false_eq_true, not_true_eq_false]
    · have e : ((⟨m, key, a⟩ : Stp) = ⟨m', key', a'⟩) = False := eq_false (fun h => c1 (Stp.mk.inj h).1)
      cases m <;> cases m' <;> first | exact absurd rfl c1 | simp only [x_eqStep, rg, go_sem, seval, Prod.fst, Stp.enc, e, show (false != true) = true from rfl, show (true != false) = true from rfl]
noncomputable def spEqStpS  : Spec := Spec.of (ι := (List Stp) × (List Stp)) [false, false] (fun i => [.d (.one (.row 3 (encS i.1))), .d (.one (.row 3 (encS i.2)))]) (fun i => lenB 1048576 i.1.length ∧ lenB 1048576 i.2.length) (fun i => [.d (.one (.bool (decide (i.1 = i.2))))]) (fun _ => [.gone, .gone])
theorem spEqStpS_inj : ∀ i j : (List Stp) × (List Stp), (fun (i : (List Stp) × (List Stp)) => ([.d (.one (.row 3 (encS i.1))), .d (.one (.row 3 (encS i.2)))] : List AV)) i = (fun (i : (List Stp) × (List Stp)) => ([.d (.one (.row 3 (encS i.1))), .d (.one (.row 3 (encS i.2)))] : List AV)) j → i = j := by
  rintro ⟨a, b⟩ ⟨a', b'⟩ h
  simp only [Prod.mk.injEq]
  simpa [strs_eq, T.enc_eq, encL_eq, F.enc_eq, encF_eq, Tk.enc_eq, encTk_eq, Gn.enc_eq, ints_eq, encS_eq, Stp.enc_eq] using h
theorem spEqStpS_md  : (spEqStpS).md = [false, false] := rfl
theorem spEqStpS_pre  (a : List Stp) (b : List Stp) : (spEqStpS).pre [.d (.one (.row 3 (encS a))), .d (.one (.row 3 (encS b)))] = (lenB 1048576 a.length ∧ lenB 1048576 b.length) := Spec.of_pre' spEqStpS_inj (a, b)
theorem spEqStpS_alts  : (spEqStpS).alts = none := rfl
theorem spEqStpS_res  (a : List Stp) (b : List Stp) : (spEqStpS).res [.d (.one (.row 3 (encS a))), .d (.one (.row 3 (encS b)))] = [.d (.one (.bool (decide (a = b))))] := Spec.of_res spEqStpS_inj (a, b)
theorem spEqStpS_out  (a : List Stp) (b : List Stp) : (spEqStpS).out [.d (.one (.row 3 (encS a))), .d (.one (.row 3 (encS b)))] = [.gone, .gone] := Spec.of_out spEqStpS_inj (a, b)
theorem eqStpS_sound : Sound Go.Proofs.Try.prog 11 spEqStpS := by
  refine sound_fam (GOK.cons call_eqStep eqStp_sound GOK.nil) Go.Proofs.Try.func11 (c := Go.Proofs.Try.f11.body.getD .skip) rfl (n := 27) rfl chk_eqStepS rs_eqStepS (fun _ => by simp) ?_ ?_
  · exact spEqStpS_inj
  · rintro ⟨a, b⟩ ⟨h1, h2⟩
    simp only [lenB] at h1 h2
    by_cases hl : a.length = b.length
    · have b1 : ((a.length : Int) = (b.length : Int)) = True := by simp [hl]
      simp only [x_eqStepS, rg, go_sem, seval, Prod.fst, b1, encS_len, not_true_eq_false]
      refine pw_loop (ι := Nat) (fun i => a.length - i) (fun i => i ≤ a.length ∧ a.take i = b.take i)
        (fun i => ⟨[(0, .q (.c (.row 3 (encS a)))), (1, .q (.c (.row 3 (encS b)))), (5, .q (.c (.int .i64 i)))], [], []⟩) 0 ⟨Nat.zero_le _, rfl⟩ (Le.refl _) ?_
      rintro i ⟨hi, heq⟩
      rcases Nat.lt_or_ge i a.length with hlt | hge
      · obtain ⟨s, hs, _, hmem⟩ := drop_at hlt
        obtain ⟨s', hs', _, hmem'⟩ := drop_at (l := b) (i := i) (by omega)
        have a1 := encS_at hs
        have a1' := encS_at hs'
        have a2 : ((i : Int) < (a.length : Int)) = True := by simp; omega
        have a3 : ((i : Int) < (b.length : Int)) = True := by simp; omega
        have l3 := Stp.len3 s
        have l3' := Stp.len3 s'
        by_cases hc : s = s'
        · have c1 : (s = s') = True := by simp [hc]
          simp only [go_sem, seval, Prod.fst, rg, a1, a1', a2, a3, c1, l3, l3', encS_len, not_true_eq_false, spEqStp_md, spEqStp_pre, spEqStp_alts, spEqStp_res, spEqStp_out]
          repeat' (first | with_reducible assumption | with_reducible refine And.intro ?_ ?_ | intro _)
          all_goals first | omega | skip
          exact ⟨i + 1, ⟨by omega, take_at hs (hc ▸ hs') heq⟩, by omega, Le.refl _⟩
        · have c1 : (s = s') = False := by simp [hc]
          simp only [go_sem, seval, Prod.fst, rg, a1, a1', a2, a3, c1, l3, l3', encS_len, not_false_eq_true, spEqStp_md, spEqStp_pre, spEqStp_alts, spEqStp_res, spEqStp_out]
          repeat' (first | with_reducible assumption | with_reducible refine And.intro ?_ ?_ | intro _)
          all_goals first | omega | skip
          all_goals (rename_i h; exact ne_at hs hs' hc h)
      · have a2 : ((i : Int) < (a.length : Int)) = False := by simp; omega
        have hie : i = a.length := by omega
        subst hie
        simp only [go_sem, seval, Prod.fst, rg, a2, encS_len]
        exact take_all hl heq
    · have b1 : ((a.length : Int) = (b.length : Int)) = False := by simp; omega
      simp only [x_eqStepS, rg, go_sem, seval, Prod.fst, b1, encS_len, not_false_eq_true]
      exact fun e => hl (by rw [e])
noncomputable def spMkP  : Spec := Spec.of (ι := (List Stp) × Int) [true, false] (fun i => [.own 3 (encS i.1), .d (.one (.int .i64 i.2))]) (fun i => lenB 140737488355328 i.1.length ∧ 0 ≤ i.2 ∧ i.2 + 3 * i.1.length ≤ 4611686018427387904) (fun i => [.d (.one (.int .i64 (i.2 + 3 * i.1.length)))]) (fun i => [.own 3 (encS (mkP i.1.length i.2)), .gone])
theorem spMkP_inj : ∀ i j : (List Stp) × Int, (fun (i : (List Stp) × Int) => ([.own 3 (encS i.1), .d (.one (.int .i64 i.2))] : List AV)) i = (fun (i : (List Stp) × Int) => ([.own 3 (encS i.1), .d (.one (.int .i64 i.2))] : List AV)) j → i = j := by
  rintro ⟨p, k⟩ ⟨p', k'⟩ h
  simp only [Prod.mk.injEq]
  simpa [strs_eq, T.enc_eq, encL_eq, F.enc_eq, encF_eq, Tk.enc_eq, encTk_eq, Gn.enc_eq, ints_eq, encS_eq, Stp.enc_eq] using h
theorem spMkP_md  : (spMkP).md = [true, false] := rfl
theorem spMkP_pre  (p : List Stp) (k : Int) : (spMkP).pre [.own 3 (encS p), .d (.one (.int .i64 k))] = (lenB 140737488355328 p.length ∧ 0 ≤ k ∧ k + 3 * p.length ≤ 4611686018427387904) := Spec.of_pre' spMkP_inj (p, k)
theorem spMkP_alts  : (spMkP).alts = none := rfl
theorem spMkP_res  (p : List Stp) (k : Int) : (spMkP).res [.own 3 (encS p), .d (.one (.int .i64 k))] = [.d (.one (.int .i64 (k + 3 * p.length)))] := Spec.of_res spMkP_inj (p, k)
theorem spMkP_out  (p : List Stp) (k : Int) : (spMkP).out [.own 3 (encS p), .d (.one (.int .i64 k))] = [.own 3 (encS (mkP p.length k)), .gone] := Spec.of_out spMkP_inj (p, k)
theorem mkP_sound : Sound Go.Proofs.Try.prog 13 spMkP := by
  refine sound_fam (GOK.cons call_markText mkS_sound GOK.nil) Go.Proofs.Try.func13 (c := Go.Proofs.Try.f13.body.getD .skip) rfl (n := 37) rfl chk_markStepS rs_markStepS (fun _ => by simp) ?_ ?_
  · exact spMkP_inj
  · rintro ⟨p, k0⟩ ⟨h1, h2, h3⟩
    simp only [lenB] at h1 h2 h3
    simp only [x_markStepS, rg, go_sem, seval, Prod.fst, encS_len]
    refine pw_loop (ι := Nat) (fun i => p.length - i) (fun i => i ≤ p.length)
      (fun i => ⟨[(0, .q (.own 1000000037)), (1, .q (.c (.int .i64 (k0 + 3 * i)))), (5, .q (.c (.int .i64 i)))], [], [(1000000037, 3, encS (mkP i k0) ++ encS (p.drop i))]⟩) 0 (Nat.zero_le _) (Le.of_eq (by simp [mkP, encS])) ?_
    intro i hi
    rcases Nat.lt_or_ge i p.length with hlt | hge
    · obtain ⟨s, hs, hdr, hmem⟩ := drop_at hlt
      obtain ⟨m, key, a⟩ := s
      have a2 : ((i : Int) < (p.length : Int)) = True := by simp; omega
      have a3 : (encS (mkP i k0)).length = i := by rw [encS_len, mkP_len]
      have a4 := fun (y : List C) => show (encS (mkP i k0) ++ y :: encS (p.drop (i + 1))).length = p.length from by rw [List.length_append, a3, List.length_cons, encS_len]; simp; omega
      have a5 := fun x y => set_mid (x := x) (y := y) (r := encS (p.drop (i + 1))) a3
      have a6 := fun x => get_mid (x := x) (d := []) (r := encS (p.drop (i + 1))) a3
      have ec : encS (⟨m, key, a⟩ :: p.drop (i + 1)) = [C.bool m, .str key, .int .i64 a] :: encS (p.drop (i + 1)) := rfl
      simp only [hdr, ec, rg, go_sem, seval, Prod.fst, a2, a4, a5, a6, spMkS_md, spMkS_pre, spMkS_alts, spMkS_res, spMkS_out]
      repeat' (first | with_reducible assumption | with_reducible refine And.intro ?_ ?_ | intro _)
      all_goals first | omega | assumption | skip
      all_goals exact ⟨i + 1, by omega, by omega, Le.of_eq (by simp [mkP, encS, Stp.enc, mkStp]; omega)⟩
    · have a2 : ((i : Int) < (p.length : Int)) = False := by simp; omega
      obtain rfl : i = p.length := by omega
      have a4 : (encS (mkP p.length k0)).length = p.length := by rw [encS_len, mkP_len]
      have a5 : encS (p.drop p.length) = [] := by rw [List.drop_length]; rfl
      simp only [rg, go_sem, seval, Prod.fst, a2, a4, a5, List.append_nil]
end Go.Proofs.Pw
