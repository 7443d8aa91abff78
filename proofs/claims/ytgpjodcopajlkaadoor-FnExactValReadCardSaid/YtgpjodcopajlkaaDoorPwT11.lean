/- Marks: the functions that write them, and that look for them. -/
import Derived.Test.YtgpjodcopajlkaaDoorPwT10
import Derived.Test.YtgpjodcopajlkaaDoorProg
import Derived.KernelRfl
set_option linter.unusedSimpArgs false
set_option linter.unusedVariables false
set_option linter.unusedSectionVars false
set_option maxRecDepth 20000
namespace Go.Proofs.Pw
attribute [go_sem] flatP flatS flatC bytesL callM agPts agOwn agPut Q.killL finAg agFin initAg List.mem_singleton List.mem_cons List.not_mem_nil List.set_cons_succ List.set_cons_zero
variable [Globs]
def x_markText : X := (.seq (.reg [⟨some 2, none, .mv (.k (.c (.str ⟨#[]⟩)))⟩] none [0]) (.seq (.seq (.reg [⟨some 4, none, .mv (.t 0)⟩, ⟨some 5, none, .bin false .leq (.t 4) (.k (.c (.int .i64 0)))⟩] none [0, 5]) (.cond (.t 5) (.seq (.reg [⟨some 2, none, .mv (.k (.c (.str ⟨#[109, 48]⟩)))⟩] none [2]) .ret) .skip)) (.seq (.reg [⟨some 3, none, .mv (.k (.c (.str ⟨#[]⟩)))⟩] none [0, 3]) (.seq (.block 0 (.loop (.seq (.seq (.reg [⟨some 6, none, .mv (.t 0)⟩, ⟨some 7, none, .bin false .gtr (.t 6) (.k (.c (.int .i64 0)))⟩] none [0, 3, 7]) (.cond (.t 7) .skip (.exit 0))) (.block 1 (.seq (.reg [⟨some 8, none, .mv (.t 0)⟩, ⟨some 9, none, .bin false .rem (.t 8) (.k (.c (.int .i64 10)))⟩, ⟨some 10, none, .bin false .add (.k (.c (.int .i64 48))) (.t 9)⟩, ⟨some 11, none, .conv .u8 (.t 10)⟩, ⟨some 12, none, .bsl 1 [((.t 11), none)]⟩, ⟨some 13, none, .bts (.t 12)⟩, ⟨some 14, none, .mv (.t 3)⟩, ⟨some 15, none, .bin false .add (.t 13) (.t 14)⟩, ⟨some 3, none, .mv (.t 15)⟩] none [0, 3]) (.reg [⟨some 16, none, .mv (.t 0)⟩, ⟨some 17, none, .bin false .quo (.t 16) (.k (.c (.int .i64 10)))⟩, ⟨some 0, none, .mv (.t 17)⟩] none [0, 3])))))) (.seq (.reg [⟨some 18, none, .mv (.t 3)⟩, ⟨some 19, none, .bin false .add (.k (.c (.str ⟨#[109]⟩))) (.t 18)⟩, ⟨some 2, none, .mv (.t 19)⟩] none [2]) .ret)))))
theorem chk_markText : chkX Tryd.prog 20 (Tryd.f76.body.getD .skip) x_markText = true := by kernel_rfl
theorem rs_markText : okRs Tryd.prog Tryd.f76.results.toList [.tmp 2] = true := by kernel_rfl
theorem call_markText : okCallee Tryd.prog 76 = true := by kernel_rfl
def x_markStringS : X := (.seq (.reg [⟨some 4, none, .mv (.k (.c (.int .i64 0)))⟩] none [0, 1]) (.seq (.seq (.reg [⟨some 5, none, .mv (.k (.c (.int .i64 0)))⟩] none [0, 1, 5]) (.block 0 (.loop (.seq (.seq (.reg [⟨some 6, none, .mv (.t 5)⟩, ⟨some 7, none, .mv (.t 0)⟩, ⟨some 8, none, .len (.t 7) false⟩, ⟨some 9, none, .bin false .lss (.t 6) (.t 8)⟩] none [0, 1, 5, 9]) (.cond (.t 9) .skip (.exit 0))) (.seq (.block 1 (.seq (.reg [⟨some 12, none, .mv (.t 0)⟩, ⟨some 13, none, .mv (.t 5)⟩, ⟨some 14, none, .mv (.t 1)⟩, ⟨some 15, none, .call 76 [(.t 14)]⟩, ⟨some 16, none, .ia (.t 12) (.t 13) 1⟩, ⟨none, none, .st (.t 16) (.t 15) none⟩] none [0, 1, 5]) (.reg [⟨some 17, none, .mv (.t 1)⟩, ⟨some 18, none, .bin false .add (.t 17) (.k (.c (.int .i64 1)))⟩, ⟨some 1, none, .mv (.t 18)⟩] none [0, 1, 5]))) (.reg [⟨some 10, none, .mv (.t 5)⟩, ⟨some 11, none, .bin false .add (.t 10) (.k (.c (.int .i64 1)))⟩, ⟨some 5, none, .mv (.t 11)⟩] none [0, 1, 5])))))) (.seq (.reg [⟨some 19, none, .mv (.t 1)⟩, ⟨some 4, none, .mv (.t 19)⟩] none [4]) .ret)))
theorem chk_markStringS : chkX Tryd.prog 20 (Tryd.f44.body.getD .skip) x_markStringS = true := by kernel_rfl
theorem rs_markStringS : okRs Tryd.prog Tryd.f44.results.toList [.tmp 4] = true := by kernel_rfl
theorem call_markStringS : okCallee Tryd.prog 44 = true := by kernel_rfl
def x_markValS : X := (.seq (.reg [⟨some 4, none, .mv (.k (.c (.int .i64 0)))⟩] none [0, 1]) (.seq (.seq (.reg [⟨some 5, none, .mv (.k (.c (.int .i64 0)))⟩] none [0, 1, 5]) (.block 0 (.loop (.seq (.seq (.reg [⟨some 6, none, .mv (.t 5)⟩, ⟨some 7, none, .mv (.t 0)⟩, ⟨some 8, none, .len (.t 7) false⟩, ⟨some 9, none, .bin false .lss (.t 6) (.t 8)⟩] none [0, 1, 5, 9]) (.cond (.t 9) .skip (.exit 0))) (.seq (.block 1 (.seq (.reg [⟨some 12, none, .mv (.t 0)⟩, ⟨some 13, none, .mv (.t 5)⟩, ⟨some 14, none, .mv (.t 1)⟩, ⟨some 15, none, .ia (.t 12) (.t 13) 5⟩, ⟨some 16, none, .fa (.t 15) 0⟩, ⟨none, none, .st (.t 16) (.t 14) none⟩] none [0, 1, 5]) (.seq (.reg [⟨some 17, none, .mv (.t 1)⟩, ⟨some 18, none, .bin false .add (.t 17) (.k (.c (.int .i64 1)))⟩, ⟨some 1, none, .mv (.t 18)⟩] none [0, 1, 5]) (.seq (.reg [⟨some 19, none, .mv (.t 0)⟩, ⟨some 20, none, .mv (.t 5)⟩, ⟨some 21, none, .mv (.t 1)⟩, ⟨some 22, none, .ia (.t 19) (.t 20) 5⟩, ⟨some 23, none, .fa (.t 22) 1⟩, ⟨none, none, .st (.t 23) (.t 21) none⟩] none [0, 1, 5]) (.seq (.reg [⟨some 24, none, .mv (.t 1)⟩, ⟨some 25, none, .bin false .add (.t 24) (.k (.c (.int .i64 1)))⟩, ⟨some 1, none, .mv (.t 25)⟩] none [0, 1, 5]) (.seq (.reg [⟨some 26, none, .mv (.t 0)⟩, ⟨some 27, none, .mv (.t 5)⟩, ⟨some 28, none, .mv (.t 1)⟩, ⟨some 29, none, .call 76 [(.t 28)]⟩, ⟨some 30, none, .ia (.t 26) (.t 27) 5⟩, ⟨some 31, none, .fa (.t 30) 2⟩, ⟨none, none, .st (.t 31) (.t 29) none⟩] none [0, 1, 5]) (.seq (.reg [⟨some 32, none, .mv (.t 1)⟩, ⟨some 33, none, .bin false .add (.t 32) (.k (.c (.int .i64 1)))⟩, ⟨some 1, none, .mv (.t 33)⟩] none [0, 1, 5]) (.seq (.reg [⟨some 34, none, .mv (.t 0)⟩, ⟨some 35, none, .mv (.t 5)⟩, ⟨some 36, none, .ia (.t 34) (.t 35) 5⟩, ⟨some 37, none, .fa (.t 36) 3⟩, ⟨some 38, none, .load (.t 37) none⟩, ⟨some 39, none, .mv (.t 1)⟩, ⟨some 40, none, .callm 44 (.t 38) (.t 39)⟩, ⟨some 1, none, .mv (.t 40)⟩] none [0, 1, 5]) (.reg [⟨some 41, none, .mv (.t 0)⟩, ⟨some 42, none, .mv (.t 5)⟩, ⟨some 43, none, .ia (.t 41) (.t 42) 5⟩, ⟨some 44, none, .fa (.t 43) 4⟩, ⟨some 45, none, .load (.t 44) none⟩, ⟨some 46, none, .mv (.t 1)⟩, ⟨some 47, none, .callm 45 (.t 45) (.t 46)⟩, ⟨some 1, none, .mv (.t 47)⟩] none [0, 1, 5]))))))))) (.reg [⟨some 10, none, .mv (.t 5)⟩, ⟨some 11, none, .bin false .add (.t 10) (.k (.c (.int .i64 1)))⟩, ⟨some 5, none, .mv (.t 11)⟩] none [0, 1, 5])))))) (.seq (.reg [⟨some 48, none, .mv (.t 1)⟩, ⟨some 4, none, .mv (.t 48)⟩] none [4]) .ret)))
theorem chk_markValS : chkX Tryd.prog 49 (Tryd.f45.body.getD .skip) x_markValS = true := by kernel_rfl
theorem rs_markValS : okRs Tryd.prog Tryd.f45.results.toList [.tmp 4] = true := by kernel_rfl
theorem call_markValS : okCallee Tryd.prog 45 = true := by kernel_rfl
def x_markVal : X := (.seq (.reg [⟨some 2, none, .box (.t 0) (some 5)⟩, ⟨some 4, none, .mv (.k (.c (.int .i64 0)))⟩] none [1, 2]) (.seq (.reg [⟨some 5, none, .fa (.t 2) 3⟩, ⟨some 6, none, .load (.t 5) none⟩, ⟨some 7, none, .mv (.t 1)⟩, ⟨some 8, none, .call 44 [(.t 6), (.t 7)]⟩, ⟨some 1, none, .mv (.t 8)⟩] none [1, 2]) (.seq (.reg [⟨some 9, none, .fa (.t 2) 4⟩, ⟨some 10, none, .load (.t 9) none⟩, ⟨some 11, none, .mv (.t 1)⟩, ⟨some 12, none, .call 45 [(.t 10), (.t 11)]⟩, ⟨some 1, none, .mv (.t 12)⟩] none [1]) (.seq (.reg [⟨some 13, none, .mv (.t 1)⟩, ⟨some 4, none, .mv (.t 13)⟩] none [4]) .ret))))
theorem chk_markVal : chkX Tryd.prog 14 (Tryd.f16.body.getD .skip) x_markVal = true := by kernel_rfl
theorem rs_markVal : okRs Tryd.prog Tryd.f16.results.toList [.tmp 4] = true := by kernel_rfl
theorem call_markVal : okCallee Tryd.prog 16 = true := by kernel_rfl
def x_heldStringS : X := (.seq (.reg [⟨some 4, none, .mv (.k (.c (.int .i64 0)))⟩] none [0, 1]) (.seq (.seq (.reg [⟨some 5, none, .mv (.k (.c (.int .i64 0)))⟩] none [0, 1, 5]) (.block 0 (.loop (.seq (.seq (.reg [⟨some 6, none, .mv (.t 5)⟩, ⟨some 7, none, .mv (.t 0)⟩, ⟨some 8, none, .len (.t 7) false⟩, ⟨some 9, none, .bin false .lss (.t 6) (.t 8)⟩] none [0, 1, 5, 9]) (.cond (.t 9) .skip (.exit 0))) (.seq (.block 1 (.seq (.seq (.reg [⟨some 12, none, .mv (.t 0)⟩, ⟨some 13, none, .mv (.t 5)⟩, ⟨some 14, none, .ia (.t 12) (.t 13) 1⟩, ⟨some 15, none, .load (.t 14) none⟩, ⟨some 16, none, .mv (.t 1)⟩, ⟨some 17, none, .call 76 [(.t 16)]⟩, ⟨some 18, none, .bin false .neq (.t 15) (.t 17)⟩] (some 6) [0, 1, 5, 18]) (.cond (.t 18) (.seq (.reg [⟨some 4, none, .mv (.k (.c (.int .i64 (-1))))⟩] none [4]) .ret) .skip)) (.reg [⟨some 19, none, .mv (.t 1)⟩, ⟨some 20, none, .bin false .add (.t 19) (.k (.c (.int .i64 1)))⟩, ⟨some 1, none, .mv (.t 20)⟩] none [0, 1, 5]))) (.reg [⟨some 10, none, .mv (.t 5)⟩, ⟨some 11, none, .bin false .add (.t 10) (.k (.c (.int .i64 1)))⟩, ⟨some 5, none, .mv (.t 11)⟩] none [0, 1, 5])))))) (.seq (.reg [⟨some 21, none, .mv (.t 1)⟩, ⟨some 4, none, .mv (.t 21)⟩] none [4]) .ret)))
theorem chk_heldStringS : chkX Tryd.prog 22 (Tryd.f46.body.getD .skip) x_heldStringS = true := by kernel_rfl
theorem rs_heldStringS : okRs Tryd.prog Tryd.f46.results.toList [.tmp 4] = true := by kernel_rfl
theorem call_heldStringS : okCallee Tryd.prog 46 = true := by kernel_rfl
def x_heldValS : X := (.seq (.reg [⟨some 4, none, .mv (.k (.c (.int .i64 0)))⟩] none [0, 1]) (.seq (.seq (.reg [⟨some 5, none, .mv (.k (.c (.int .i64 0)))⟩] none [0, 1, 5]) (.block 0 (.loop (.seq (.seq (.reg [⟨some 6, none, .mv (.t 5)⟩, ⟨some 7, none, .mv (.t 0)⟩, ⟨some 8, none, .len (.t 7) false⟩, ⟨some 9, none, .bin false .lss (.t 6) (.t 8)⟩] none [0, 1, 5, 9]) (.cond (.t 9) .skip (.exit 0))) (.seq (.block 1 (.seq (.seq (.reg [⟨some 12, none, .mv (.t 0)⟩, ⟨some 13, none, .mv (.t 5)⟩, ⟨some 14, none, .ia (.t 12) (.t 13) 5⟩, ⟨some 15, none, .fa (.t 14) 0⟩, ⟨some 16, none, .load (.t 15) none⟩, ⟨some 17, none, .mv (.t 1)⟩, ⟨some 18, none, .bin false .neq (.t 16) (.t 17)⟩] none [0, 1, 5, 18]) (.cond (.t 18) (.seq (.reg [⟨some 4, none, .mv (.k (.c (.int .i64 (-1))))⟩] none [4]) .ret) .skip)) (.seq (.reg [⟨some 19, none, .mv (.t 1)⟩, ⟨some 20, none, .bin false .add (.t 19) (.k (.c (.int .i64 1)))⟩, ⟨some 1, none, .mv (.t 20)⟩] none [0, 1, 5]) (.seq (.seq (.reg [⟨some 21, none, .mv (.t 0)⟩, ⟨some 22, none, .mv (.t 5)⟩, ⟨some 23, none, .ia (.t 21) (.t 22) 5⟩, ⟨some 24, none, .fa (.t 23) 1⟩, ⟨some 25, none, .load (.t 24) none⟩, ⟨some 26, none, .mv (.t 1)⟩, ⟨some 27, none, .bin false .neq (.t 25) (.t 26)⟩] none [0, 1, 5, 27]) (.cond (.t 27) (.seq (.reg [⟨some 4, none, .mv (.k (.c (.int .i64 (-1))))⟩] none [4]) .ret) .skip)) (.seq (.reg [⟨some 28, none, .mv (.t 1)⟩, ⟨some 29, none, .bin false .add (.t 28) (.k (.c (.int .i64 1)))⟩, ⟨some 1, none, .mv (.t 29)⟩] none [0, 1, 5]) (.seq (.seq (.reg [⟨some 30, none, .mv (.t 0)⟩, ⟨some 31, none, .mv (.t 5)⟩, ⟨some 32, none, .ia (.t 30) (.t 31) 5⟩, ⟨some 33, none, .fa (.t 32) 2⟩, ⟨some 34, none, .load (.t 33) none⟩, ⟨some 35, none, .mv (.t 1)⟩, ⟨some 36, none, .call 76 [(.t 35)]⟩, ⟨some 37, none, .bin false .neq (.t 34) (.t 36)⟩] (some 7) [0, 1, 5, 37]) (.cond (.t 37) (.seq (.reg [⟨some 4, none, .mv (.k (.c (.int .i64 (-1))))⟩] none [4]) .ret) .skip)) (.seq (.reg [⟨some 38, none, .mv (.t 1)⟩, ⟨some 39, none, .bin false .add (.t 38) (.k (.c (.int .i64 1)))⟩, ⟨some 1, none, .mv (.t 39)⟩] none [0, 1, 5]) (.seq (.reg [⟨some 40, none, .mv (.t 0)⟩, ⟨some 41, none, .mv (.t 5)⟩, ⟨some 42, none, .ia (.t 40) (.t 41) 5⟩, ⟨some 43, none, .fa (.t 42) 3⟩, ⟨some 44, none, .load (.t 43) none⟩, ⟨some 45, none, .mv (.t 1)⟩, ⟨some 46, none, .call 46 [(.t 44), (.t 45)]⟩, ⟨some 1, none, .mv (.t 46)⟩] none [0, 1, 5]) (.seq (.seq (.reg [⟨some 47, none, .mv (.t 1)⟩, ⟨some 48, none, .bin false .lss (.t 47) (.k (.c (.int .i64 0)))⟩] none [0, 1, 5, 48]) (.cond (.t 48) (.seq (.reg [⟨some 4, none, .mv (.k (.c (.int .i64 (-1))))⟩] none [4]) .ret) .skip)) (.seq (.reg [⟨some 49, none, .mv (.t 0)⟩, ⟨some 50, none, .mv (.t 5)⟩, ⟨some 51, none, .ia (.t 49) (.t 50) 5⟩, ⟨some 52, none, .fa (.t 51) 4⟩, ⟨some 53, none, .load (.t 52) none⟩, ⟨some 54, none, .mv (.t 1)⟩, ⟨some 55, none, .call 47 [(.t 53), (.t 54)]⟩, ⟨some 1, none, .mv (.t 55)⟩] none [0, 1, 5]) (.seq (.reg [⟨some 56, none, .mv (.t 1)⟩, ⟨some 57, none, .bin false .lss (.t 56) (.k (.c (.int .i64 0)))⟩] none [0, 1, 5, 57]) (.cond (.t 57) (.seq (.reg [⟨some 4, none, .mv (.k (.c (.int .i64 (-1))))⟩] none [4]) .ret) .skip)))))))))))) (.reg [⟨some 10, none, .mv (.t 5)⟩, ⟨some 11, none, .bin false .add (.t 10) (.k (.c (.int .i64 1)))⟩, ⟨some 5, none, .mv (.t 11)⟩] none [0, 1, 5])))))) (.seq (.reg [⟨some 58, none, .mv (.t 1)⟩, ⟨some 4, none, .mv (.t 58)⟩] none [4]) .ret)))
theorem chk_heldValS : chkX Tryd.prog 59 (Tryd.f47.body.getD .skip) x_heldValS = true := by kernel_rfl
theorem rs_heldValS : okRs Tryd.prog Tryd.f47.results.toList [.tmp 4] = true := by kernel_rfl
theorem call_heldValS : okCallee Tryd.prog 47 = true := by kernel_rfl
def x_heldVal : X := (.seq (.reg [⟨some 2, none, .box (.t 0) (some 5)⟩, ⟨some 4, none, .mv (.k (.c (.int .i64 0)))⟩] none [1, 2]) (.seq (.reg [⟨some 5, none, .fa (.t 2) 3⟩, ⟨some 6, none, .load (.t 5) none⟩, ⟨some 7, none, .mv (.t 1)⟩, ⟨some 8, none, .call 46 [(.t 6), (.t 7)]⟩, ⟨some 1, none, .mv (.t 8)⟩] none [1, 2]) (.seq (.seq (.reg [⟨some 9, none, .mv (.t 1)⟩, ⟨some 10, none, .bin false .lss (.t 9) (.k (.c (.int .i64 0)))⟩] none [1, 2, 10]) (.cond (.t 10) (.seq (.reg [⟨some 4, none, .mv (.k (.c (.int .i64 (-1))))⟩] none [4]) .ret) .skip)) (.seq (.reg [⟨some 11, none, .fa (.t 2) 4⟩, ⟨some 12, none, .load (.t 11) none⟩, ⟨some 13, none, .mv (.t 1)⟩, ⟨some 14, none, .call 47 [(.t 12), (.t 13)]⟩, ⟨some 1, none, .mv (.t 14)⟩] none [1]) (.seq (.seq (.reg [⟨some 15, none, .mv (.t 1)⟩, ⟨some 16, none, .bin false .lss (.t 15) (.k (.c (.int .i64 0)))⟩] none [1, 16]) (.cond (.t 16) (.seq (.reg [⟨some 4, none, .mv (.k (.c (.int .i64 (-1))))⟩] none [4]) .ret) .skip)) (.seq (.reg [⟨some 17, none, .mv (.t 1)⟩, ⟨some 4, none, .mv (.t 17)⟩] none [4]) .ret))))))
theorem chk_heldVal : chkX Tryd.prog 18 (Tryd.f17.body.getD .skip) x_heldVal = true := by kernel_rfl
theorem rs_heldVal : okRs Tryd.prog Tryd.f17.results.toList [.tmp 4] = true := by kernel_rfl
theorem call_heldVal : okCallee Tryd.prog 17 = true := by kernel_rfl
noncomputable def spMkS  : Spec := Spec.of (ι := Int) [false] (fun i => [.d (.one (.int .i64 i))]) (fun i => i <= 4611686018427387904 /\ -4611686018427387904 <= i) (fun i => [.d (.one (.str (mkS i)))]) (fun _ => [.gone])
theorem spMkS_inj : ∀ i j : Int, (fun (i : Int) => ([.d (.one (.int .i64 i))] : List AV)) i = (fun (i : Int) => ([.d (.one (.int .i64 i))] : List AV)) j -> i = j := by
 intro k k' h
 simpa [strs_eq, T.enc_eq, encL_eq, F.enc_eq, encF_eq, Tk.enc_eq, encTk_eq, Gn.enc_eq, ints_eq, encLX_eq, agX_eq] using h
theorem spMkS_md  : (spMkS).md = [false] := rfl
theorem spMkS_pre  (k : Int) : (spMkS).pre [.d (.one (.int .i64 k))] = (k <= 4611686018427387904 /\ -4611686018427387904 <= k) := Spec.of_pre' spMkS_inj k
theorem spMkS_alts  : (spMkS).alts = none := rfl
theorem spMkS_res  (k : Int) : (spMkS).res [.d (.one (.int .i64 k))] = [.d (.one (.str (mkS k)))] := Spec.of_res spMkS_inj k
theorem spMkS_out  (k : Int) : (spMkS).out [.d (.one (.int .i64 k))] = [.gone] := Spec.of_out spMkS_inj k
theorem bytesS_one (n : Int) : (bytesS [n]).size = 1 := rfl
theorem mkS_sound : Sound Tryd.prog 76 spMkS := by
 refine sound_fam GOK.nil Tryd.func76 (c := Tryd.f76.body.getD .skip) rfl (n := 20) rfl chk_markText rs_markText (fun _ => by simp) ?_ ?_
 ·exact spMkS_inj
 ·intro k0 h1
  by_cases c : k0 <= 0
  ·simp only [x_markText, rg, go_sem, seval, c, mkS, decide_true]
   repeat' (first | with_reducible assumption | with_reducible refine And.intro ?_ ?_ | intro _)
  ·simp only [x_markText, rg, go_sem, seval, c, mkS, decide_false]
   refine pw_loop (ι := Int × ByteArray) (fun i => i.1.toNat) (fun i => 0 <= i.1 /\ i.1 <= k0 /\ i.2.size + i.1 <= k0 /\ digF i.1.toNat i.1 i.2 = digF k0.toNat k0 ⟨#[]⟩)
    (fun i => ⟨[(0, .q (.c (.int .i64 i.1))), (3, .q (.c (.str i.2)))], [], []⟩) (k0, ⟨#[]⟩) ⟨by omega, by omega, by simp [ByteArray.size], rfl⟩ (Le.refl _) ?_
   rintro ⟨k, out⟩ ⟨h2, h3, h4, h5⟩
   simp only at h2 h3 h4 h5
   by_cases c2 : 0 < k
   ·have e1 : k.tdiv 10 = k / 10 := Int.tdiv_eq_ediv_of_nonneg (by omega)
    have e2 : k.tmod 10 = k % 10 := Int.tmod_eq_emod_of_nonneg (by omega)
    simp only [rg, go_sem, seval, c2, decide_true, bytesS_one]
    repeat' (first | with_reducible assumption | with_reducible refine And.intro ?_ ?_ | intro _)
    all_goals first | omega | skip
    refine ⟨(k.tdiv 10, bytesS [48 + k.tmod 10] ++ out), ⟨by omega, by omega, ?_, ?_⟩, by simp only; omega, Le.refl _⟩
    ·simp only [ByteArray.size_append, bytesS_one]; omega
    ·simp only
     rw [<- h5]
     obtain ⟨f, hf⟩ : ∃ f, k.toNat = f + 1 := ⟨k.toNat - 1, by omega⟩
     rw [hf, digF_pos c2]
     exact digF_more (Nat.le_refl _) (by omega)
   ·rw [digF_stop c2] at h5
    have c3 : ((0 : Int) < k) = False := by simp; omega
    simp only [rg, go_sem, seval, c3, decide_false, h5]
    repeat' (first | with_reducible assumption | with_reducible refine And.intro ?_ ?_ | intro _)
    rw [<- h5]
    show (((1 + out.size : Nat)) : Int) <= 9223372036854775807
    omega
noncomputable def spMkSS  : Spec := Spec.of (ι := (List ByteArray) × Int) [true, false] (fun i => [.own 1 (strs i.1), .d (.one (.int .i64 i.2))]) (fun i => lenB 140737488355328 i.1.length /\ 0 <= i.2 /\ i.2 + i.1.length <= 4611686018427387904) (fun i => [.d (.one (.int .i64 (i.2 + i.1.length)))]) (fun i => [.own 1 (strs (mkKs i.1 i.2)), .gone])
theorem spMkSS_inj : ∀ i j : (List ByteArray) × Int, (fun (i : (List ByteArray) × Int) => ([.own 1 (strs i.1), .d (.one (.int .i64 i.2))] : List AV)) i = (fun (i : (List ByteArray) × Int) => ([.own 1 (strs i.1), .d (.one (.int .i64 i.2))] : List AV)) j -> i = j := by
 rintro ⟨ks, k⟩ ⟨ks', k'⟩ h
 simp only [Prod.mk.injEq]
 simpa [strs_eq, T.enc_eq, encL_eq, F.enc_eq, encF_eq, Tk.enc_eq, encTk_eq, Gn.enc_eq, ints_eq, encLX_eq, agX_eq] using h
theorem spMkSS_md  : (spMkSS).md = [true, false] := rfl
theorem spMkSS_pre  (ks : List ByteArray) (k : Int) : (spMkSS).pre [.own 1 (strs ks), .d (.one (.int .i64 k))] = (lenB 140737488355328 ks.length /\ 0 <= k /\ k + ks.length <= 4611686018427387904) := Spec.of_pre' spMkSS_inj (ks, k)
theorem spMkSS_alts  : (spMkSS).alts = none := rfl
theorem spMkSS_res  (ks : List ByteArray) (k : Int) : (spMkSS).res [.own 1 (strs ks), .d (.one (.int .i64 k))] = [.d (.one (.int .i64 (k + ks.length)))] := Spec.of_res spMkSS_inj (ks, k)
theorem spMkSS_out  (ks : List ByteArray) (k : Int) : (spMkSS).out [.own 1 (strs ks), .d (.one (.int .i64 k))] = [.own 1 (strs (mkKs ks k)), .gone] := Spec.of_out spMkSS_inj (ks, k)
theorem strs_nil : strs [] = [] := rfl
theorem strs_cons (a : ByteArray) (b : List ByteArray) : strs (a :: b) = [C.str a] :: strs b := rfl
theorem mkSS_sound : Sound Tryd.prog 44 spMkSS := by
 refine sound_fam (GOK.cons call_markText mkS_sound GOK.nil) Tryd.func44 (c := Tryd.f44.body.getD .skip) rfl (n := 20) rfl chk_markStringS rs_markStringS (fun _ => by simp) ?_ ?_
 ·exact spMkSS_inj
 ·rintro ⟨ks, k0⟩ ⟨h1, h2, h3⟩
  simp only [lenB] at h1 h2 h3
  simp only [x_markStringS, rg, go_sem, seval]
  refine pw_loop (ι := Nat) (fun i => ks.length - i) (fun i => i <= ks.length)
   (fun i => ⟨[(0, .q (.own 1000000020)), (1, .q (.c (.int .i64 (k0 + i)))), (5, .q (.c (.int .i64 i)))], [], [(1000000020, 1, strs (mkKs (ks.take i) k0) ++ strs (ks.drop i))]⟩) 0 (Nat.zero_le _) (Le.of_eq (by simp [mkKs, strs])) ?_
  intro i hi
  rcases Nat.lt_or_ge i ks.length with hlt | hge
  ·obtain ⟨s, hs, hdr, hmem⟩ := drop_at hlt
   have a2 : ((i : Int) < (ks.length : Int)) = True := by simp; omega
   have a3 : (strs (mkKs (ks.take i) k0)).length = i := by rw [strs_len, mkKs_len]; simp; omega
   have a4 : (strs (mkKs (ks.take i) k0) ++ [C.str s] :: strs (ks.drop (i + 1))).length = ks.length := by rw [List.length_append, a3, List.length_cons, strs_len]; simp; omega
   have a5 := fun y => set_mid (x := [C.str s]) (y := y) (r := strs (ks.drop (i + 1))) a3
   have a6 := get_mid (x := [C.str s]) (d := []) (r := strs (ks.drop (i + 1))) a3
   simp only [hdr, strs_cons, rg, go_sem, seval, a2, a4, a5, a6, spMkS_md, spMkS_pre, spMkS_alts, spMkS_res, spMkS_out]
   repeat' (first | with_reducible assumption | with_reducible refine And.intro ?_ ?_ | intro _)
   all_goals first | omega | skip
   refine ⟨i + 1, by omega, by omega, Le.of_eq ?_⟩
   rw [mkKs_take hs, strs_app]
   simp [strs_cons, strs]
   omega
  ·have a2 : ((i : Int) < (ks.length : Int)) = False := by simp; omega
   have a3 : i = ks.length := by omega
   subst a3
   have a4 : (strs (mkKs ks k0)).length = ks.length := by rw [strs_len, mkKs_len]
   simp only [rg, go_sem, seval, a2, a4, List.take_length, List.drop_length, strs_nil, List.append_nil]
noncomputable def spMkTS (k:Nat) : Spec := Spec.of (ι := (List T) × Int) [true, false] (fun i => [.own 5 (encLX i.1), .d (.one (.int .i64 i.2))]) (fun i => (lenB 140737488355328 i.1.length /\ fitL 140737488355328 i.1 /\ 0 <= i.2 /\ i.2 + nmL i.1 <= 4611686018427387904) /\ SizeOf.sizeOf i.1 < k) (fun i => [.d (.one (.int .i64 (i.2 + nmL i.1)))]) (fun i => [.own 5 (encLX (mkL i.1 i.2)), .gone])
theorem spMkTS_inj : ∀ i j : (List T) × Int, (fun (i : (List T) × Int) => ([.own 5 (encLX i.1), .d (.one (.int .i64 i.2))] : List AV)) i = (fun (i : (List T) × Int) => ([.own 5 (encLX i.1), .d (.one (.int .i64 i.2))] : List AV)) j -> i = j := by
 rintro ⟨l, n⟩ ⟨l', n'⟩ h
 simp only [Prod.mk.injEq]
 simpa [strs_eq, T.enc_eq, encL_eq, F.enc_eq, encF_eq, Tk.enc_eq, encTk_eq, Gn.enc_eq, ints_eq, encLX_eq, agX_eq] using h
theorem spMkTS_md (k:Nat) : (spMkTS k).md = [true, false] := rfl
theorem spMkTS_pre (k:Nat) (l : List T) (n : Int) : (spMkTS k).pre [.own 5 (encLX l), .d (.one (.int .i64 n))] = ((lenB 140737488355328 l.length /\ fitL 140737488355328 l /\ 0 <= n /\ n + nmL l <= 4611686018427387904) /\ SizeOf.sizeOf l < k) := Spec.of_pre' spMkTS_inj (l, n)
theorem spMkTS_alts (k:Nat) : (spMkTS k).alts = none := rfl
theorem spMkTS_res (k:Nat) (l : List T) (n : Int) : (spMkTS k).res [.own 5 (encLX l), .d (.one (.int .i64 n))] = [.d (.one (.int .i64 (n + nmL l)))] := Spec.of_res spMkTS_inj (l, n)
theorem spMkTS_out (k:Nat) (l : List T) (n : Int) : (spMkTS k).out [.own 5 (encLX l), .d (.one (.int .i64 n))] = [.own 5 (encLX (mkL l n)), .gone] := Spec.of_out spMkTS_inj (l, n)
set_option maxHeartbeats 1000000 in
theorem mkTS_sound (k : Nat) (hS : Sound Tryd.prog 45 (spMkTS k)) : Sound Tryd.prog 45 (spMkTS (k + 1)) := by
 refine sound_fam (GOK.cons (l := [(44, spMkSS), (45, spMkTS k)]) call_markText mkS_sound (GOK.cons (l := [(45, spMkTS k)]) call_markStringS mkSS_sound (GOK.cons call_markValS hS GOK.nil))) Tryd.func45 (c := Tryd.f45.body.getD .skip) rfl (n := 49) rfl chk_markValS rs_markValS (fun _ => by simp) ?_ ?_
 ·exact spMkTS_inj
 ·rintro ⟨l, k0⟩ ⟨⟨h1, hf, h2, h3⟩, h4⟩
  simp only [lenB] at h1 hf h2 h3 h4
  simp only [x_markValS, rg, go_sem, seval]
  refine pw_loop (ι := Nat) (fun i => l.length - i) (fun i => i <= l.length)
   (fun i => ⟨[(0, .q (.own 1000000049)), (1, .q (.c (.int .i64 (k0 + nmL (l.take i))))), (5, .q (.c (.int .i64 i)))], [], [(1000000049, 5, encLX (mkL (l.take i) k0) ++ encLX (l.drop i))]⟩) 0 (Nat.zero_le _) (Le.of_eq (by simp [mkL, encLX, nmL])) ?_
  intro i hi
  rcases Nat.lt_or_ge i l.length with hlt | hge
  ·obtain ⟨t, ht, hdr, hmem⟩ := drop_at hlt
   have a2 : ((i : Int) < (l.length : Int)) = True := by simp; omega
   have a3 : (encLX (mkL (l.take i) k0)).length = i := by rw [encLX_len, mkL_len]; simp; omega
   have a4 := fun (y : List C) => show (encLX (mkL (l.take i) k0) ++ y :: encLX (l.drop (i + 1))).length = l.length from by rw [List.length_append, a3, List.length_cons, encLX_len]; simp; omega
   have a5 := fun x y => set_mid (x := x) (y := y) (r := encLX (l.drop (i + 1))) a3
   have a6 := fun x => get_mid (x := x) (d := []) (r := encLX (l.drop (i + 1))) a3
   have a7 : nmL (l.take (i + 1)) <= nmL l := nmL_take_le
   have a8 := nmL_take ht
   have a9 := nmL_nn (l.take i)
   have b1 := fitL_mem hf t hmem
   have b2 := size_mem hmem
   have b3 := mkL_take ht k0
   obtain ⟨kk, n, s, ks, l'⟩ := t
   have c1 := nmL_nn l'
   have e3 : SizeOf.sizeOf l' < k := by rw [T.mk.sizeOf_spec] at b2; omega
   simp only [nmT] at a8
   simp only [T.fit, strsFit, lenB] at b1
   obtain ⟨_, _, f1, ⟨f2, _⟩, f3, f4⟩ := b1
   simp only [hdr, encLX, T.encX, mkT, rg, go_sem, seval, a2, a4, a5, a6, spMkS_md, spMkS_pre, spMkS_alts, spMkS_res, spMkS_out, spMkSS_md, spMkSS_pre, spMkSS_alts, spMkSS_res, spMkSS_out, spMkTS_md, spMkTS_pre, spMkTS_alts, spMkTS_res, spMkTS_out]
   repeat' (first | with_reducible assumption | with_reducible refine And.intro ?_ ?_ | intro _)
   all_goals first | omega | assumption | skip
   refine ⟨i + 1, by omega, by omega, Le.of_eq ?_⟩
   have d1 : k0 + nmL (l.take i) + 1 + 1 = k0 + nmL (l.take i) + 2 := by omega
   have d2 : k0 + nmL (l.take i) + 2 + 1 = k0 + nmL (l.take i) + 3 := by omega
   have d3 : k0 + nmL (l.take i) + 3 + ↑ks.length + nmL l' = k0 + nmL (l.take (i + 1)) := by omega
   rw [d1, d2, d3, b3, encLX_app]
   simp [encLX, T.encX, mkT]
  ·have a2 : ((i : Int) < (l.length : Int)) = False := by simp; omega
   have a3 : i = l.length := by omega
   subst a3
   have a4 : (encLX (mkL l k0)).length = l.length := by rw [encLX_len, mkL_len]
   simp only [rg, go_sem, seval, a2, a4, List.take_length, List.drop_length, encLX, List.append_nil]
theorem mkTS_all (k : Nat) : Sound Tryd.prog 45 (spMkTS k) := by
 induction k with
 | zero => exact Sound.none
 | succ k ih => exact mkTS_sound k ih
noncomputable def spMkL  : Spec := Spec.of (ι := (List T) × Int) [true, false] (fun i => [.own 5 (encLX i.1), .d (.one (.int .i64 i.2))]) (fun i => lenB 140737488355328 i.1.length /\ fitL 140737488355328 i.1 /\ 0 <= i.2 /\ i.2 + nmL i.1 <= 4611686018427387904) (fun i => [.d (.one (.int .i64 (i.2 + nmL i.1)))]) (fun i => [.own 5 (encLX (mkL i.1 i.2)), .gone])
theorem spMkL_inj : ∀ i j : (List T) × Int, (fun (i : (List T) × Int) => ([.own 5 (encLX i.1), .d (.one (.int .i64 i.2))] : List AV)) i = (fun (i : (List T) × Int) => ([.own 5 (encLX i.1), .d (.one (.int .i64 i.2))] : List AV)) j -> i = j := by
 rintro ⟨l, n⟩ ⟨l', n'⟩ h
 simp only [Prod.mk.injEq]
 simpa [strs_eq, T.enc_eq, encL_eq, F.enc_eq, encF_eq, Tk.enc_eq, encTk_eq, Gn.enc_eq, ints_eq, encLX_eq, agX_eq] using h
theorem spMkL_md  : (spMkL).md = [true, false] := rfl
theorem spMkL_pre  (l : List T) (n : Int) : (spMkL).pre [.own 5 (encLX l), .d (.one (.int .i64 n))] = (lenB 140737488355328 l.length /\ fitL 140737488355328 l /\ 0 <= n /\ n + nmL l <= 4611686018427387904) := Spec.of_pre' spMkL_inj (l, n)
theorem spMkL_alts  : (spMkL).alts = none := rfl
theorem spMkL_res  (l : List T) (n : Int) : (spMkL).res [.own 5 (encLX l), .d (.one (.int .i64 n))] = [.d (.one (.int .i64 (n + nmL l)))] := Spec.of_res spMkL_inj (l, n)
theorem spMkL_out  (l : List T) (n : Int) : (spMkL).out [.own 5 (encLX l), .d (.one (.int .i64 n))] = [.own 5 (encLX (mkL l n)), .gone] := Spec.of_out spMkL_inj (l, n)
theorem mkL_sound : Sound Tryd.prog 45 spMkL := Sound.all (μ := fun i => SizeOf.sizeOf i.1) mkTS_all
noncomputable def spMkV  : Spec := Spec.of (ι := T × Int) [true, false] (fun i => [.ag (agX i.1), .d (.one (.int .i64 i.2))]) (fun i => i.1.fit 140737488355328 /\ 0 <= i.2 /\ i.2 + nmV i.1 <= 4611686018427387904) (fun i => [.d (.one (.int .i64 (i.2 + nmV i.1)))]) (fun i => [.ag (agX (mkV i.1 i.2)), .gone])
theorem spMkV_inj : ∀ i j : T × Int, (fun (i : T × Int) => ([.ag (agX i.1), .d (.one (.int .i64 i.2))] : List AV)) i = (fun (i : T × Int) => ([.ag (agX i.1), .d (.one (.int .i64 i.2))] : List AV)) j -> i = j := by
 rintro ⟨t, n⟩ ⟨t', n'⟩ h
 simp only [Prod.mk.injEq]
 simpa [strs_eq, T.enc_eq, encL_eq, F.enc_eq, encF_eq, Tk.enc_eq, encTk_eq, Gn.enc_eq, ints_eq, encLX_eq, agX_eq] using h
theorem spMkV_md  : (spMkV).md = [true, false] := rfl
theorem spMkV_pre  (t : T) (n : Int) : (spMkV).pre [.ag (agX t), .d (.one (.int .i64 n))] = (t.fit 140737488355328 /\ 0 <= n /\ n + nmV t <= 4611686018427387904) := Spec.of_pre' spMkV_inj (t, n)
theorem spMkV_alts  : (spMkV).alts = none := rfl
theorem spMkV_res  (t : T) (n : Int) : (spMkV).res [.ag (agX t), .d (.one (.int .i64 n))] = [.d (.one (.int .i64 (n + nmV t)))] := Spec.of_res spMkV_inj (t, n)
theorem spMkV_out  (t : T) (n : Int) : (spMkV).out [.ag (agX t), .d (.one (.int .i64 n))] = [.ag (agX (mkV t n)), .gone] := Spec.of_out spMkV_inj (t, n)
theorem mkV_sound : Sound Tryd.prog 16 spMkV := by
 refine sound_famG (GOK.cons (l := [(45, spMkL)]) call_markStringS mkSS_sound (GOK.cons call_markValS mkL_sound GOK.nil)) Tryd.func16 (c := Tryd.f16.body.getD .skip) rfl (n := 14) rfl chk_markVal rs_markVal (by decide) (by decide) ?_ ?_
 ·exact spMkV_inj
 ·rintro ⟨t, n⟩ ⟨h1, h2, h3⟩
  obtain ⟨kk, m, s, ks, l⟩ := t
  have c1 := nmL_nn l
  simp only [T.fit, strsFit, nmV, lenB] at h1 h3
  obtain ⟨_, _, f1, ⟨f2, _⟩, f3, f4⟩ := h1
  simp only [x_markVal, agX, mkV, nmV, go_sem, seval, Prod.fst, rg, spMkSS_md, spMkSS_pre, spMkSS_alts, spMkSS_res, spMkSS_out, spMkL_md, spMkL_pre, spMkL_alts, spMkL_res, spMkL_out]
  repeat' (first | with_reducible assumption | with_reducible refine And.intro ?_ ?_ | intro _)
  all_goals first | omega | assumption | skip
noncomputable def spHdSS  : Spec := Spec.of (ι := (List ByteArray) × Int) [false, false] (fun i => [.d (.one (.row 1 (strs i.1))), .d (.one (.int .i64 i.2))]) (fun i => lenB 140737488355328 i.1.length /\ 0 <= i.2 /\ i.2 + i.1.length <= 4611686018427387904 /\ mkKs i.1 i.2 = i.1) (fun i => [.d (.one (.int .i64 (i.2 + i.1.length)))]) (fun _ => [.gone, .gone])
theorem spHdSS_inj : ∀ i j : (List ByteArray) × Int, (fun (i : (List ByteArray) × Int) => ([.d (.one (.row 1 (strs i.1))), .d (.one (.int .i64 i.2))] : List AV)) i = (fun (i : (List ByteArray) × Int) => ([.d (.one (.row 1 (strs i.1))), .d (.one (.int .i64 i.2))] : List AV)) j -> i = j := by
 rintro ⟨ks, k⟩ ⟨ks', k'⟩ h
 simp only [Prod.mk.injEq]
 simpa [strs_eq, T.enc_eq, encL_eq, F.enc_eq, encF_eq, Tk.enc_eq, encTk_eq, Gn.enc_eq, ints_eq, encLX_eq, agX_eq] using h
theorem spHdSS_md  : (spHdSS).md = [false, false] := rfl
theorem spHdSS_pre  (ks : List ByteArray) (k : Int) : (spHdSS).pre [.d (.one (.row 1 (strs ks))), .d (.one (.int .i64 k))] = (lenB 140737488355328 ks.length /\ 0 <= k /\ k + ks.length <= 4611686018427387904 /\ mkKs ks k = ks) := Spec.of_pre' spHdSS_inj (ks, k)
theorem spHdSS_alts  : (spHdSS).alts = none := rfl
theorem spHdSS_res  (ks : List ByteArray) (k : Int) : (spHdSS).res [.d (.one (.row 1 (strs ks))), .d (.one (.int .i64 k))] = [.d (.one (.int .i64 (k + ks.length)))] := Spec.of_res spHdSS_inj (ks, k)
theorem spHdSS_out  (ks : List ByteArray) (k : Int) : (spHdSS).out [.d (.one (.row 1 (strs ks))), .d (.one (.int .i64 k))] = [.gone, .gone] := Spec.of_out spHdSS_inj (ks, k)
theorem hdSS_sound : Sound Tryd.prog 46 spHdSS := by
 refine sound_fam (GOK.cons call_markText mkS_sound GOK.nil) Tryd.func46 (c := Tryd.f46.body.getD .skip) rfl (n := 22) rfl chk_heldStringS rs_heldStringS (fun _ => by simp) ?_ ?_
 ·exact spHdSS_inj
 ·rintro ⟨ks, k0⟩ ⟨h1, h2, h3, h4⟩
  simp only [lenB] at h1 h2 h3 h4
  simp only [x_heldStringS, rg, go_sem, seval]
  refine pw_loop (ι := Nat) (fun i => ks.length - i) (fun i => i <= ks.length)
   (fun i => ⟨[(0, .q (.c (.row 1 (strs ks)))), (1, .q (.c (.int .i64 (k0 + i)))), (5, .q (.c (.int .i64 i)))], [], []⟩) 0 (Nat.zero_le _) (Le.of_eq (by simp)) ?_
  intro i hi
  rcases Nat.lt_or_ge i ks.length with hlt | hge
  ·obtain ⟨s, hs, hdr, hmem⟩ := drop_at hlt
   have a1 := strs_at hs
   have a2 : ((i : Int) < (ks.length : Int)) = True := by simp; omega
   have a3 := mkKs_at h4 hs
   simp only [rg, go_sem, seval, Prod.fst, a1, a2, a3, strs_len, spMkS_md, spMkS_pre, spMkS_alts, spMkS_res, spMkS_out, decide_true, Bool.not_true]
   repeat' (first | with_reducible assumption | with_reducible refine And.intro ?_ ?_ | intro _)
   all_goals first | omega | skip
   exact ⟨i + 1, by omega, by omega, Le.of_eq (by simp; omega)⟩
  ·have a2 : ((i : Int) < (ks.length : Int)) = False := by simp; omega
   have a3 : i = ks.length := by omega
   subst a3
   simp only [rg, go_sem, seval, a2, strs_len]
noncomputable def spHdTS (k:Nat) : Spec := Spec.of (ι := (List T) × Int) [false, false] (fun i => [.d (.one (.row 5 (encL i.1))), .d (.one (.int .i64 i.2))]) (fun i => (lenB 140737488355328 i.1.length /\ fitL 140737488355328 i.1 /\ 0 <= i.2 /\ i.2 + nmL i.1 <= 4611686018427387904 /\ mkL i.1 i.2 = i.1) /\ SizeOf.sizeOf i.1 < k) (fun i => [.d (.one (.int .i64 (i.2 + nmL i.1)))]) (fun _ => [.gone, .gone])
theorem spHdTS_inj : ∀ i j : (List T) × Int, (fun (i : (List T) × Int) => ([.d (.one (.row 5 (encL i.1))), .d (.one (.int .i64 i.2))] : List AV)) i = (fun (i : (List T) × Int) => ([.d (.one (.row 5 (encL i.1))), .d (.one (.int .i64 i.2))] : List AV)) j -> i = j := by
 rintro ⟨l, n⟩ ⟨l', n'⟩ h
 simp only [Prod.mk.injEq]
 simpa [strs_eq, T.enc_eq, encL_eq, F.enc_eq, encF_eq, Tk.enc_eq, encTk_eq, Gn.enc_eq, ints_eq, encLX_eq, agX_eq] using h
theorem spHdTS_md (k:Nat) : (spHdTS k).md = [false, false] := rfl
theorem spHdTS_pre (k:Nat) (l : List T) (n : Int) : (spHdTS k).pre [.d (.one (.row 5 (encL l))), .d (.one (.int .i64 n))] = ((lenB 140737488355328 l.length /\ fitL 140737488355328 l /\ 0 <= n /\ n + nmL l <= 4611686018427387904 /\ mkL l n = l) /\ SizeOf.sizeOf l < k) := Spec.of_pre' spHdTS_inj (l, n)
theorem spHdTS_alts (k:Nat) : (spHdTS k).alts = none := rfl
theorem spHdTS_res (k:Nat) (l : List T) (n : Int) : (spHdTS k).res [.d (.one (.row 5 (encL l))), .d (.one (.int .i64 n))] = [.d (.one (.int .i64 (n + nmL l)))] := Spec.of_res spHdTS_inj (l, n)
theorem spHdTS_out (k:Nat) (l : List T) (n : Int) : (spHdTS k).out [.d (.one (.row 5 (encL l))), .d (.one (.int .i64 n))] = [.gone, .gone] := Spec.of_out spHdTS_inj (l, n)
set_option maxHeartbeats 1000000 in
theorem hdTS_sound (k : Nat) (hS : Sound Tryd.prog 47 (spHdTS k)) : Sound Tryd.prog 47 (spHdTS (k + 1)) := by
 refine sound_fam (GOK.cons (l := [(46, spHdSS), (47, spHdTS k)]) call_markText mkS_sound (GOK.cons (l := [(47, spHdTS k)]) call_heldStringS hdSS_sound (GOK.cons call_heldValS hS GOK.nil))) Tryd.func47 (c := Tryd.f47.body.getD .skip) rfl (n := 59) rfl chk_heldValS rs_heldValS (fun _ => by simp) ?_ ?_
 ·exact spHdTS_inj
 ·rintro ⟨l, k0⟩ ⟨⟨h1, hf, h2, h3, h5⟩, h4⟩
  simp only [lenB] at h1 hf h2 h3 h4 h5
  simp only [x_heldValS, rg, go_sem, seval]
  refine pw_loop (ι := Nat) (fun i => l.length - i) (fun i => i <= l.length)
   (fun i => ⟨[(0, .q (.c (.row 5 (encL l)))), (1, .q (.c (.int .i64 (k0 + nmL (l.take i))))), (5, .q (.c (.int .i64 i)))], [], []⟩) 0 (Nat.zero_le _) (Le.of_eq (by simp [nmL])) ?_
  intro i hi
  rcases Nat.lt_or_ge i l.length with hlt | hge
  ·obtain ⟨t, ht, hdr, hmem⟩ := drop_at hlt
   have a1 := encL_at ht
   have a2 : ((i : Int) < (l.length : Int)) = True := by simp; omega
   have a3 := mkL_at h5 ht
   have a7 : nmL (l.take (i + 1)) <= nmL l := nmL_take_le
   have a8 := nmL_take ht
   have a9 := nmL_nn (l.take i)
   have b1 := fitL_mem hf t hmem
   have b2 := size_mem hmem
   obtain ⟨kk, n, s, ks, l'⟩ := t
   have c1 := nmL_nn l'
   have e3 : SizeOf.sizeOf l' < k := by rw [T.mk.sizeOf_spec] at b2; omega
   simp only [nmT] at a8
   simp only [T.fit, strsFit, lenB] at b1
   obtain ⟨_, _, f1, ⟨f2, _⟩, f3, f4⟩ := b1
   simp only [mkT, T.mk.injEq] at a3
   obtain ⟨g1, g2, g3, g4, g5⟩ := a3
   generalize hk : k0 + nmL (l.take i) = kk' at *
   subst g1 g2 g3
   have d1 : kk' + 1 + 1 = kk' + 2 := by omega
   have d2 : kk' + 2 + 1 = kk' + 3 := by omega
   have d4 : (kk' + 3 + (ks.length : Int) < 0) = False := by simp; omega
   have d5 : (kk' + 3 + (ks.length : Int) + nmL l' < 0) = False := by simp; omega
   have b4 : T.enc (.mk kk' (kk' + 1) (mkS (kk' + 2)) ks l') = [.int .i64 kk', .int .i64 (kk' + 1), .str (mkS (kk' + 2)), .row 1 (strs ks), .row 5 (encL l')] := rfl
   rw [b4] at a1
   simp only [rg, go_sem, seval, Prod.fst, a1, a2, d1, d2, d4, d5, encL_len, spMkS_md, spMkS_pre, spMkS_alts, spMkS_res, spMkS_out, spHdSS_md, spHdSS_pre, spHdSS_alts, spHdSS_res, spHdSS_out, spHdTS_md, spHdTS_pre, spHdTS_alts, spHdTS_res, spHdTS_out, decide_true, Bool.not_true]
   repeat' (first | with_reducible assumption | with_reducible refine And.intro ?_ ?_ | intro _)
   all_goals first | omega | assumption | skip
   exact ⟨i + 1, by omega, by omega, Le.of_eq (by rw [show k0 + nmL (l.take (i + 1)) = kk' + 3 + ↑ks.length + nmL l' by omega]; simp)⟩
  ·have a2 : ((i : Int) < (l.length : Int)) = False := by simp; omega
   have a3 : i = l.length := by omega
   subst a3
   simp only [rg, go_sem, seval, a2, List.take_length, encL_len]
theorem hdTS_all (k : Nat) : Sound Tryd.prog 47 (spHdTS k) := by
 induction k with
 | zero => exact Sound.none
 | succ k ih => exact hdTS_sound k ih
noncomputable def spHdL  : Spec := Spec.of (ι := (List T) × Int) [false, false] (fun i => [.d (.one (.row 5 (encL i.1))), .d (.one (.int .i64 i.2))]) (fun i => lenB 140737488355328 i.1.length /\ fitL 140737488355328 i.1 /\ 0 <= i.2 /\ i.2 + nmL i.1 <= 4611686018427387904 /\ mkL i.1 i.2 = i.1) (fun i => [.d (.one (.int .i64 (i.2 + nmL i.1)))]) (fun _ => [.gone, .gone])
theorem spHdL_inj : ∀ i j : (List T) × Int, (fun (i : (List T) × Int) => ([.d (.one (.row 5 (encL i.1))), .d (.one (.int .i64 i.2))] : List AV)) i = (fun (i : (List T) × Int) => ([.d (.one (.row 5 (encL i.1))), .d (.one (.int .i64 i.2))] : List AV)) j -> i = j := by
 rintro ⟨l, n⟩ ⟨l', n'⟩ h
 simp only [Prod.mk.injEq]
 simpa [strs_eq, T.enc_eq, encL_eq, F.enc_eq, encF_eq, Tk.enc_eq, encTk_eq, Gn.enc_eq, ints_eq, encLX_eq, agX_eq] using h
theorem spHdL_md  : (spHdL).md = [false, false] := rfl
theorem spHdL_pre  (l : List T) (n : Int) : (spHdL).pre [.d (.one (.row 5 (encL l))), .d (.one (.int .i64 n))] = (lenB 140737488355328 l.length /\ fitL 140737488355328 l /\ 0 <= n /\ n + nmL l <= 4611686018427387904 /\ mkL l n = l) := Spec.of_pre' spHdL_inj (l, n)
theorem spHdL_alts  : (spHdL).alts = none := rfl
theorem spHdL_res  (l : List T) (n : Int) : (spHdL).res [.d (.one (.row 5 (encL l))), .d (.one (.int .i64 n))] = [.d (.one (.int .i64 (n + nmL l)))] := Spec.of_res spHdL_inj (l, n)
theorem spHdL_out  (l : List T) (n : Int) : (spHdL).out [.d (.one (.row 5 (encL l))), .d (.one (.int .i64 n))] = [.gone, .gone] := Spec.of_out spHdL_inj (l, n)
theorem hdL_sound : Sound Tryd.prog 47 spHdL := Sound.all (μ := fun i => SizeOf.sizeOf i.1) hdTS_all
noncomputable def spHdV  : Spec := Spec.of (ι := T × Int) [false, false] (fun i => [.d (.agg i.1.enc), .d (.one (.int .i64 i.2))]) (fun i => i.1.fit 140737488355328 /\ 0 <= i.2 /\ i.2 + nmV i.1 <= 4611686018427387904 /\ mkV i.1 i.2 = i.1) (fun i => [.d (.one (.int .i64 (i.2 + nmV i.1)))]) (fun _ => [.gone, .gone])
theorem spHdV_inj : ∀ i j : T × Int, (fun (i : T × Int) => ([.d (.agg i.1.enc), .d (.one (.int .i64 i.2))] : List AV)) i = (fun (i : T × Int) => ([.d (.agg i.1.enc), .d (.one (.int .i64 i.2))] : List AV)) j -> i = j := by
 rintro ⟨t, n⟩ ⟨t', n'⟩ h
 simp only [Prod.mk.injEq]
 simpa [strs_eq, T.enc_eq, encL_eq, F.enc_eq, encF_eq, Tk.enc_eq, encTk_eq, Gn.enc_eq, ints_eq, encLX_eq, agX_eq] using h
theorem spHdV_md  : (spHdV).md = [false, false] := rfl
theorem spHdV_pre  (t : T) (n : Int) : (spHdV).pre [.d (.agg t.enc), .d (.one (.int .i64 n))] = (t.fit 140737488355328 /\ 0 <= n /\ n + nmV t <= 4611686018427387904 /\ mkV t n = t) := Spec.of_pre' spHdV_inj (t, n)
theorem spHdV_alts  : (spHdV).alts = none := rfl
theorem spHdV_res  (t : T) (n : Int) : (spHdV).res [.d (.agg t.enc), .d (.one (.int .i64 n))] = [.d (.one (.int .i64 (n + nmV t)))] := Spec.of_res spHdV_inj (t, n)
theorem spHdV_out  (t : T) (n : Int) : (spHdV).out [.d (.agg t.enc), .d (.one (.int .i64 n))] = [.gone, .gone] := Spec.of_out spHdV_inj (t, n)
theorem hdV_sound : Sound Tryd.prog 17 spHdV := by
 refine sound_fam (GOK.cons (l := [(47, spHdL)]) call_heldStringS hdSS_sound (GOK.cons call_heldValS hdL_sound GOK.nil)) Tryd.func17 (c := Tryd.f17.body.getD .skip) rfl (n := 18) rfl chk_heldVal rs_heldVal (fun _ => by simp) ?_ ?_
 ·exact spHdV_inj
 ·rintro ⟨t, n⟩ ⟨h1, h2, h3, h4⟩
  obtain ⟨kk, m, s, ks, l⟩ := t
  have c1 := nmL_nn l
  simp only [T.fit, strsFit, nmV, lenB] at h1 h3
  obtain ⟨_, _, f1, ⟨f2, _⟩, f3, f4⟩ := h1
  simp only [mkV, T.mk.injEq, true_and] at h4
  have d4 : (n + (ks.length : Int) < 0) = False := by simp; omega
  have d5 : (n + (ks.length : Int) + nmL l < 0) = False := by simp; omega
  simp only [x_heldVal, T.enc, nmV, go_sem, seval, rg, d4, d5, spHdSS_md, spHdSS_pre, spHdSS_alts, spHdSS_res, spHdSS_out, spHdL_md, spHdL_pre, spHdL_alts, spHdL_res, spHdL_out]
  repeat' (first | with_reducible assumption | with_reducible refine And.intro ?_ ?_ | intro _)
  all_goals first | omega | assumption | exact h4.1 | exact h4.2 | skip
end Go.Proofs.Pw
namespace Go.Proofs.Pw
variable [Globs]
def x_l1Str : X := (.seq (.reg [⟨some 2, none, .mv (.k (.c (.bool false)))⟩] none [0]) (.seq (.seq (.reg [⟨some 3, none, .mv (.k (.c (.int .i64 0)))⟩] none [0, 3]) (.block 0 (.loop (.seq (.seq (.reg [⟨some 4, none, .mv (.t 3)⟩, ⟨some 5, none, .mv (.t 0)⟩, ⟨some 6, none, .len (.t 5) true⟩, ⟨some 7, none, .bin false .lss (.t 4) (.t 6)⟩] none [0, 3, 7]) (.cond (.t 7) .skip (.exit 0))) (.seq (.block 1 (.seq (.reg [⟨some 10, none, .mv (.t 0)⟩, ⟨some 11, none, .mv (.t 3)⟩, ⟨some 12, none, .idx (.t 10) (.t 11)⟩, ⟨some 13, none, .bin false .lss (.t 12) (.k (.c (.int .u8 97)))⟩, ⟨some 14, none, .mv (.t 13)⟩, ⟨some 15, some (14, false), .mv (.t 0)⟩, ⟨some 16, some (14, false), .mv (.t 3)⟩, ⟨some 17, some (14, false), .idx (.t 15) (.t 16)⟩, ⟨some 18, some (14, false), .bin false .gtr (.t 17) (.k (.c (.int .u8 122)))⟩, ⟨some 19, none, .pick (.t 14) (.k (.c (.bool true))) (.t 18)⟩] none [0, 3, 19]) (.cond (.t 19) (.seq (.reg [⟨some 2, none, .mv (.k (.c (.bool false)))⟩] none [2]) .ret) .skip))) (.reg [⟨some 8, none, .mv (.t 3)⟩, ⟨some 9, none, .bin false .add (.t 8) (.k (.c (.int .i64 1)))⟩, ⟨some 3, none, .mv (.t 9)⟩] none [0, 3])))))) (.seq (.reg [⟨some 20, none, .mv (.t 0)⟩, ⟨some 21, none, .len (.t 20) true⟩, ⟨some 22, none, .bin false .leq (.t 21) (.k (.c (.int .i64 12)))⟩, ⟨some 2, none, .mv (.t 22)⟩] none [2]) .ret)))
theorem chk_l1Str : chkX Tryd.prog 23 (Tryd.f70.body.getD .skip) x_l1Str = true := by kernel_rfl
theorem rs_l1Str : okRs Tryd.prog Tryd.f70.results.toList [.tmp 2] = true := by kernel_rfl
theorem call_l1Str : okCallee Tryd.prog 70 = true := by kernel_rfl
def x_l1Keys : X := (.seq (.reg [⟨some 2, none, .mv (.k (.c (.bool false)))⟩] none [0]) (.seq (.seq (.reg [⟨some 3, none, .mv (.k (.c (.int .i64 0)))⟩] none [0, 3]) (.block 0 (.loop (.seq (.seq (.reg [⟨some 4, none, .mv (.t 3)⟩, ⟨some 5, none, .mv (.t 0)⟩, ⟨some 6, none, .len (.t 5) false⟩, ⟨some 7, none, .bin false .lss (.t 4) (.t 6)⟩] none [0, 3, 7]) (.cond (.t 7) .skip (.exit 0))) (.seq (.block 1 (.seq (.reg [⟨some 10, none, .mv (.t 0)⟩, ⟨some 11, none, .mv (.t 3)⟩, ⟨some 12, none, .ia (.t 10) (.t 11) 1⟩, ⟨some 13, none, .load (.t 12) none⟩, ⟨some 14, none, .call 70 [(.t 13)]⟩, ⟨some 15, none, .not (.t 14)⟩, ⟨some 16, none, .mv (.t 15)⟩, ⟨some 17, some (16, false), .mv (.t 3)⟩, ⟨some 18, some (16, false), .bin false .gtr (.t 17) (.k (.c (.int .i64 0)))⟩, ⟨some 19, some (16, false), .mv (.t 18)⟩, ⟨some 20, some (19, true), .mv (.t 0)⟩, ⟨some 21, some (19, true), .mv (.t 3)⟩, ⟨some 22, some (19, true), .ia (.t 20) (.t 21) 1⟩, ⟨some 23, some (19, true), .load (.t 22) none⟩, ⟨some 24, some (19, true), .mv (.t 0)⟩, ⟨some 25, some (19, true), .mv (.t 3)⟩, ⟨some 26, some (19, true), .bin false .sub (.t 25) (.k (.c (.int .i64 1)))⟩, ⟨some 27, some (19, true), .ia (.t 24) (.t 26) 1⟩, ⟨some 28, some (19, true), .load (.t 27) none⟩, ⟨some 29, some (19, true), .bin false .leq (.t 23) (.t 28)⟩, ⟨some 30, some (16, false), .pick (.t 19) (.t 29) (.k (.c (.bool false)))⟩, ⟨some 31, none, .pick (.t 16) (.k (.c (.bool true))) (.t 30)⟩] (some 19) [0, 3, 31]) (.cond (.t 31) (.seq (.reg [⟨some 2, none, .mv (.k (.c (.bool false)))⟩] none [2]) .ret) .skip))) (.reg [⟨some 8, none, .mv (.t 3)⟩, ⟨some 9, none, .bin false .add (.t 8) (.k (.c (.int .i64 1)))⟩, ⟨some 3, none, .mv (.t 9)⟩] none [0, 3])))))) (.seq (.reg [⟨some 2, none, .mv (.k (.c (.bool true)))⟩] none [2]) .ret)))
theorem chk_l1Keys : chkX Tryd.prog 32 (Tryd.f71.body.getD .skip) x_l1Keys = true := by kernel_rfl
theorem rs_l1Keys : okRs Tryd.prog Tryd.f71.results.toList [.tmp 2] = true := by kernel_rfl
theorem call_l1Keys : okCallee Tryd.prog 71 = true := by kernel_rfl
def x_l1Form : X := (.seq (.reg [⟨some 2, none, .box (.t 0) (some 5)⟩, ⟨some 4, none, .mv (.k (.c (.bool false)))⟩] none [1, 2]) (.seq (.seq (.reg [⟨some 6, none, .mv (.t 1)⟩, ⟨some 7, none, .bin false .lss (.t 6) (.k (.c (.int .i64 1)))⟩, ⟨some 8, none, .mv (.t 7)⟩, ⟨some 9, some (8, false), .fa (.t 2) 0⟩, ⟨some 10, some (8, false), .load (.t 9) none⟩, ⟨some 11, some (8, false), .bin false .neq (.t 10) (.k (.c (.int .i64 3)))⟩, ⟨some 12, some (8, false), .mv (.t 11)⟩, ⟨some 13, some (12, true), .fa (.t 2) 1⟩, ⟨some 14, some (12, true), .load (.t 13) none⟩, ⟨some 15, some (12, true), .bin false .neq (.t 14) (.k (.c (.int .i64 0)))⟩, ⟨some 16, some (8, false), .pick (.t 12) (.t 15) (.k (.c (.bool false)))⟩, ⟨some 17, none, .pick (.t 8) (.k (.c (.bool true))) (.t 16)⟩, ⟨some 18, none, .mv (.t 17)⟩, ⟨some 19, some (18, false), .fa (.t 2) 0⟩, ⟨some 20, some (18, false), .load (.t 19) none⟩, ⟨some 21, some (18, false), .bin false .neq (.t 20) (.k (.c (.int .i64 4)))⟩, ⟨some 22, some (18, false), .mv (.t 21)⟩, ⟨some 23, some (22, true), .fa (.t 2) 2⟩, ⟨some 24, some (22, true), .load (.t 23) none⟩, ⟨some 25, some (22, true), .bin false .neq (.t 24) (.k (.c (.str ⟨#[]⟩)))⟩, ⟨some 26, some (18, false), .pick (.t 22) (.t 25) (.k (.c (.bool false)))⟩, ⟨some 27, none, .pick (.t 18) (.k (.c (.bool true))) (.t 26)⟩, ⟨some 28, none, .mv (.t 27)⟩, ⟨some 29, some (28, false), .fa (.t 2) 0⟩, ⟨some 30, some (28, false), .load (.t 29) none⟩, ⟨some 31, some (28, false), .bin false .neq (.t 30) (.k (.c (.int .i64 6)))⟩, ⟨some 32, some (28, false), .mv (.t 31)⟩, ⟨some 33, some (32, true), .fa (.t 2) 3⟩, ⟨some 34, some (32, true), .load (.t 33) none⟩, ⟨some 35, some (32, true), .len (.t 34) false⟩, ⟨some 36, some (32, true), .bin false .gtr (.t 35) (.k (.c (.int .i64 0)))⟩, ⟨some 37, some (28, false), .pick (.t 32) (.t 36) (.k (.c (.bool false)))⟩, ⟨some 38, none, .pick (.t 28) (.k (.c (.bool true))) (.t 37)⟩, ⟨some 39, none, .mv (.t 38)⟩, ⟨some 40, some (39, false), .fa (.t 2) 0⟩, ⟨some 41, some (39, false), .load (.t 40) none⟩, ⟨some 42, some (39, false), .bin false .lss (.t 41) (.k (.c (.int .i64 5)))⟩, ⟨some 43, some (39, false), .mv (.t 42)⟩, ⟨some 44, some (43, true), .fa (.t 2) 4⟩, ⟨some 45, some (43, true), .load (.t 44) none⟩, ⟨some 46, some (43, true), .len (.t 45) false⟩, ⟨some 47, some (43, true), .bin false .gtr (.t 46) (.k (.c (.int .i64 0)))⟩, ⟨some 48, some (39, false), .pick (.t 43) (.t 47) (.k (.c (.bool false)))⟩, ⟨some 49, none, .pick (.t 39) (.k (.c (.bool true))) (.t 48)⟩] none [1, 2, 49]) (.cond (.t 49) (.seq (.reg [⟨some 4, none, .mv (.k (.c (.bool false)))⟩] none [4]) .ret) .skip)) (.seq (.seq (.reg [⟨some 50, none, .fa (.t 2) 0⟩, ⟨some 51, none, .load (.t 50) none⟩] none [1, 2, 51]) (.block 0 (.seq (.seq (.reg [⟨some 53, none, .bin false .eql (.t 51) (.k (.c (.int .i64 0)))⟩, ⟨some 52, none, .mv (.t 53)⟩] none [1, 2, 51, 52]) (.cond (.t 52) .skip (.seq (.reg [⟨some 54, none, .bin false .eql (.t 51) (.k (.c (.int .i64 1)))⟩, ⟨some 52, none, .mv (.t 54)⟩] none [1, 2, 51, 52]) (.cond (.t 52) .skip (.reg [⟨some 55, none, .bin false .eql (.t 51) (.k (.c (.int .i64 2)))⟩, ⟨some 52, none, .mv (.t 55)⟩] none [1, 2, 51, 52]))))) (.cond (.t 52) (.seq (.reg [⟨some 4, none, .mv (.k (.c (.bool true)))⟩] none [4]) .ret) (.seq (.reg [⟨some 57, none, .bin false .eql (.t 51) (.k (.c (.int .i64 3)))⟩, ⟨some 56, none, .mv (.t 57)⟩] none [1, 2, 51, 56]) (.cond (.t 56) (.seq (.reg [⟨some 58, none, .fa (.t 2) 1⟩, ⟨some 59, none, .load (.t 58) none⟩, ⟨some 60, none, .bin false .geq (.t 59) (.k (.c (.int .i64 (-1000000))))⟩, ⟨some 61, none, .mv (.t 60)⟩, ⟨some 62, some (61, true), .fa (.t 2) 1⟩, ⟨some 63, some (61, true), .load (.t 62) none⟩, ⟨some 64, some (61, true), .bin false .leq (.t 63) (.k (.c (.int .i64 1000000)))⟩, ⟨some 65, none, .pick (.t 61) (.t 64) (.k (.c (.bool false)))⟩, ⟨some 4, none, .mv (.t 65)⟩] none [4]) .ret) (.seq (.reg [⟨some 67, none, .bin false .eql (.t 51) (.k (.c (.int .i64 4)))⟩, ⟨some 66, none, .mv (.t 67)⟩] none [1, 2, 51, 66]) (.cond (.t 66) (.seq (.reg [⟨some 68, none, .fa (.t 2) 2⟩, ⟨some 69, none, .load (.t 68) none⟩, ⟨some 70, none, .call 70 [(.t 69)]⟩, ⟨some 4, none, .mv (.t 70)⟩] none [4]) .ret) (.seq (.reg [⟨some 72, none, .bin false .eql (.t 51) (.k (.c (.int .i64 6)))⟩, ⟨some 71, none, .mv (.t 72)⟩] none [1, 2, 51, 71]) (.cond (.t 71) (.seq (.reg [⟨some 73, none, .fa (.t 2) 3⟩, ⟨some 74, none, .load (.t 73) none⟩, ⟨some 75, none, .len (.t 74) false⟩, ⟨some 76, none, .fa (.t 2) 4⟩, ⟨some 77, none, .load (.t 76) none⟩, ⟨some 78, none, .len (.t 77) false⟩, ⟨some 79, none, .bin false .neq (.t 75) (.t 78)⟩, ⟨some 80, none, .mv (.t 79)⟩, ⟨some 81, some (80, false), .fa (.t 2) 3⟩, ⟨some 82, some (80, false), .load (.t 81) none⟩, ⟨some 83, some (80, false), .call 71 [(.t 82)]⟩, ⟨some 84, some (80, false), .not (.t 83)⟩, ⟨some 85, none, .pick (.t 80) (.k (.c (.bool true))) (.t 84)⟩] none [1, 2, 85]) (.cond (.t 85) (.seq (.reg [⟨some 4, none, .mv (.k (.c (.bool false)))⟩] none [4]) .ret) .skip)) (.seq (.reg [⟨some 87, none, .bin false .eql (.t 51) (.k (.c (.int .i64 5)))⟩, ⟨some 86, none, .mv (.t 87)⟩] none [1, 2, 86]) (.cond (.t 86) .skip (.seq (.reg [⟨some 4, none, .mv (.k (.c (.bool false)))⟩] none [4]) .ret))))))))))))) (.seq (.seq (.reg [⟨some 5, none, .mv (.k (.c (.int .i64 0)))⟩] none [1, 2, 5]) (.block 1 (.loop (.seq (.seq (.reg [⟨some 88, none, .mv (.t 5)⟩, ⟨some 89, none, .fa (.t 2) 4⟩, ⟨some 90, none, .load (.t 89) none⟩, ⟨some 91, none, .len (.t 90) false⟩, ⟨some 92, none, .bin false .lss (.t 88) (.t 91)⟩] none [1, 2, 5, 92]) (.cond (.t 92) .skip (.exit 1))) (.seq (.block 2 (.seq (.reg [⟨some 95, none, .fa (.t 2) 4⟩, ⟨some 96, none, .load (.t 95) none⟩, ⟨some 97, none, .mv (.t 5)⟩, ⟨some 98, none, .ia (.t 96) (.t 97) 5⟩, ⟨some 99, none, .load (.t 98) (some 5)⟩, ⟨some 100, none, .mv (.t 1)⟩, ⟨some 101, none, .bin false .sub (.t 100) (.k (.c (.int .i64 1)))⟩, ⟨some 102, none, .call 34 [(.t 99), (.t 101)]⟩, ⟨some 103, none, .not (.t 102)⟩] none [1, 2, 5, 103]) (.cond (.t 103) (.seq (.reg [⟨some 4, none, .mv (.k (.c (.bool false)))⟩] none [4]) .ret) .skip))) (.reg [⟨some 93, none, .mv (.t 5)⟩, ⟨some 94, none, .bin false .add (.t 93) (.k (.c (.int .i64 1)))⟩, ⟨some 5, none, .mv (.t 94)⟩] none [1, 2, 5])))))) (.seq (.reg [⟨some 4, none, .mv (.k (.c (.bool true)))⟩] none [4]) .ret)))))
theorem chk_l1Form : chkX Tryd.prog 104 (Tryd.f34.body.getD .skip) x_l1Form = true := by kernel_rfl
theorem rs_l1Form : okRs Tryd.prog Tryd.f34.results.toList [.tmp 4] = true := by kernel_rfl
theorem call_l1Form : okCallee Tryd.prog 34 = true := by kernel_rfl
def x_l1Many : X := (.seq (.reg [⟨some 2, none, .box (.t 0) (some 5)⟩, ⟨some 4, none, .mv (.k (.c (.int .i64 0)))⟩] none [1, 2]) (.seq (.reg [⟨some 5, none, .mv (.k (.c (.int .i64 1)))⟩] none [1, 2, 5]) (.seq (.seq (.reg [⟨some 6, none, .mv (.k (.c (.int .i64 0)))⟩] none [1, 2, 5, 6]) (.block 0 (.loop (.seq (.seq (.reg [⟨some 7, none, .mv (.t 6)⟩, ⟨some 8, none, .fa (.t 2) 4⟩, ⟨some 9, none, .load (.t 8) none⟩, ⟨some 10, none, .len (.t 9) false⟩, ⟨some 11, none, .bin false .lss (.t 7) (.t 10)⟩, ⟨some 12, none, .mv (.t 11)⟩, ⟨some 13, some (12, true), .mv (.t 1)⟩, ⟨some 14, some (12, true), .bin false .gtr (.t 13) (.k (.c (.int .i64 0)))⟩, ⟨some 15, none, .pick (.t 12) (.t 14) (.k (.c (.bool false)))⟩] none [1, 2, 5, 6, 15]) (.cond (.t 15) .skip (.exit 0))) (.seq (.block 1 (.reg [⟨some 18, none, .mv (.t 5)⟩, ⟨some 19, none, .fa (.t 2) 4⟩, ⟨some 20, none, .load (.t 19) none⟩, ⟨some 21, none, .mv (.t 6)⟩, ⟨some 22, none, .ia (.t 20) (.t 21) 5⟩, ⟨some 23, none, .load (.t 22) (some 5)⟩, ⟨some 24, none, .mv (.t 1)⟩, ⟨some 25, none, .bin false .sub (.t 24) (.k (.c (.int .i64 1)))⟩, ⟨some 26, none, .call 35 [(.t 23), (.t 25)]⟩, ⟨some 27, none, .bin false .add (.t 18) (.t 26)⟩, ⟨some 5, none, .mv (.t 27)⟩] none [1, 2, 5, 6])) (.reg [⟨some 16, none, .mv (.t 6)⟩, ⟨some 17, none, .bin false .add (.t 16) (.k (.c (.int .i64 1)))⟩, ⟨some 6, none, .mv (.t 17)⟩] none [1, 2, 5, 6])))))) (.seq (.reg [⟨some 28, none, .mv (.t 5)⟩, ⟨some 4, none, .mv (.t 28)⟩] none [4]) .ret))))
theorem chk_l1Many : chkX Tryd.prog 29 (Tryd.f35.body.getD .skip) x_l1Many = true := by kernel_rfl
theorem rs_l1Many : okRs Tryd.prog Tryd.f35.results.toList [.tmp 4] = true := by kernel_rfl
theorem call_l1Many : okCallee Tryd.prog 35 = true := by kernel_rfl
def x_ValOk : X := (.seq (.reg [⟨some 1, none, .box (.t 0) (some 5)⟩, ⟨some 2, none, .mv (.k (.c (.bool false)))⟩] none [1]) (.seq (.reg [⟨some 3, none, .load (.t 1) (some 5)⟩, ⟨some 4, none, .call 34 [(.t 3), (.k (.c (.int .i64 6)))]⟩, ⟨some 5, none, .mv (.t 4)⟩, ⟨some 6, some (5, true), .load (.t 1) (some 5)⟩, ⟨some 7, some (5, true), .call 35 [(.t 6), (.k (.c (.int .i64 6)))]⟩, ⟨some 8, some (5, true), .bin false .leq (.t 7) (.k (.c (.int .i64 60)))⟩, ⟨some 9, none, .pick (.t 5) (.t 8) (.k (.c (.bool false)))⟩, ⟨some 2, none, .mv (.t 9)⟩] none [2]) .ret))
theorem chk_ValOk : chkX Tryd.prog 10 (Tryd.f10.body.getD .skip) x_ValOk = true := by kernel_rfl
theorem rs_ValOk : okRs Tryd.prog Tryd.f10.results.toList [.tmp 2] = true := by kernel_rfl
theorem call_ValOk : okCallee Tryd.prog 10 = true := by kernel_rfl
noncomputable def spOkS  : Spec := Spec.of (ι := ByteArray) [false] (fun i => [.d (.one (.str i))]) (fun i => lenB 140737488355328 i.size) (fun i => [.d (.one (.bool (decide (okS i))))]) (fun _ => [.gone])
theorem spOkS_inj : ∀ i j : ByteArray, (fun (i : ByteArray) => ([.d (.one (.str i))] : List AV)) i = (fun (i : ByteArray) => ([.d (.one (.str i))] : List AV)) j -> i = j := by
 intro s s' h
 simpa [strs_eq, T.enc_eq, encL_eq, F.enc_eq, encF_eq, Tk.enc_eq, encTk_eq, Gn.enc_eq, ints_eq] using h
theorem spOkS_md  : (spOkS).md = [false] := rfl
theorem spOkS_pre  (s : ByteArray) : (spOkS).pre [.d (.one (.str s))] = (lenB 140737488355328 s.size) := Spec.of_pre' spOkS_inj s
theorem spOkS_alts  : (spOkS).alts = none := rfl
theorem spOkS_res  (s : ByteArray) : (spOkS).res [.d (.one (.str s))] = [.d (.one (.bool (decide (okS s))))] := Spec.of_res spOkS_inj s
theorem spOkS_out  (s : ByteArray) : (spOkS).out [.d (.one (.str s))] = [.gone] := Spec.of_out spOkS_inj s
theorem l1Str_sound : Sound Tryd.prog 70 spOkS := by
 refine sound_fam GOK.nil Tryd.func70 (c := Tryd.f70.body.getD .skip) rfl (n := 23) rfl chk_l1Str rs_l1Str (fun _ => by simp) ?_ ?_
 ·exact spOkS_inj
 ·intro s h1
  simp only [lenB] at h1
  simp only [x_l1Str, rg, go_sem, seval]
  refine pw_loop (ι := Nat) (fun i => s.size - i) (fun i => i <= s.size /\ ∀ x ∈ s.data.toList.take i, letter x)
   (fun i => ⟨[(0, .q (.c (.str s))), (3, .q (.c (.int .i64 i)))], [], []⟩) 0 ⟨Nat.zero_le _, by simp⟩ (Le.refl _) ?_
  rintro i ⟨hi, hall⟩
  rcases Nat.lt_or_ge i s.size with hlt | hge
  ·obtain ⟨x, hx, hb, hmem⟩ := byteAt_get hlt
   have a2 : ((i : Int) < (s.size : Int)) = True := by simp; omega
   simp only [go_sem, seval, rg, a2, hb]
   repeat' (first | with_reducible assumption | with_reducible refine And.intro ?_ ?_ | intro _)
   all_goals first | omega | skip
   ·rename_i hc ho
    have := ho.1 x hmem
    unfold letter at this; omega
   ·rename_i hc _
    refine ⟨i + 1, ⟨by omega, fun y hy => ?_⟩, by omega, Le.refl _⟩
    rw [List.take_add_one, hx] at hy
    rcases List.mem_append.1 hy with hy | hy
    ·exact hall y hy
    ·simp at hy; subst hy; unfold letter; omega
  ·have a2 : ((i : Int) < (s.size : Int)) = False := by simp; omega
   simp only [go_sem, seval, a2]
   rw [decide_eq_decide]
   unfold okS
   rw [List.take_of_length_le (by simpa using hge)] at hall
   constructor
   ·intro h; omega
   ·intro h; exact ⟨hall, by omega⟩
noncomputable def spOkKeys  : Spec := Spec.of (ι := (List ByteArray)) [false] (fun i => [.d (.one (.row 1 (strs i)))]) (fun i => strsFit 140737488355328 i) (fun i => [.d (.one (.bool (decide (okKeys i))))]) (fun _ => [.gone])
theorem spOkKeys_inj : ∀ i j : (List ByteArray), (fun (i : (List ByteArray)) => ([.d (.one (.row 1 (strs i)))] : List AV)) i = (fun (i : (List ByteArray)) => ([.d (.one (.row 1 (strs i)))] : List AV)) j -> i = j := by
 intro ks ks' h
 simpa [strs_eq, T.enc_eq, encL_eq, F.enc_eq, encF_eq, Tk.enc_eq, encTk_eq, Gn.enc_eq, ints_eq] using h
theorem spOkKeys_md  : (spOkKeys).md = [false] := rfl
theorem spOkKeys_pre  (ks : List ByteArray) : (spOkKeys).pre [.d (.one (.row 1 (strs ks)))] = (strsFit 140737488355328 ks) := Spec.of_pre' spOkKeys_inj ks
theorem spOkKeys_alts  : (spOkKeys).alts = none := rfl
theorem spOkKeys_res  (ks : List ByteArray) : (spOkKeys).res [.d (.one (.row 1 (strs ks)))] = [.d (.one (.bool (decide (okKeys ks))))] := Spec.of_res spOkKeys_inj ks
theorem spOkKeys_out  (ks : List ByteArray) : (spOkKeys).out [.d (.one (.row 1 (strs ks)))] = [.gone] := Spec.of_out spOkKeys_inj ks
theorem l1Keys_sound : Sound Tryd.prog 71 spOkKeys := by
 refine sound_fam (GOK.cons call_l1Str l1Str_sound GOK.nil) Tryd.func71 (c := Tryd.f71.body.getD .skip) rfl (n := 32) rfl chk_l1Keys rs_l1Keys (fun _ => by simp) ?_ ?_
 ·exact spOkKeys_inj
 ·rintro ks ⟨h1, h2⟩
  simp only [lenB] at h1
  simp only [x_l1Keys, rg, go_sem, seval]
  refine pw_loop (ι := Nat) (fun i => ks.length - i) (fun i => i <= ks.length /\ okKeysN ks i)
   (fun i => ⟨[(0, .q (.c (.row 1 (strs ks)))), (3, .q (.c (.int .i64 i)))], [], []⟩) 0 ⟨Nat.zero_le _, okKeysN_zero ks⟩ (Le.refl _) ?_
  rintro i ⟨hi, hall⟩
  rcases Nat.lt_or_ge i ks.length with hlt | hge
  ·obtain ⟨s, hs, _, hmem⟩ := drop_at hlt
   have a1 := strs_at hs
   have a2 : ((i : Int) < (ks.length : Int)) = True := by simp; omega
   have a3 := h2 s hmem
   have a5 : ((i : Int) - 1).toNat = i - 1 := by omega
   obtain ⟨s', a6, a7⟩ : ∃ s', (strs ks).getD (i - 1) [] = [C.str s'] /\ ks[i - 1]? = some s' := by
    obtain ⟨s', hs', _, _⟩ := drop_at (l := ks) (i := i - 1) (by omega)
    exact ⟨s', strs_at hs', hs'⟩
   simp only [go_sem, seval, rg, a1, a2, a5, a6, spOkS_md, spOkS_pre, spOkS_alts, spOkS_res, spOkS_out]
   repeat' (first | with_reducible assumption | with_reducible refine And.intro ?_ ?_ | intro _)
   all_goals first | omega | skip
   ·rename_i hc ho
    have e1 := okKeys_at ho hs
    rcases hc with hc | ⟨hc, h⟩
    ·exact hc e1
    ·exact (sl_tri s s').2 (okKeys_lt ho (by omega) a7 hs) h
   ·rename_i hc _
    refine ⟨i + 1, ⟨by omega, okKeysN_succ hall hs (Classical.byContradiction fun h => hc (.inl h)) (fun b hb hb' => ?_)⟩, by omega, Le.refl _⟩
    rw [a7] at hb'; cases hb'
    exact (sl_tri s s').1 (fun h => hc (.inr ⟨by omega, h⟩))
  ·have a2 : ((i : Int) < (ks.length : Int)) = False := by simp; omega
   simp only [go_sem, seval, a2]
   have : i = ks.length := by omega
   subst this
   have hall' : okKeys ks := hall
   exact hall'
noncomputable def spForm (k:Nat) : Spec := Spec.of (ι := T × Int) [false, false] (fun i => [.d (.agg i.1.enc), .d (.one (.int .i64 i.2))]) (fun i => (i.1.fit 140737488355328 /\ -1 <= i.2 /\ i.2 <= 1000) /\ SizeOf.sizeOf i.1 < k) (fun i => [.d (.one (.bool (decide (formT i.1 i.2))))]) (fun _ => [.gone, .gone])
theorem spForm_inj : ∀ i j : T × Int, (fun (i : T × Int) => ([.d (.agg i.1.enc), .d (.one (.int .i64 i.2))] : List AV)) i = (fun (i : T × Int) => ([.d (.agg i.1.enc), .d (.one (.int .i64 i.2))] : List AV)) j -> i = j := by
 rintro ⟨t, d⟩ ⟨t', d'⟩ h
 simp only [Prod.mk.injEq]
 simpa [strs_eq, T.enc_eq, encL_eq, F.enc_eq, encF_eq, Tk.enc_eq, encTk_eq, Gn.enc_eq, ints_eq] using h
theorem spForm_md (k:Nat) : (spForm k).md = [false, false] := rfl
theorem spForm_pre (k:Nat) (t : T) (d : Int) : (spForm k).pre [.d (.agg t.enc), .d (.one (.int .i64 d))] = ((t.fit 140737488355328 /\ -1 <= d /\ d <= 1000) /\ SizeOf.sizeOf t < k) := Spec.of_pre' spForm_inj (t, d)
theorem spForm_alts (k:Nat) : (spForm k).alts = none := rfl
theorem spForm_res (k:Nat) (t : T) (d : Int) : (spForm k).res [.d (.agg t.enc), .d (.one (.int .i64 d))] = [.d (.one (.bool (decide (formT t d))))] := Spec.of_res spForm_inj (t, d)
theorem spForm_out (k:Nat) (t : T) (d : Int) : (spForm k).out [.d (.agg t.enc), .d (.one (.int .i64 d))] = [.gone, .gone] := Spec.of_out spForm_inj (t, d)
set_option maxHeartbeats 1000000 in
theorem l1Form_sound (k : Nat) (hS : Sound Tryd.prog 34 (spForm k)) : Sound Tryd.prog 34 (spForm (k + 1)) := by
 refine sound_fam (GOK.cons (l := [(71, spOkKeys), (34, spForm k)]) call_l1Str l1Str_sound (GOK.cons call_l1Keys l1Keys_sound (GOK.cons call_l1Form hS GOK.nil))) Tryd.func34 (c := Tryd.f34.body.getD .skip) rfl (n := 104) rfl chk_l1Form rs_l1Form (fun _ => by simp) ?_ ?_
 ·exact spForm_inj
 ·rintro ⟨t, d⟩ ⟨⟨h1, h2, h3⟩, h4⟩
  obtain ⟨kk, n, s, ks, l⟩ := t
  simp only [T.fit, lenB] at h1
  obtain ⟨_, _, f1, f2, f3, f4⟩ := h1
  have e3 : SizeOf.sizeOf l < k := by have e : SizeOf.sizeOf (T.mk kk n s ks l) < k + 1 := h4
                                      rw [T.mk.sizeOf_spec] at e; omega
  simp only at h2 h3
  have hF : formT (T.mk kk n s ks l) d ↔ (1 <= d /\ (kk = 3 \/ n = 0) /\ (kk = 4 \/ s = ⟨#[]⟩) /\ (kk = 6 \/ ks.length = 0) /\ (5 <= kk \/ l.length = 0) /\ 0 <= kk /\ kk <= 6 /\ -1000000 <= n /\ n <= 1000000 /\ okS s /\ (kk = 6 -> ks.length = l.length /\ okKeys ks) /\ formL l (d - 1)) := by
   simp only [formT, List.length_eq_zero_iff]
  have hN := okS_nil
  have f1' : lenB 140737488355328 s.size := f1
  have hL : l.length = 0 -> formL l (d - 1) := formL_len
  simp only [x_l1Form, T.enc, go_sem, seval, rg, spOkS_md, spOkS_pre, spOkS_alts, spOkS_res, spOkS_out, spOkKeys_md, spOkKeys_pre, spOkKeys_alts, spOkKeys_res, spOkKeys_out]
  repeat' (first | with_reducible assumption | with_reducible refine And.intro ?_ ?_ | intro _)
  all_goals first | omega | (grind; done) | skip
  all_goals
   have hb : formT (T.mk kk n s ks l) d ↔ formL l (d - 1) := by grind
   have hd : 1 <= d := by omega
   clear hF hN hL
   repeat (rename_i hx; clear hx)
   refine pw_loop (ι := Nat) (fun i => l.length - i) (fun i => i <= l.length /\ ∀ t ∈ l.take i, formT t (d - 1))
    (fun i => ⟨[(1, .q (.c (.int .i64 d))), (2, .q (.box 2 0)), (5, .q (.c (.int .i64 i)))], [(2, [.c (.int .i64 kk), .c (.int .i64 n), .c (.str s), .c (.row 1 (strs ks)), .c (.row 5 (encL l))])], []⟩) 0 ⟨Nat.zero_le _, by simp⟩ (Le.refl _) ?_
   rintro i ⟨hi, hall⟩
   rcases Nat.lt_or_ge i l.length with hlt | hge
   ·obtain ⟨t, ht, _, hmem⟩ := drop_at hlt
    have a1 := encL_at ht
    have a2 : ((i : Int) < (l.length : Int)) = True := by simp; omega
    have a3 := fitL_mem f4 t hmem
    have a4 := size_mem hmem
    have a6 := T.enc_len t
    simp only [go_sem, seval, rg, a1, a2, a6, spForm_md, spForm_pre, spForm_alts, spForm_res, spForm_out]
    repeat' (first | with_reducible assumption | with_reducible refine And.intro ?_ ?_ | intro _)
    all_goals first | omega | skip
    ·rename_i hc ho
     exact hc (formL_mem.1 (hb.1 ho) t hmem)
    ·rename_i hc _
     refine ⟨i + 1, ⟨by omega, fun y hy => ?_⟩, by omega, Le.refl _⟩
     rw [List.take_add_one, ht] at hy
     rcases List.mem_append.1 hy with hy | hy
     ·exact hall y hy
     ·simp at hy; subst hy; exact Classical.not_not.1 hc
   ·have a2 : ((i : Int) < (l.length : Int)) = False := by simp; omega
    simp only [go_sem, seval, rg, a2]
    rw [List.take_of_length_le hge] at hall
    exact hb.2 (formL_mem.2 hall)
noncomputable def spMany (k:Nat) : Spec := Spec.of (ι := T × Int) [false, false] (fun i => [.d (.agg i.1.enc), .d (.one (.int .i64 i.2))]) (fun i => (i.1.fit 140737488355328 /\ sizeT i.1 <= 1048577 /\ -1 <= i.2 /\ i.2 <= 1000) /\ SizeOf.sizeOf i.1 < k) (fun i => [.d (.one (.int .i64 (manyT i.1 i.2)))]) (fun _ => [.gone, .gone])
theorem spMany_inj : ∀ i j : T × Int, (fun (i : T × Int) => ([.d (.agg i.1.enc), .d (.one (.int .i64 i.2))] : List AV)) i = (fun (i : T × Int) => ([.d (.agg i.1.enc), .d (.one (.int .i64 i.2))] : List AV)) j -> i = j := by
 rintro ⟨t, d⟩ ⟨t', d'⟩ h
 simp only [Prod.mk.injEq]
 simpa [strs_eq, T.enc_eq, encL_eq, F.enc_eq, encF_eq, Tk.enc_eq, encTk_eq, Gn.enc_eq, ints_eq] using h
theorem spMany_md (k:Nat) : (spMany k).md = [false, false] := rfl
theorem spMany_pre (k:Nat) (t : T) (d : Int) : (spMany k).pre [.d (.agg t.enc), .d (.one (.int .i64 d))] = ((t.fit 140737488355328 /\ sizeT t <= 1048577 /\ -1 <= d /\ d <= 1000) /\ SizeOf.sizeOf t < k) := Spec.of_pre' spMany_inj (t, d)
theorem spMany_alts (k:Nat) : (spMany k).alts = none := rfl
theorem spMany_res (k:Nat) (t : T) (d : Int) : (spMany k).res [.d (.agg t.enc), .d (.one (.int .i64 d))] = [.d (.one (.int .i64 (manyT t d)))] := Spec.of_res spMany_inj (t, d)
theorem spMany_out (k:Nat) (t : T) (d : Int) : (spMany k).out [.d (.agg t.enc), .d (.one (.int .i64 d))] = [.gone, .gone] := Spec.of_out spMany_inj (t, d)
theorem l1Many_sound (k : Nat) (hS : Sound Tryd.prog 35 (spMany k)) : Sound Tryd.prog 35 (spMany (k + 1)) := by
 refine sound_fam (GOK.cons call_l1Many hS GOK.nil) Tryd.func35 (c := Tryd.f35.body.getD .skip) rfl (n := 29) rfl chk_l1Many rs_l1Many (fun _ => by simp) ?_ ?_
 ·exact spMany_inj
 ·rintro ⟨t, d⟩ ⟨⟨h1, h2, h3, h3'⟩, h4⟩
  obtain ⟨kk, n, s, ks, l⟩ := t
  simp only [T.fit, lenB] at h1
  obtain ⟨_, _, f1, f2, f3, f4⟩ := h1
  have e3 : SizeOf.sizeOf l < k := by have e : SizeOf.sizeOf (T.mk kk n s ks l) < k + 1 := h4
                                      rw [T.mk.sizeOf_spec] at e; omega
  simp only [sizeT] at h2 h3 h3'
  simp only [x_l1Many, T.enc, go_sem, seval, rg, manyT]
  refine pw_loop (ι := Nat × Int) (fun i => l.length - i.1) (fun i => i.1 <= l.length /\ 1 <= i.2 /\ i.2 + manyL (l.drop i.1) d = 1 + manyL l d /\ i.2 + sizeL (l.drop i.1) <= 1 + sizeL l)
   (fun i => ⟨[(1, .q (.c (.int .i64 d))), (2, .q (.box 2 0)), (5, .q (.c (.int .i64 i.2))), (6, .q (.c (.int .i64 i.1)))], [(2, [.c (.int .i64 kk), .c (.int .i64 n), .c (.str s), .c (.row 1 (strs ks)), .c (.row 5 (encL l))])], []⟩) (0, 1) ⟨Nat.zero_le _, by simp, by simp, by simp⟩ (Le.refl _) ?_
  rintro ⟨i, m⟩ ⟨hi, hm, hsum, hsz⟩
  simp only at hi hm hsum hsz
  have hz := fun l => manyL_le l d
  rcases Nat.lt_or_ge i l.length with hlt | hge
  ·obtain ⟨t, ht, hdr, hmem⟩ := drop_at hlt
   have a1 := encL_at ht
   have a2 : ((i : Int) < (l.length : Int)) = True := by simp; omega
   have a3 := fitL_mem f4 t hmem
   have a4 := size_mem hmem
   have a5 := sizeL_at ht
   have a6 := T.enc_len t
   have a7 := manyT_le t (d - 1)
   have a8 := hz (l.drop (i + 1))
   rw [hdr] at hsum hsz
   simp only [manyL, sizeL] at hsum hsz
   simp only [go_sem, seval, rg, a1, a2, a6, spMany_md, spMany_pre, spMany_alts, spMany_res, spMany_out]
   repeat' (first | with_reducible assumption | with_reducible refine And.intro ?_ ?_ | intro _)
   all_goals first | omega | skip
   ·rename_i hd _ _
    rw [if_pos (by omega)] at hsum
    refine ⟨(i + 1, m + manyT t (d - 1)), ⟨by simp only; omega, by simp only; omega, by simp only; omega, by simp only; omega⟩, by simp only; omega, Le.refl _⟩
  ·have a2 : ((i : Int) < (l.length : Int)) = False := by simp; omega
   rw [List.drop_eq_nil_of_le hge] at hsum
   simp only [manyL] at hsum
   simp only [go_sem, seval, rg, a2]
   repeat' (first | with_reducible assumption | with_reducible refine And.intro ?_ ?_ | intro _)
   all_goals first | omega | skip
theorem form_sound : ∀ k, Sound Tryd.prog 34 (spForm k) := fun k => Nat.rec Sound.none (fun k ih => l1Form_sound k ih) k
theorem many_sound : ∀ k, Sound Tryd.prog 35 (spMany k) := fun k => Nat.rec Sound.none (fun k ih => l1Many_sound k ih) k
noncomputable def spFormV  : Spec := Spec.of (ι := T × Int) [false, false] (fun i => [.d (.agg i.1.enc), .d (.one (.int .i64 i.2))]) (fun i => i.1.fit 140737488355328 /\ -1 <= i.2 /\ i.2 <= 1000) (fun i => [.d (.one (.bool (decide (formT i.1 i.2))))]) (fun _ => [.gone, .gone])
theorem spFormV_inj : ∀ i j : T × Int, (fun (i : T × Int) => ([.d (.agg i.1.enc), .d (.one (.int .i64 i.2))] : List AV)) i = (fun (i : T × Int) => ([.d (.agg i.1.enc), .d (.one (.int .i64 i.2))] : List AV)) j -> i = j := by
 rintro ⟨t, d⟩ ⟨t', d'⟩ h
 simp only [Prod.mk.injEq]
 simpa [strs_eq, T.enc_eq, encL_eq, F.enc_eq, encF_eq, Tk.enc_eq, encTk_eq, Gn.enc_eq, ints_eq] using h
theorem spFormV_md  : (spFormV).md = [false, false] := rfl
theorem spFormV_pre  (t : T) (d : Int) : (spFormV).pre [.d (.agg t.enc), .d (.one (.int .i64 d))] = (t.fit 140737488355328 /\ -1 <= d /\ d <= 1000) := Spec.of_pre' spFormV_inj (t, d)
theorem spFormV_alts  : (spFormV).alts = none := rfl
theorem spFormV_res  (t : T) (d : Int) : (spFormV).res [.d (.agg t.enc), .d (.one (.int .i64 d))] = [.d (.one (.bool (decide (formT t d))))] := Spec.of_res spFormV_inj (t, d)
theorem spFormV_out  (t : T) (d : Int) : (spFormV).out [.d (.agg t.enc), .d (.one (.int .i64 d))] = [.gone, .gone] := Spec.of_out spFormV_inj (t, d)
noncomputable def spManyV  : Spec := Spec.of (ι := T × Int) [false, false] (fun i => [.d (.agg i.1.enc), .d (.one (.int .i64 i.2))]) (fun i => i.1.fit 140737488355328 /\ sizeT i.1 <= 1048577 /\ -1 <= i.2 /\ i.2 <= 1000) (fun i => [.d (.one (.int .i64 (manyT i.1 i.2)))]) (fun _ => [.gone, .gone])
theorem spManyV_inj : ∀ i j : T × Int, (fun (i : T × Int) => ([.d (.agg i.1.enc), .d (.one (.int .i64 i.2))] : List AV)) i = (fun (i : T × Int) => ([.d (.agg i.1.enc), .d (.one (.int .i64 i.2))] : List AV)) j -> i = j := by
 rintro ⟨t, d⟩ ⟨t', d'⟩ h
 simp only [Prod.mk.injEq]
 simpa [strs_eq, T.enc_eq, encL_eq, F.enc_eq, encF_eq, Tk.enc_eq, encTk_eq, Gn.enc_eq, ints_eq] using h
theorem spManyV_md  : (spManyV).md = [false, false] := rfl
theorem spManyV_pre  (t : T) (d : Int) : (spManyV).pre [.d (.agg t.enc), .d (.one (.int .i64 d))] = (t.fit 140737488355328 /\ sizeT t <= 1048577 /\ -1 <= d /\ d <= 1000) := Spec.of_pre' spManyV_inj (t, d)
theorem spManyV_alts  : (spManyV).alts = none := rfl
theorem spManyV_res  (t : T) (d : Int) : (spManyV).res [.d (.agg t.enc), .d (.one (.int .i64 d))] = [.d (.one (.int .i64 (manyT t d)))] := Spec.of_res spManyV_inj (t, d)
theorem spManyV_out  (t : T) (d : Int) : (spManyV).out [.d (.agg t.enc), .d (.one (.int .i64 d))] = [.gone, .gone] := Spec.of_out spManyV_inj (t, d)
theorem formV_sound : Sound Tryd.prog 34 spFormV := Sound.all (μ := fun i => SizeOf.sizeOf i.1) form_sound
theorem manyV_sound : Sound Tryd.prog 35 spManyV := Sound.all (μ := fun i => SizeOf.sizeOf i.1) many_sound
noncomputable def spOkT  : Spec := Spec.of (ι := T) [false] (fun i => [.d (.agg i.enc)]) (fun i => i.fit 140737488355328 /\ sizeT i <= 1048577) (fun i => [.d (.one (.bool (decide (okT i))))]) (fun _ => [.gone])
theorem spOkT_inj : ∀ i j : T, (fun (i : T) => ([.d (.agg i.enc)] : List AV)) i = (fun (i : T) => ([.d (.agg i.enc)] : List AV)) j -> i = j := by
 intro t t' h
 simpa [strs_eq, T.enc_eq, encL_eq, F.enc_eq, encF_eq, Tk.enc_eq, encTk_eq, Gn.enc_eq, ints_eq] using h
theorem spOkT_md  : (spOkT).md = [false] := rfl
theorem spOkT_pre  (t : T) : (spOkT).pre [.d (.agg t.enc)] = (t.fit 140737488355328 /\ sizeT t <= 1048577) := Spec.of_pre' spOkT_inj t
theorem spOkT_alts  : (spOkT).alts = none := rfl
theorem spOkT_res  (t : T) : (spOkT).res [.d (.agg t.enc)] = [.d (.one (.bool (decide (okT t))))] := Spec.of_res spOkT_inj t
theorem spOkT_out  (t : T) : (spOkT).out [.d (.agg t.enc)] = [.gone] := Spec.of_out spOkT_inj t
theorem sOkT_sound : Sound Tryd.prog 10 spOkT := by
 refine sound_fam (GOK.cons (l := [(35, spManyV)]) call_l1Form formV_sound (GOK.cons call_l1Many manyV_sound GOK.nil)) Tryd.func10 (c := Tryd.f10.body.getD .skip) rfl (n := 10) rfl chk_ValOk rs_ValOk (fun _ => by simp) ?_ ?_
 ·exact spOkT_inj
 ·rintro t ⟨h1, h2⟩
  have a6 := T.enc_len t
  simp only [x_ValOk, go_sem, seval, rg, a6, List.length_map, List.drop_zero, spFormV_md, spFormV_pre, spFormV_alts, spFormV_res, spFormV_out, spManyV_md, spManyV_pre, spManyV_alts, spManyV_res, spManyV_out]
  repeat' (first | with_reducible assumption | with_reducible refine And.intro ?_ ?_ | intro _)
  all_goals first | omega | skip
  exact decide_eq_decide.2 Iff.rfl
end Go.Proofs.Pw
