/- Ways: which are, and one step. -/
import Derived.Test.YtgpjodcopajlkaaDoorPwT14
import Derived.Test.YtgpjodcopajlkaaDoorPwT19
import Derived.Test.YtgpjodcopajlkaaDoorPwT11
import Derived.Test.YtgpjodcopajlkaaDoorPwT18
set_option linter.unusedSimpArgs false
set_option linter.unusedVariables false
set_option linter.unusedSectionVars false
set_option maxRecDepth 20000
namespace Go.Proofs.Pw
variable [Globs]
def x_PathOkI : X := (.seq (.reg [⟨some 2, none, .mv (.k (.c (.bool false)))⟩] none [0]) (.seq (.seq (.reg [⟨some 5, none, .mv (.t 0)⟩, ⟨some 6, none, .len (.t 5) false⟩, ⟨some 7, none, .mv (.k (.c (.int .i64 0)))⟩] none [0, 5, 6, 7]) (.block 0 (.loop (.seq (.reg [⟨some 8, none, .bin false .lss (.t 7) (.t 6)⟩] none [0, 5, 6, 7, 8]) (.seq (.cond (.t 8) .skip (.exit 0)) (.seq (.block 1 (.seq (.reg [⟨some 9, none, .ia (.t 5) (.t 7) 3⟩, ⟨some 10, none, .load (.t 9) (some 3)⟩, ⟨some 4, none, .alloc [(.c (.bool false)), (.c (.str ⟨#[]⟩)), (.c (.int .i64 0))]⟩, ⟨none, none, .st (.t 4) (.t 10) (some 3)⟩] none [0, 4, 5, 6, 7]) (.seq (.reg [⟨some 11, none, .fa (.t 4) 0⟩, ⟨some 12, none, .load (.t 11) none⟩, ⟨some 13, none, .mv (.t 12)⟩, ⟨some 14, some (13, true), .fa (.t 4) 1⟩, ⟨some 15, some (13, true), .load (.t 14) none⟩, ⟨some 16, some (13, true), .call 56 [(.t 15)]⟩, ⟨some 17, some (13, true), .not (.t 16)⟩, ⟨some 18, some (13, true), .mv (.t 17)⟩, ⟨some 19, some (18, false), .fa (.t 4) 2⟩, ⟨some 20, some (18, false), .load (.t 19) none⟩, ⟨some 21, some (18, false), .bin false .neq (.t 20) (.k (.c (.int .i64 0)))⟩, ⟨some 22, some (13, true), .pick (.t 18) (.k (.c (.bool true))) (.t 21)⟩, ⟨some 23, none, .pick (.t 13) (.t 22) (.k (.c (.bool false)))⟩, ⟨some 24, none, .mv (.t 23)⟩, ⟨some 25, some (24, false), .fa (.t 4) 0⟩, ⟨some 26, some (24, false), .load (.t 25) none⟩, ⟨some 27, some (24, false), .not (.t 26)⟩, ⟨some 28, some (24, false), .mv (.t 27)⟩, ⟨some 29, some (28, true), .fa (.t 4) 1⟩, ⟨some 30, some (28, true), .load (.t 29) none⟩, ⟨some 31, some (28, true), .bin false .neq (.t 30) (.k (.c (.str ⟨#[]⟩)))⟩, ⟨some 32, some (28, true), .mv (.t 31)⟩, ⟨some 33, some (32, false), .fa (.t 4) 2⟩, ⟨some 34, some (32, false), .load (.t 33) none⟩, ⟨some 35, some (32, false), .call 57 [(.t 34), (.k (.c (.int .i64 (-60)))), (.k (.c (.int .i64 59)))]⟩, ⟨some 36, some (32, false), .not (.t 35)⟩, ⟨some 37, some (28, true), .pick (.t 32) (.k (.c (.bool true))) (.t 36)⟩, ⟨some 38, some (24, false), .pick (.t 28) (.t 37) (.k (.c (.bool false)))⟩, ⟨some 39, none, .pick (.t 24) (.k (.c (.bool true))) (.t 38)⟩] none [0, 5, 6, 7, 39]) (.cond (.t 39) (.seq (.reg [⟨some 2, none, .mv (.k (.c (.bool false)))⟩] none [2]) .ret) .skip)))) (.reg [⟨some 40, none, .bin false .add (.t 7) (.k (.c (.int .i64 1)))⟩, ⟨some 7, none, .mv (.t 40)⟩] none [0, 5, 6, 7]))))))) (.seq (.reg [⟨some 41, none, .mv (.t 0)⟩, ⟨some 42, none, .len (.t 41) false⟩, ⟨some 43, none, .bin false .leq (.t 42) (.k (.c (.int .i64 6)))⟩, ⟨some 2, none, .mv (.t 43)⟩] none [2]) .ret)))
theorem chk_PathOkI : chkX Tryd.prog 44 (Tryd.f23.body.getD .skip) x_PathOkI = true := by kernel_rfl
theorem rs_PathOkI : okRs Tryd.prog Tryd.f23.results.toList [.tmp 2] = true := by kernel_rfl
theorem call_PathOkI : okCallee Tryd.prog 23 = true := by kernel_rfl
def x_l3Step : X := (.seq (.reg [⟨some 1, none, .box (.t 0) (some 3)⟩, ⟨some 2, none, .mv (.k (.c (.bool false)))⟩] none [1]) (.seq (.seq (.reg [⟨some 3, none, .fa (.t 1) 0⟩, ⟨some 4, none, .load (.t 3) none⟩] none [1, 4]) (.cond (.t 4) (.seq (.reg [⟨some 5, none, .fa (.t 1) 1⟩, ⟨some 6, none, .load (.t 5) none⟩, ⟨some 7, none, .call 70 [(.t 6)]⟩, ⟨some 8, none, .mv (.t 7)⟩, ⟨some 9, some (8, true), .fa (.t 1) 2⟩, ⟨some 10, some (8, true), .load (.t 9) none⟩, ⟨some 11, some (8, true), .bin false .eql (.t 10) (.k (.c (.int .i64 0)))⟩, ⟨some 12, none, .pick (.t 8) (.t 11) (.k (.c (.bool false)))⟩, ⟨some 2, none, .mv (.t 12)⟩] none [2]) .ret) .skip)) (.seq (.reg [⟨some 13, none, .fa (.t 1) 1⟩, ⟨some 14, none, .load (.t 13) none⟩, ⟨some 15, none, .bin false .eql (.t 14) (.k (.c (.str ⟨#[]⟩)))⟩, ⟨some 16, none, .mv (.t 15)⟩, ⟨some 17, some (16, true), .fa (.t 1) 2⟩, ⟨some 18, some (16, true), .load (.t 17) none⟩, ⟨some 19, some (16, true), .bin false .geq (.t 18) (.k (.c (.int .i64 (-60))))⟩, ⟨some 20, none, .pick (.t 16) (.t 19) (.k (.c (.bool false)))⟩, ⟨some 21, none, .mv (.t 20)⟩, ⟨some 22, some (21, true), .fa (.t 1) 2⟩, ⟨some 23, some (21, true), .load (.t 22) none⟩, ⟨some 24, some (21, true), .bin false .lss (.t 23) (.k (.c (.int .i64 60)))⟩, ⟨some 25, none, .pick (.t 21) (.t 24) (.k (.c (.bool false)))⟩, ⟨some 2, none, .mv (.t 25)⟩] none [2]) .ret)))
theorem chk_l3Step : chkX Tryd.prog 26 (Tryd.f58.body.getD .skip) x_l3Step = true := by kernel_rfl
theorem rs_l3Step : okRs Tryd.prog Tryd.f58.results.toList [.tmp 2] = true := by kernel_rfl
theorem call_l3Step : okCallee Tryd.prog 58 = true := by kernel_rfl
def x_PathOk : X := (.seq (.reg [⟨some 2, none, .mv (.k (.c (.bool false)))⟩] none [0]) (.seq (.seq (.reg [⟨some 3, none, .mv (.k (.c (.int .i64 0)))⟩] none [0, 3]) (.block 0 (.loop (.seq (.seq (.reg [⟨some 4, none, .mv (.t 3)⟩, ⟨some 5, none, .mv (.t 0)⟩, ⟨some 6, none, .len (.t 5) false⟩, ⟨some 7, none, .bin false .lss (.t 4) (.t 6)⟩] none [0, 3, 7]) (.cond (.t 7) .skip (.exit 0))) (.seq (.block 1 (.seq (.reg [⟨some 10, none, .mv (.t 0)⟩, ⟨some 11, none, .mv (.t 3)⟩, ⟨some 12, none, .ia (.t 10) (.t 11) 3⟩, ⟨some 13, none, .load (.t 12) (some 3)⟩, ⟨some 14, none, .call 58 [(.t 13)]⟩, ⟨some 15, none, .not (.t 14)⟩] none [0, 3, 15]) (.cond (.t 15) (.seq (.reg [⟨some 2, none, .mv (.k (.c (.bool false)))⟩] none [2]) .ret) .skip))) (.reg [⟨some 8, none, .mv (.t 3)⟩, ⟨some 9, none, .bin false .add (.t 8) (.k (.c (.int .i64 1)))⟩, ⟨some 3, none, .mv (.t 9)⟩] none [0, 3])))))) (.seq (.reg [⟨some 16, none, .mv (.t 0)⟩, ⟨some 17, none, .len (.t 16) false⟩, ⟨some 18, none, .bin false .leq (.t 17) (.k (.c (.int .i64 6)))⟩, ⟨some 2, none, .mv (.t 18)⟩] none [2]) .ret)))
theorem chk_PathOk : chkX Tryd.prog 19 (Tryd.f24.body.getD .skip) x_PathOk = true := by kernel_rfl
theorem rs_PathOk : okRs Tryd.prog Tryd.f24.results.toList [.tmp 2] = true := by kernel_rfl
theorem call_PathOk : okCallee Tryd.prog 24 = true := by kernel_rfl
def x_place : X := (.seq (.reg [⟨some 2, none, .box (.t 0) (some 5)⟩, ⟨some 4, none, .mv (.k (.c (.int .i64 0)))⟩] none [1, 2]) (.seq (.seq (.reg [⟨some 5, none, .mv (.t 1)⟩, ⟨some 6, none, .bin false .lss (.t 5) (.k (.c (.int .i64 0)))⟩] none [1, 2, 6]) (.cond (.t 6) (.reg [⟨some 7, none, .mv (.t 1)⟩, ⟨some 8, none, .fa (.t 2) 4⟩, ⟨some 9, none, .load (.t 8) none⟩, ⟨some 10, none, .len (.t 9) false⟩, ⟨some 11, none, .bin false .add (.t 7) (.t 10)⟩, ⟨some 1, none, .mv (.t 11)⟩] none [1, 2]) .skip)) (.seq (.seq (.reg [⟨some 12, none, .mv (.t 1)⟩, ⟨some 13, none, .fa (.t 2) 4⟩, ⟨some 14, none, .load (.t 13) none⟩, ⟨some 15, none, .len (.t 14) false⟩, ⟨some 16, none, .bin false .sub (.t 15) (.k (.c (.int .i64 1)))⟩, ⟨some 17, none, .call 57 [(.t 12), (.k (.c (.int .i64 0))), (.t 16)]⟩, ⟨some 18, none, .not (.t 17)⟩] none [1, 18]) (.cond (.t 18) (.seq (.reg [⟨some 4, none, .mv (.k (.c (.int .i64 (-1))))⟩] none [4]) .ret) .skip)) (.seq (.reg [⟨some 19, none, .mv (.t 1)⟩, ⟨some 4, none, .mv (.t 19)⟩] none [4]) .ret))))
theorem chk_place : chkX Tryd.prog 20 (Tryd.f102.body.getD .skip) x_place = true := by kernel_rfl
theorem rs_place : okRs Tryd.prog Tryd.f102.results.toList [.tmp 4] = true := by kernel_rfl
theorem call_place : okCallee Tryd.prog 102 = true := by kernel_rfl
def x_at : X := (.seq (.reg [⟨some 2, none, .box (.t 0) (some 5)⟩, ⟨some 4, none, .alloc [(.c (.int .i64 0)), (.c (.int .i64 0)), (.c (.str ⟨#[]⟩)), (.z 1), (.z 5)]⟩, ⟨some 5, none, .mv (.k (.c (.bool false)))⟩] none [1, 2, 4]) (.seq (.seq (.reg [⟨some 7, none, .fa (.t 2) 0⟩, ⟨some 8, none, .load (.t 7) none⟩, ⟨some 9, none, .bin false .eql (.t 8) (.k (.c (.int .i64 5)))⟩] none [1, 2, 4, 9]) (.cond (.t 9) (.seq (.reg [⟨some 10, none, .load (.t 2) (some 5)⟩, ⟨some 11, none, .mv (.t 1)⟩, ⟨some 12, none, .call 102 [(.t 10), (.t 11)]⟩, ⟨some 6, none, .mv (.t 12)⟩] none [2, 4, 6]) (.seq (.reg [⟨some 13, none, .mv (.t 6)⟩, ⟨some 14, none, .bin false .geq (.t 13) (.k (.c (.int .i64 0)))⟩] none [2, 4, 6, 14]) (.cond (.t 14) (.seq (.reg [⟨some 15, none, .fa (.t 2) 4⟩, ⟨some 16, none, .load (.t 15) none⟩, ⟨some 17, none, .mv (.t 6)⟩, ⟨some 18, none, .ia (.t 16) (.t 17) 5⟩, ⟨some 19, none, .load (.t 18) (some 5)⟩, ⟨none, none, .st (.t 4) (.t 19) (some 5)⟩, ⟨some 5, none, .mv (.k (.c (.bool true)))⟩] none [4, 5]) .ret) .skip))) .skip)) (.seq (.mix [⟨some 20, none, .build [(.c (.int .i64 0)), (.c (.int .i64 0)), (.c (.str ⟨#[]⟩)), (.z 1), (.z 5)] []⟩, ⟨some 21, none, .fa (.t 2) 0⟩, ⟨some 22, none, .load (.t 21) none⟩, ⟨some 23, none, .bin false .eql (.t 22) (.k (.c (.int .i64 5)))⟩, ⟨some 24, none, .mv (.t 23)⟩, ⟨some 25, some (24, false), .fa (.t 2) 0⟩, ⟨some 26, some (24, false), .load (.t 25) none⟩, ⟨some 27, some (24, false), .bin false .eql (.t 26) (.k (.c (.int .i64 0)))⟩, ⟨some 28, none, .pick (.t 24) (.k (.c (.bool true))) (.t 27)⟩, ⟨none, none, .st (.t 4) (.t 20) (some 5)⟩] [⟨some 5, none, .mv (.t 28)⟩] [[], [], [], [], [], [], [], [], [], [6]] [4, 5]) .ret)))
theorem chk_at : chkX Tryd.prog 29 (Tryd.f86.body.getD .skip) x_at = true := by kernel_rfl
theorem rs_at : okRs Tryd.prog Tryd.f86.results.toList [.cell 4 (some 5), .tmp 5] = true := by kernel_rfl
theorem call_at : okCallee Tryd.prog 86 = true := by kernel_rfl
def x_vstep : X := (.seq (.reg [⟨some 2, none, .box (.t 0) (some 5)⟩, ⟨some 3, none, .box (.t 1) (some 3)⟩, ⟨some 4, none, .alloc [(.c (.int .i64 0)), (.c (.int .i64 0)), (.c (.str ⟨#[]⟩)), (.z 1), (.z 5)]⟩, ⟨some 5, none, .mv (.k (.c (.bool false)))⟩] none [2, 3, 4]) (.seq (.seq (.reg [⟨some 6, none, .fa (.t 3) 0⟩, ⟨some 7, none, .load (.t 6) none⟩] none [2, 3, 4, 7]) (.cond (.t 7) (.seq (.reg [⟨some 8, none, .load (.t 2) (some 5)⟩, ⟨some 9, none, .fa (.t 3) 1⟩, ⟨some 10, none, .load (.t 9) none⟩, ⟨some 11, none, .call 85 [(.t 8), (.t 10)]⟩, ⟨some 12, none, .ext (.t 11) 0⟩, ⟨some 13, none, .ext (.t 11) 1⟩, ⟨none, none, .st (.t 4) (.t 12) (some 5)⟩, ⟨some 5, none, .mv (.t 13)⟩] none [4, 5]) .ret) .skip)) (.seq (.reg [⟨some 14, none, .load (.t 2) (some 5)⟩, ⟨some 15, none, .fa (.t 3) 2⟩, ⟨some 16, none, .load (.t 15) none⟩, ⟨some 17, none, .call 86 [(.t 14), (.t 16)]⟩, ⟨some 18, none, .ext (.t 17) 0⟩, ⟨some 19, none, .ext (.t 17) 1⟩, ⟨none, none, .st (.t 4) (.t 18) (some 5)⟩, ⟨some 5, none, .mv (.t 19)⟩] none [4, 5]) .ret)))
theorem chk_vstep : chkX Tryd.prog 20 (Tryd.f63.body.getD .skip) x_vstep = true := by kernel_rfl
theorem rs_vstep : okRs Tryd.prog Tryd.f63.results.toList [.cell 4 (some 5), .tmp 5] = true := by kernel_rfl
theorem call_vstep : okCallee Tryd.prog 63 = true := by kernel_rfl
def x_l2Place : X := (.seq (.reg [⟨some 4, none, .mv (.k (.c (.int .i64 0)))⟩] none [0, 1]) (.seq (.seq (.reg [⟨some 5, none, .mv (.t 0)⟩, ⟨some 6, none, .mv (.t 1)⟩, ⟨some 7, none, .bin false .sub (.k (.c (.int .i64 0))) (.t 6)⟩, ⟨some 8, none, .bin false .lss (.t 5) (.t 7)⟩, ⟨some 9, none, .mv (.t 8)⟩, ⟨some 10, some (9, false), .mv (.t 0)⟩, ⟨some 11, some (9, false), .mv (.t 1)⟩, ⟨some 12, some (9, false), .bin false .geq (.t 10) (.t 11)⟩, ⟨some 13, none, .pick (.t 9) (.k (.c (.bool true))) (.t 12)⟩] none [0, 1, 13]) (.cond (.t 13) (.seq (.reg [⟨some 4, none, .mv (.k (.c (.int .i64 (-1))))⟩] none [4]) .ret) .skip)) (.seq (.seq (.reg [⟨some 14, none, .mv (.t 0)⟩, ⟨some 15, none, .bin false .lss (.t 14) (.k (.c (.int .i64 0)))⟩] none [0, 1, 15]) (.cond (.t 15) (.seq (.reg [⟨some 16, none, .mv (.t 0)⟩, ⟨some 17, none, .mv (.t 1)⟩, ⟨some 18, none, .bin false .add (.t 16) (.t 17)⟩, ⟨some 4, none, .mv (.t 18)⟩] none [4]) .ret) .skip)) (.seq (.reg [⟨some 19, none, .mv (.t 0)⟩, ⟨some 4, none, .mv (.t 19)⟩] none [4]) .ret))))
theorem chk_l2Place : chkX Tryd.prog 20 (Tryd.f117.body.getD .skip) x_l2Place = true := by kernel_rfl
theorem rs_l2Place : okRs Tryd.prog Tryd.f117.results.toList [.tmp 4] = true := by kernel_rfl
theorem call_l2Place : okCallee Tryd.prog 117 = true := by kernel_rfl
def x_l2At : X := (.seq (.reg [⟨some 2, none, .box (.t 0) (some 5)⟩, ⟨some 4, none, .alloc [(.c (.int .i64 0)), (.c (.int .i64 0)), (.c (.str ⟨#[]⟩)), (.z 1), (.z 5)]⟩, ⟨some 5, none, .mv (.k (.c (.bool false)))⟩] none [1, 2, 4]) (.seq (.seq (.reg [⟨some 7, none, .fa (.t 2) 0⟩, ⟨some 8, none, .load (.t 7) none⟩, ⟨some 9, none, .bin false .eql (.t 8) (.k (.c (.int .i64 0)))⟩] none [1, 2, 4, 9]) (.cond (.t 9) (.seq (.reg [⟨some 10, none, .load (.t 2) (some 5)⟩, ⟨none, none, .st (.t 4) (.t 10) (some 5)⟩, ⟨some 5, none, .mv (.k (.c (.bool true)))⟩] none [4, 5]) .ret) .skip)) (.seq (.seq (.reg [⟨some 11, none, .fa (.t 2) 0⟩, ⟨some 12, none, .load (.t 11) none⟩, ⟨some 13, none, .bin false .neq (.t 12) (.k (.c (.int .i64 5)))⟩] none [1, 2, 4, 13]) (.cond (.t 13) (.seq (.reg [⟨some 14, none, .build [(.c (.int .i64 0)), (.c (.int .i64 0)), (.c (.str ⟨#[]⟩)), (.z 1), (.z 5)] []⟩, ⟨none, none, .st (.t 4) (.t 14) (some 5)⟩, ⟨some 5, none, .mv (.k (.c (.bool false)))⟩] none [4, 5]) .ret) .skip)) (.seq (.reg [⟨some 15, none, .mv (.t 1)⟩, ⟨some 16, none, .fa (.t 2) 4⟩, ⟨some 17, none, .load (.t 16) none⟩, ⟨some 18, none, .len (.t 17) false⟩, ⟨some 19, none, .call 117 [(.t 15), (.t 18)]⟩, ⟨some 6, none, .mv (.t 19)⟩] none [2, 4, 6]) (.seq (.seq (.reg [⟨some 20, none, .mv (.t 6)⟩, ⟨some 21, none, .bin false .lss (.t 20) (.k (.c (.int .i64 0)))⟩] none [2, 4, 6, 21]) (.cond (.t 21) (.seq (.reg [⟨some 22, none, .build [(.c (.int .i64 0)), (.c (.int .i64 0)), (.c (.str ⟨#[]⟩)), (.z 1), (.z 5)] []⟩, ⟨none, none, .st (.t 4) (.t 22) (some 5)⟩, ⟨some 5, none, .mv (.k (.c (.bool true)))⟩] none [4, 5]) .ret) .skip)) (.seq (.reg [⟨some 23, none, .fa (.t 2) 4⟩, ⟨some 24, none, .load (.t 23) none⟩, ⟨some 25, none, .mv (.t 6)⟩, ⟨some 26, none, .ia (.t 24) (.t 25) 5⟩, ⟨some 27, none, .load (.t 26) (some 5)⟩, ⟨none, none, .st (.t 4) (.t 27) (some 5)⟩, ⟨some 5, none, .mv (.k (.c (.bool true)))⟩] none [4, 5]) .ret))))))
theorem chk_l2At : chkX Tryd.prog 28 (Tryd.f104.body.getD .skip) x_l2At = true := by kernel_rfl
theorem rs_l2At : okRs Tryd.prog Tryd.f104.results.toList [.cell 4 (some 5), .tmp 5] = true := by kernel_rfl
theorem call_l2At : okCallee Tryd.prog 104 = true := by kernel_rfl
def x_l3One : X := (.seq (.reg [⟨some 2, none, .box (.t 0) (some 5)⟩, ⟨some 3, none, .box (.t 1) (some 3)⟩, ⟨some 4, none, .alloc [(.c (.int .i64 0)), (.c (.int .i64 0)), (.c (.str ⟨#[]⟩)), (.z 1), (.z 5)]⟩, ⟨some 5, none, .mv (.k (.c (.bool false)))⟩] none [2, 3, 4]) (.seq (.seq (.reg [⟨some 6, none, .fa (.t 3) 0⟩, ⟨some 7, none, .load (.t 6) none⟩] none [2, 3, 4, 7]) (.cond (.t 7) (.seq (.reg [⟨some 8, none, .load (.t 2) (some 5)⟩, ⟨some 9, none, .fa (.t 3) 1⟩, ⟨some 10, none, .load (.t 9) none⟩, ⟨some 11, none, .call 103 [(.t 8), (.t 10)]⟩, ⟨some 12, none, .ext (.t 11) 0⟩, ⟨some 13, none, .ext (.t 11) 1⟩, ⟨none, none, .st (.t 4) (.t 12) (some 5)⟩, ⟨some 5, none, .mv (.t 13)⟩] none [4, 5]) .ret) .skip)) (.seq (.reg [⟨some 14, none, .load (.t 2) (some 5)⟩, ⟨some 15, none, .fa (.t 3) 2⟩, ⟨some 16, none, .load (.t 15) none⟩, ⟨some 17, none, .call 104 [(.t 14), (.t 16)]⟩, ⟨some 18, none, .ext (.t 17) 0⟩, ⟨some 19, none, .ext (.t 17) 1⟩, ⟨none, none, .st (.t 4) (.t 18) (some 5)⟩, ⟨some 5, none, .mv (.t 19)⟩] none [4, 5]) .ret)))
theorem chk_l3One : chkX Tryd.prog 20 (Tryd.f87.body.getD .skip) x_l3One = true := by kernel_rfl
theorem rs_l3One : okRs Tryd.prog Tryd.f87.results.toList [.cell 4 (some 5), .tmp 5] = true := by kernel_rfl
theorem call_l3One : okCallee Tryd.prog 87 = true := by kernel_rfl
theorem wayOk_at {p : List Stp} {i : Nat} {s : Stp} (h : p[i]? = some s) (hn : ¬ stpOk s) : ¬ wayOk p := fun hw => hn (hw.1 s (List.mem_of_getElem? h))
theorem wayOk_all {p : List Stp} (h : ∀ s ∈ p.take p.length, stpOk s) : wayOk p ↔ p.length <= 6 := ⟨fun h => h.2, fun h6 => ⟨by simpa using h, h6⟩⟩
theorem take_all_step {p : List Stp} {i : Nat} {s : Stp} (h : p[i]? = some s) (ha : ∀ s ∈ p.take i, stpOk s) (hs : stpOk s) : ∀ s ∈ p.take (i + 1), stpOk s := by
 rw [List.take_add_one, h]
 intro x hx
 simp only [Option.toList_some, List.mem_append, List.mem_singleton] at hx
 rcases hx with hx | rfl
 ·exact ha x hx
 ·exact hs
noncomputable def spL3Step  : Spec := Spec.of (ι := Stp) [false] (fun i => [.d (.agg i.enc)]) (fun i => stpFit i) (fun i => [.d (.one (.bool (decide (stpOk i))))]) (fun _ => [.gone])
theorem spL3Step_inj : ∀ i j : Stp, (fun (i : Stp) => ([.d (.agg i.enc)] : List AV)) i = (fun (i : Stp) => ([.d (.agg i.enc)] : List AV)) j -> i = j := by
 intro s s' h
 simpa [strs_eq, T.enc_eq, encL_eq, F.enc_eq, encF_eq, Tk.enc_eq, encTk_eq, Gn.enc_eq, ints_eq, encS_eq, Stp.enc_eq] using h
theorem spL3Step_md  : (spL3Step).md = [false] := rfl
theorem spL3Step_pre  (s : Stp) : (spL3Step).pre [.d (.agg s.enc)] = (stpFit s) := Spec.of_pre' spL3Step_inj s
theorem spL3Step_alts  : (spL3Step).alts = none := rfl
theorem spL3Step_res  (s : Stp) : (spL3Step).res [.d (.agg s.enc)] = [.d (.one (.bool (decide (stpOk s))))] := Spec.of_res spL3Step_inj s
theorem spL3Step_out  (s : Stp) : (spL3Step).out [.d (.agg s.enc)] = [.gone] := Spec.of_out spL3Step_inj s
theorem l3Step_sound : Sound Tryd.prog 58 spL3Step := by
 refine sound_fam (GOK.cons call_l1Str l1Str_sound GOK.nil) Tryd.func58 (c := Tryd.f58.body.getD .skip) rfl (n := 26) rfl chk_l3Step rs_l3Step (fun _ => by simp) ?_ ?_
 ·exact spL3Step_inj
 ·rintro ⟨m, key, a⟩ ⟨h1, h2⟩
  simp only at h1 h2
  cases m with
  | true =>
    have e : stpOk ⟨true, key, a⟩ = (okS key /\ a = 0) := by simp [stpOk]
    simp only [x_l3Step, rg, go_sem, seval, Stp.enc, e, spOkS_md, spOkS_pre, spOkS_alts, spOkS_res, spOkS_out]
    repeat' (first | with_reducible assumption | with_reducible refine And.intro ?_ ?_ | intro _)
    all_goals first | omega | assumption | skip
  | false =>
    have e : stpOk ⟨false, key, a⟩ = (key = ⟨#[]⟩ /\ -60 <= a /\ a <= 59) := by simp [stpOk]
    simp only [x_l3Step, rg, go_sem, seval, Stp.enc, e, spOkS_md, spOkS_pre, spOkS_alts, spOkS_res, spOkS_out]
    repeat' (first | with_reducible assumption | with_reducible refine And.intro ?_ ?_ | intro _)
    all_goals first | omega | assumption | skip
    exact decide_eq_decide.2 ⟨fun h => ⟨⟨h.1, h.2.1⟩, by omega⟩, fun h => ⟨h.1.1, h.1.2, by omega⟩⟩
noncomputable def spPathOk  : Spec := Spec.of (ι := (List Stp)) [false] (fun i => [.d (.one (.row 3 (encS i)))]) (fun i => wayFit i) (fun i => [.d (.one (.bool (decide (wayOk i))))]) (fun _ => [.gone])
theorem spPathOk_inj : ∀ i j : (List Stp), (fun (i : (List Stp)) => ([.d (.one (.row 3 (encS i)))] : List AV)) i = (fun (i : (List Stp)) => ([.d (.one (.row 3 (encS i)))] : List AV)) j -> i = j := by
 intro p p' h
 simpa [strs_eq, T.enc_eq, encL_eq, F.enc_eq, encF_eq, Tk.enc_eq, encTk_eq, Gn.enc_eq, ints_eq, encS_eq, Stp.enc_eq] using h
theorem spPathOk_md  : (spPathOk).md = [false] := rfl
theorem spPathOk_pre  (p : List Stp) : (spPathOk).pre [.d (.one (.row 3 (encS p)))] = (wayFit p) := Spec.of_pre' spPathOk_inj p
theorem spPathOk_alts  : (spPathOk).alts = none := rfl
theorem spPathOk_res  (p : List Stp) : (spPathOk).res [.d (.one (.row 3 (encS p)))] = [.d (.one (.bool (decide (wayOk p))))] := Spec.of_res spPathOk_inj p
theorem spPathOk_out  (p : List Stp) : (spPathOk).out [.d (.one (.row 3 (encS p)))] = [.gone] := Spec.of_out spPathOk_inj p
theorem PathOk_sound : Sound Tryd.prog 24 spPathOk := by
 refine sound_fam (GOK.cons call_l3Step l3Step_sound GOK.nil) Tryd.func24 (c := Tryd.f24.body.getD .skip) rfl (n := 19) rfl chk_PathOk rs_PathOk (fun _ => by simp) ?_ ?_
 ·exact spPathOk_inj
 ·intro p h1
  have h1' := h1.1
  simp only [x_PathOk, rg, go_sem, seval]
  repeat' (first | with_reducible assumption | with_reducible refine And.intro ?_ ?_ | intro _)
  all_goals first | omega | skip
  refine pw_loop (ι := Nat) (fun i => p.length - i) (fun i => i <= p.length /\ ∀ s ∈ p.take i, stpOk s)
   (fun i => ⟨[(0, .q (.c (.row 3 (encS p)))), (3, .q (.c (.int .i64 i)))], [], []⟩) 0 ⟨Nat.zero_le _, by simp⟩ (Le.of_eq (by simp)) ?_
  rintro i ⟨hi, ha⟩
  rcases Nat.lt_or_ge i p.length with hlt | hge
  ·obtain ⟨s, hs, _, _⟩ := drop_at hlt
   have b1 : ((i : Int) < (p.length : Int)) = True := eq_true (by omega)
   have a1 := encS_at hs
   have f1 := wayFit_at h1 hs
   have l3 := Stp.len3 s
   by_cases c : stpOk s
   ·have c' : stpOk s = True := eq_true c
    simp only [rg, go_sem, seval, Prod.fst, b1, a1, c', l3, encS_len, spL3Step_md, spL3Step_pre, spL3Step_alts, spL3Step_res, spL3Step_out]
    repeat' (first | with_reducible assumption | with_reducible refine And.intro ?_ ?_ | intro _)
    all_goals first | omega | assumption | exact Nat.le_refl _ | skip
    exact ⟨i + 1, ⟨by omega, take_all_step hs ha c⟩, by omega, Le.of_eq (by simp)⟩
   ·have c' : stpOk s = False := eq_false c
    have e : wayOk p = False := eq_false (wayOk_at hs c)
    simp only [rg, go_sem, seval, Prod.fst, b1, a1, c', e, l3, encS_len, spL3Step_md, spL3Step_pre, spL3Step_alts, spL3Step_res, spL3Step_out]
    repeat' (first | with_reducible assumption | with_reducible refine And.intro ?_ ?_ | intro _)
    all_goals first | omega | assumption | exact Nat.le_refl _ | skip
  ·obtain rfl : i = p.length := by omega
   have b1 : ((p.length : Int) < (p.length : Int)) = False := eq_false (by omega)
   have e : decide (wayOk p) = decide ((p.length : Int) <= 6) := decide_eq_decide.2 ((wayOk_all ha).trans ⟨fun h => by omega, fun h => by omega⟩)
   simp only [rg, go_sem, seval, Prod.fst, b1, e, encS_len]
   repeat' (first | with_reducible assumption | with_reducible refine And.intro ?_ ?_ | intro _)
   all_goals first | omega | assumption | skip
noncomputable def spPathOkI  : Spec := Spec.of (ι := (List Stp)) [false] (fun i => [.d (.one (.row 3 (encS i)))]) (fun i => wayFit i) (fun i => [.d (.one (.bool (decide (wayOk i))))]) (fun _ => [.gone])
theorem spPathOkI_inj : ∀ i j : (List Stp), (fun (i : (List Stp)) => ([.d (.one (.row 3 (encS i)))] : List AV)) i = (fun (i : (List Stp)) => ([.d (.one (.row 3 (encS i)))] : List AV)) j -> i = j := by
 intro p p' h
 simpa [strs_eq, T.enc_eq, encL_eq, F.enc_eq, encF_eq, Tk.enc_eq, encTk_eq, Gn.enc_eq, ints_eq, encS_eq, Stp.enc_eq] using h
theorem spPathOkI_md  : (spPathOkI).md = [false] := rfl
theorem spPathOkI_pre  (p : List Stp) : (spPathOkI).pre [.d (.one (.row 3 (encS p)))] = (wayFit p) := Spec.of_pre' spPathOkI_inj p
theorem spPathOkI_alts  : (spPathOkI).alts = none := rfl
theorem spPathOkI_res  (p : List Stp) : (spPathOkI).res [.d (.one (.row 3 (encS p)))] = [.d (.one (.bool (decide (wayOk p))))] := Spec.of_res spPathOkI_inj p
theorem spPathOkI_out  (p : List Stp) : (spPathOkI).out [.d (.one (.row 3 (encS p)))] = [.gone] := Spec.of_out spPathOkI_inj p
set_option maxHeartbeats 2000000 in
theorem PathOkI_sound : Sound Tryd.prog 23 spPathOkI := by
 refine sound_fam (GOK.cons (l := [(57, spWithin)]) call_textOk textOk_sound (GOK.cons call_within within_sound GOK.nil)) Tryd.func23 (c := Tryd.f23.body.getD .skip) rfl (n := 44) rfl chk_PathOkI rs_PathOkI (fun _ => by simp) ?_ ?_
 ·exact spPathOkI_inj
 ·intro p h1
  have h1' := h1.1
  simp only [x_PathOkI, rg, go_sem, seval, Prod.fst, encS_len]
  repeat' (first | with_reducible assumption | with_reducible refine And.intro ?_ ?_ | intro _)
  all_goals first | omega | skip
  refine pw_loop (ι := Nat) (fun i => p.length - i) (fun i => i <= p.length /\ ∀ s ∈ p.take i, stpOk s)
   (fun i => ⟨[(0, .q (.c (.row 3 (encS p)))), (5, .q (.c (.row 3 (encS p)))), (6, .q (.c (.int .i64 p.length))), (7, .q (.c (.int .i64 i)))], [], []⟩) 0 ⟨Nat.zero_le _, by simp⟩ (Le.sub (by simp) (by simp) (by simp)) ?_
  rintro i ⟨hi, ha⟩
  rcases Nat.lt_or_ge i p.length with hlt | hge
  ·obtain ⟨s, hs, _, _⟩ := drop_at hlt
   have b1 : ((i : Int) < (p.length : Int)) = True := eq_true (by omega)
   have a1 := encS_at hs
   obtain ⟨f1, f2⟩ := wayFit_at h1 hs
   by_cases c : stpOk s
   ·have step' := take_all_step hs ha c
    obtain ⟨m, key, a⟩ := s
    simp only at f1 f2
    cases m with
    | true =>
      obtain ⟨c1, c2⟩ : okS key /\ a = 0 := by simpa [stpOk] using c
      subst c2
      have c1' : okS key = True := eq_true c1
      simp only [rg, go_sem, seval, Prod.fst, b1, a1, Stp.enc, c1', encS_len, spTextOk_md, spTextOk_pre, spTextOk_alts, spTextOk_res, spTextOk_out, spWithin_md, spWithin_pre, spWithin_alts, spWithin_res, spWithin_out]
      repeat' (first | with_reducible assumption | with_reducible refine And.intro ?_ ?_ | intro _)
      all_goals first | omega | assumption | skip
      exact ⟨i + 1, ⟨by omega, step'⟩, by omega, Le.sub (by simp) (by simp) (by simp)⟩
    | false =>
      obtain ⟨c1, c2, c3⟩ : key = ⟨#[]⟩ /\ -60 <= a /\ a <= 59 := by simpa [stpOk] using c
      subst c1
      have c2' : (-60 <= a /\ a <= 59) = True := eq_true ⟨c2, c3⟩
      simp only [rg, go_sem, seval, Prod.fst, b1, a1, Stp.enc, c2', encS_len, spTextOk_md, spTextOk_pre, spTextOk_alts, spTextOk_res, spTextOk_out, spWithin_md, spWithin_pre, spWithin_alts, spWithin_res, spWithin_out]
      repeat' (first | with_reducible assumption | with_reducible refine And.intro ?_ ?_ | intro _)
      all_goals first | omega | assumption | skip
      exact ⟨i + 1, ⟨by omega, step'⟩, by omega, Le.sub (by simp) (by simp) (by simp)⟩
   ·have e : wayOk p = False := eq_false (wayOk_at hs c)
    obtain ⟨m, key, a⟩ := s
    simp only at f1 f2
    cases m with
    | true =>
      have c0 : ¬ (okS key /\ a = 0) := by simpa [stpOk] using c
      by_cases c1 : okS key
      ·have c1' : okS key = True := eq_true c1
       have c2' : (a = 0) = False := eq_false (fun h => c0 ⟨c1, h⟩)
       simp only [rg, go_sem, seval, Prod.fst, b1, a1, e, Stp.enc, c1', c2', encS_len, spTextOk_md, spTextOk_pre, spTextOk_alts, spTextOk_res, spTextOk_out, spWithin_md, spWithin_pre, spWithin_alts, spWithin_res, spWithin_out]
       repeat' (first | with_reducible assumption | with_reducible refine And.intro ?_ ?_ | intro _)
       all_goals first | omega | assumption | skip
      ·have c1' : okS key = False := eq_false c1
       simp only [rg, go_sem, seval, Prod.fst, b1, a1, e, Stp.enc, c1', encS_len, spTextOk_md, spTextOk_pre, spTextOk_alts, spTextOk_res, spTextOk_out, spWithin_md, spWithin_pre, spWithin_alts, spWithin_res, spWithin_out]
       repeat' (first | with_reducible assumption | with_reducible refine And.intro ?_ ?_ | intro _)
       all_goals first | omega | assumption | skip
    | false =>
      have c0 : ¬ (key = ⟨#[]⟩ /\ -60 <= a /\ a <= 59) := by simpa [stpOk] using c
      by_cases c1 : key = ⟨#[]⟩
      ·subst c1
       have c2' : (-60 <= a /\ a <= 59) = False := eq_false (fun h => c0 ⟨rfl, h⟩)
       simp only [rg, go_sem, seval, Prod.fst, b1, a1, e, Stp.enc, c2', encS_len, spTextOk_md, spTextOk_pre, spTextOk_alts, spTextOk_res, spTextOk_out, spWithin_md, spWithin_pre, spWithin_alts, spWithin_res, spWithin_out]
       repeat' (first | with_reducible assumption | with_reducible refine And.intro ?_ ?_ | intro _)
       all_goals first | omega | assumption | skip
      ·have c1' : (key = ⟨#[]⟩) = False := eq_false c1
       simp only [rg, go_sem, seval, Prod.fst, b1, a1, e, Stp.enc, c1', encS_len, spTextOk_md, spTextOk_pre, spTextOk_alts, spTextOk_res, spTextOk_out, spWithin_md, spWithin_pre, spWithin_alts, spWithin_res, spWithin_out]
       repeat' (first | with_reducible assumption | with_reducible refine And.intro ?_ ?_ | intro _)
       all_goals first | omega | assumption | skip
  ·obtain rfl : i = p.length := by omega
   have b1 : ((p.length : Int) < (p.length : Int)) = False := eq_false (by omega)
   have e : decide (wayOk p) = decide ((p.length : Int) <= 6) := decide_eq_decide.2 ((wayOk_all ha).trans ⟨fun h => by omega, fun h => by omega⟩)
   simp only [rg, go_sem, seval, Prod.fst, b1, e, encS_len]
   repeat' (first | with_reducible assumption | with_reducible refine And.intro ?_ ?_ | intro _)
   all_goals first | omega | assumption | skip
noncomputable def spPlace  : Spec := Spec.of (ι := T × Int) [false, false] (fun i => [.d (.agg i.1.enc), .d (.one (.int .i64 i.2))]) (fun i => i.1.fit 140737488355328 /\ -4611686018427387904 <= i.2 /\ i.2 <= 4611686018427387904) (fun i => [.d (.one (.int .i64 (placeI i.1.list.length i.2)))]) (fun _ => [.gone, .gone])
theorem spPlace_inj : ∀ i j : T × Int, (fun (i : T × Int) => ([.d (.agg i.1.enc), .d (.one (.int .i64 i.2))] : List AV)) i = (fun (i : T × Int) => ([.d (.agg i.1.enc), .d (.one (.int .i64 i.2))] : List AV)) j -> i = j := by
 rintro ⟨v, n⟩ ⟨v', n'⟩ h
 simp only [Prod.mk.injEq]
 simpa [strs_eq, T.enc_eq, encL_eq, F.enc_eq, encF_eq, Tk.enc_eq, encTk_eq, Gn.enc_eq, ints_eq, encS_eq, Stp.enc_eq] using h
theorem spPlace_md  : (spPlace).md = [false, false] := rfl
theorem spPlace_pre  (v : T) (n : Int) : (spPlace).pre [.d (.agg v.enc), .d (.one (.int .i64 n))] = (v.fit 140737488355328 /\ -4611686018427387904 <= n /\ n <= 4611686018427387904) := Spec.of_pre' spPlace_inj (v, n)
theorem spPlace_alts  : (spPlace).alts = none := rfl
theorem spPlace_res  (v : T) (n : Int) : (spPlace).res [.d (.agg v.enc), .d (.one (.int .i64 n))] = [.d (.one (.int .i64 (placeI v.list.length n)))] := Spec.of_res spPlace_inj (v, n)
theorem spPlace_out  (v : T) (n : Int) : (spPlace).out [.d (.agg v.enc), .d (.one (.int .i64 n))] = [.gone, .gone] := Spec.of_out spPlace_inj (v, n)
theorem place_sound : Sound Tryd.prog 102 spPlace := by
 refine sound_fam (GOK.cons call_within within_sound GOK.nil) Tryd.func102 (c := Tryd.f102.body.getD .skip) rfl (n := 20) rfl chk_place rs_place (fun _ => by simp) ?_ ?_
 ·exact spPlace_inj
 ·rintro ⟨v, n⟩ ⟨h1, h2, h3⟩
  have h4 : (v.list.length : Int) <= 140737488355328 := by obtain ⟨k, m, s, ks, l⟩ := v; exact h1.2.2.2.2.1
  have f0 := T.enc_len v
  obtain ⟨k, m, s, ks, l⟩ := v
  simp only [T.list] at h2 h3 h4
  by_cases c : n < 0
  ·have c1 : (n < 0) = True := eq_true c
   by_cases d : 0 <= n + l.length /\ n + l.length <= (l.length : Int) - 1
   ·have e : placeI l.length n = n + l.length := by unfold placeI; simp [c, d]
    have d1 := eq_true d
    simp only [x_place, rg, go_sem, seval, Prod.fst, T.enc, T.list, c1, d1, e, encL_len, spWithin_md, spWithin_pre, spWithin_alts, spWithin_res, spWithin_out]
    repeat' (first | with_reducible assumption | with_reducible refine And.intro ?_ ?_ | intro _)
    all_goals first | omega | skip
   ·have e : placeI l.length n = -1 := by unfold placeI; simp only [c, if_true]; rw [if_neg d]
    have d1 := eq_false d
    simp only [x_place, rg, go_sem, seval, Prod.fst, T.enc, T.list, c1, d1, e, encL_len, spWithin_md, spWithin_pre, spWithin_alts, spWithin_res, spWithin_out]
    repeat' (first | with_reducible assumption | with_reducible refine And.intro ?_ ?_ | intro _)
    all_goals first | omega | skip
  ·have c1 : (n < 0) = False := eq_false c
   by_cases d : 0 <= n /\ n <= (l.length : Int) - 1
   ·have e : placeI l.length n = n := by unfold placeI; simp [c, d]
    have d1 := eq_true d
    simp only [x_place, rg, go_sem, seval, Prod.fst, T.enc, T.list, c1, d1, e, encL_len, spWithin_md, spWithin_pre, spWithin_alts, spWithin_res, spWithin_out]
    repeat' (first | with_reducible assumption | with_reducible refine And.intro ?_ ?_ | intro _)
    all_goals first | omega | skip
   ·have e : placeI l.length n = -1 := by unfold placeI; simp only [c, if_false]; rw [if_neg d]
    have d1 := eq_false d
    simp only [x_place, rg, go_sem, seval, Prod.fst, T.enc, T.list, c1, d1, e, encL_len, spWithin_md, spWithin_pre, spWithin_alts, spWithin_res, spWithin_out]
    repeat' (first | with_reducible assumption | with_reducible refine And.intro ?_ ?_ | intro _)
    all_goals first | omega | skip
noncomputable def spAt  : Spec := Spec.of (ι := T × Int) [false, false] (fun i => [.d (.agg i.1.enc), .d (.one (.int .i64 i.2))]) (fun i => i.1.fit 140737488355328 /\ -4611686018427387904 <= i.2 /\ i.2 <= 4611686018427387904) (fun i => [.d (.agg (atT i.2 i.1).enc), .d (.one (.bool (decide (atOk i.1))))]) (fun _ => [.gone, .gone])
theorem spAt_inj : ∀ i j : T × Int, (fun (i : T × Int) => ([.d (.agg i.1.enc), .d (.one (.int .i64 i.2))] : List AV)) i = (fun (i : T × Int) => ([.d (.agg i.1.enc), .d (.one (.int .i64 i.2))] : List AV)) j -> i = j := by
 rintro ⟨v, n⟩ ⟨v', n'⟩ h
 simp only [Prod.mk.injEq]
 simpa [strs_eq, T.enc_eq, encL_eq, F.enc_eq, encF_eq, Tk.enc_eq, encTk_eq, Gn.enc_eq, ints_eq, encS_eq, Stp.enc_eq] using h
theorem spAt_md  : (spAt).md = [false, false] := rfl
theorem spAt_pre  (v : T) (n : Int) : (spAt).pre [.d (.agg v.enc), .d (.one (.int .i64 n))] = (v.fit 140737488355328 /\ -4611686018427387904 <= n /\ n <= 4611686018427387904) := Spec.of_pre' spAt_inj (v, n)
theorem spAt_alts  : (spAt).alts = none := rfl
theorem spAt_res  (v : T) (n : Int) : (spAt).res [.d (.agg v.enc), .d (.one (.int .i64 n))] = [.d (.agg (atT n v).enc), .d (.one (.bool (decide (atOk v))))] := Spec.of_res spAt_inj (v, n)
theorem spAt_out  (v : T) (n : Int) : (spAt).out [.d (.agg v.enc), .d (.one (.int .i64 n))] = [.gone, .gone] := Spec.of_out spAt_inj (v, n)
theorem at_sound : Sound Tryd.prog 86 spAt := by
 refine sound_fam (GOK.cons call_place place_sound GOK.nil) Tryd.func86 (c := Tryd.f86.body.getD .skip) rfl (n := 29) rfl chk_at rs_at (fun _ => by simp) ?_ ?_
 ·exact spAt_inj
 ·rintro ⟨v, n⟩ ⟨h1, h2, h3⟩
  simp only at h1 h2 h3
  have f0 := T.enc_len v
  obtain ⟨k, m, s, ks, l⟩ := v
  have p1 := spPlace_pre (T.mk k m s ks l) n
  have p2 := spPlace_res (T.mk k m s ks l) n
  have p3 := spPlace_out (T.mk k m s ks l) n
  simp only [T.list] at p2
  have lt := @placeI_lt l.length n
  by_cases c : k = 5
  ·subst c
   have eo : atOk (T.mk 5 m s ks l) = True := eq_true (.inl rfl)
   by_cases d : 0 <= placeI l.length n
   ·have d1 : (placeI l.length n ≥ 0) = True := eq_true d
    obtain ⟨y, hy, _, _⟩ := drop_at (l := l) (i := (placeI l.length n).toNat) (by have := lt d; omega)
    have a1 := encL_at hy
    have f1 := T.enc_len y
    have e : atT n (T.mk 5 m s ks l) = y := by
     unfold atT; rw [if_pos ⟨rfl, d⟩]; simp [T.list, List.getD_eq_getElem?_getD, hy]
    have d2 := lt d
    simp only [x_at, rg, go_sem, seval, Prod.fst, T.enc, foldT, e, eo, d1, a1, f1, encL_len, spPlace_md, spPlace_alts, p1, p2, p3]
    repeat' (first | with_reducible assumption | with_reducible refine And.intro ?_ ?_ | intro _)
    all_goals first | omega | assumption | skip
   ·have d1 : (placeI l.length n ≥ 0) = False := eq_false d
    have e : atT n (T.mk 5 m s ks l) = T.zero := by unfold atT; rw [if_neg (fun h => d h.2)]
    simp only [x_at, rg, go_sem, seval, Prod.fst, T.enc, foldT, e, eo, d1, encL_len, T.zero_enc, spPlace_md, spPlace_alts, p1, p2, p3]
    repeat' (first | with_reducible assumption | with_reducible refine And.intro ?_ ?_ | intro _)
    all_goals first | omega | assumption | skip
  ·have c1 : (k = 5) = False := eq_false c
   have e : atT n (T.mk k m s ks l) = T.zero := by unfold atT; rw [if_neg (fun h => c h.1)]
   have eo : atOk (T.mk k m s ks l) = (k = 0) := propext ⟨fun h => h.resolve_left c, .inr⟩
   simp only [x_at, rg, go_sem, seval, Prod.fst, T.enc, foldT, e, eo, c1, T.zero_enc]
   repeat' (first | with_reducible assumption | with_reducible refine And.intro ?_ ?_ | intro _)
   all_goals first | omega | assumption | skip
noncomputable def spStep  : Spec := Spec.of (ι := T × Stp) [false, false] (fun i => [.d (.agg i.1.enc), .d (.agg i.2.enc)]) (fun i => i.1.fit 140737488355328 /\ okT i.1 /\ stpOk i.2) (fun i => [.d (.agg (oneT i.2 i.1).enc), .d (.one (.bool (decide (canGo i.2 i.1))))]) (fun _ => [.gone, .gone])
theorem spStep_inj : ∀ i j : T × Stp, (fun (i : T × Stp) => ([.d (.agg i.1.enc), .d (.agg i.2.enc)] : List AV)) i = (fun (i : T × Stp) => ([.d (.agg i.1.enc), .d (.agg i.2.enc)] : List AV)) j -> i = j := by
 rintro ⟨v, s⟩ ⟨v', s'⟩ h
 simp only [Prod.mk.injEq]
 simpa [strs_eq, T.enc_eq, encL_eq, F.enc_eq, encF_eq, Tk.enc_eq, encTk_eq, Gn.enc_eq, ints_eq, encS_eq, Stp.enc_eq] using h
theorem spStep_md  : (spStep).md = [false, false] := rfl
theorem spStep_pre  (v : T) (s : Stp) : (spStep).pre [.d (.agg v.enc), .d (.agg s.enc)] = (v.fit 140737488355328 /\ okT v /\ stpOk s) := Spec.of_pre' spStep_inj (v, s)
theorem spStep_alts  : (spStep).alts = none := rfl
theorem spStep_res  (v : T) (s : Stp) : (spStep).res [.d (.agg v.enc), .d (.agg s.enc)] = [.d (.agg (oneT s v).enc), .d (.one (.bool (decide (canGo s v))))] := Spec.of_res spStep_inj (v, s)
theorem spStep_out  (v : T) (s : Stp) : (spStep).out [.d (.agg v.enc), .d (.agg s.enc)] = [.gone, .gone] := Spec.of_out spStep_inj (v, s)
theorem vstep_sound : Sound Tryd.prog 63 spStep := by
 refine sound_fam (GOK.cons (l := [(86, spAt)]) call_get get_sound (GOK.cons call_at at_sound GOK.nil)) Tryd.func63 (c := Tryd.f63.body.getD .skip) rfl (n := 20) rfl chk_vstep rs_vstep (fun _ => by simp) ?_ ?_
 ·exact spStep_inj
 ·rintro ⟨v, ⟨m, key, a⟩⟩ ⟨h1, h2, h3⟩
  simp only at h1 h2 h3
  have f0 := T.enc_len v
  cases m with
  | true =>
    have e : oneT ⟨true, key, a⟩ v = getT key v := by simp [oneT]
    have eo : canGo ⟨true, key, a⟩ v = getOk v := by simp [canGo]
    have f1 := T.enc_len (getT key v)
    simp only [x_vstep, rg, go_sem, seval, Prod.fst, Stp.enc, e, eo, f0, f1, spGet_md, spGet_pre, spGet_alts, spGet_res, spGet_out]
    repeat' (first | with_reducible assumption | with_reducible refine And.intro ?_ ?_ | intro _)
    all_goals first | omega | assumption | skip
  | false =>
    obtain ⟨c1, c2, c3⟩ : key = ⟨#[]⟩ /\ -60 <= a /\ a <= 59 := by simpa [stpOk] using h3
    have e : oneT ⟨false, key, a⟩ v = atT a v := by simp [oneT]
    have eo : canGo ⟨false, key, a⟩ v = atOk v := by simp [canGo]
    have f1 := T.enc_len (atT a v)
    simp only [x_vstep, rg, go_sem, seval, Prod.fst, Stp.enc, e, eo, f0, f1, spAt_md, spAt_pre, spAt_alts, spAt_res, spAt_out]
    repeat' (first | with_reducible assumption | with_reducible refine And.intro ?_ ?_ | intro _)
    all_goals first | omega | assumption | skip
noncomputable def spL2Place  : Spec := Spec.of (ι := Int × Int) [false, false] (fun i => [.d (.one (.int .i64 i.1)), .d (.one (.int .i64 i.2))]) (fun i => 0 <= i.2 /\ i.2 <= 4611686018427387904 /\ -4611686018427387904 <= i.1 /\ i.1 <= 4611686018427387904) (fun i => [.d (.one (.int .i64 (placeI i.2 i.1)))]) (fun _ => [.gone, .gone])
theorem spL2Place_inj : ∀ i j : Int × Int, (fun (i : Int × Int) => ([.d (.one (.int .i64 i.1)), .d (.one (.int .i64 i.2))] : List AV)) i = (fun (i : Int × Int) => ([.d (.one (.int .i64 i.1)), .d (.one (.int .i64 i.2))] : List AV)) j -> i = j := by
 rintro ⟨a, n⟩ ⟨a', n'⟩ h
 simp only [Prod.mk.injEq]
 simpa [strs_eq, T.enc_eq, encL_eq, F.enc_eq, encF_eq, Tk.enc_eq, encTk_eq, Gn.enc_eq, ints_eq, encS_eq, Stp.enc_eq] using h
theorem spL2Place_md  : (spL2Place).md = [false, false] := rfl
theorem spL2Place_pre  (a : Int) (n : Int) : (spL2Place).pre [.d (.one (.int .i64 a)), .d (.one (.int .i64 n))] = (0 <= n /\ n <= 4611686018427387904 /\ -4611686018427387904 <= a /\ a <= 4611686018427387904) := Spec.of_pre' spL2Place_inj (a, n)
theorem spL2Place_alts  : (spL2Place).alts = none := rfl
theorem spL2Place_res  (a : Int) (n : Int) : (spL2Place).res [.d (.one (.int .i64 a)), .d (.one (.int .i64 n))] = [.d (.one (.int .i64 (placeI n a)))] := Spec.of_res spL2Place_inj (a, n)
theorem spL2Place_out  (a : Int) (n : Int) : (spL2Place).out [.d (.one (.int .i64 a)), .d (.one (.int .i64 n))] = [.gone, .gone] := Spec.of_out spL2Place_inj (a, n)
theorem l2Place_sound : Sound Tryd.prog 117 spL2Place := by
 refine sound_fam GOK.nil Tryd.func117 (c := Tryd.f117.body.getD .skip) rfl (n := 20) rfl chk_l2Place rs_l2Place (fun _ => by simp) ?_ ?_
 ·exact spL2Place_inj
 ·rintro ⟨a, n⟩ ⟨h1, h2, h3, h4⟩
  simp only at h1 h2 h3 h4
  by_cases c : a < -n
  ·have c1 : (a < 0 - n) = True := eq_true (by omega)
   have e : placeI n a = -1 := by unfold placeI; split <;> (try split at *) <;> omega
   simp only [x_l2Place, rg, go_sem, seval, Prod.fst, c1, e]
   repeat' (first | with_reducible assumption | with_reducible refine And.intro ?_ ?_ | intro _)
   all_goals first | omega | skip
  ·have c1 : (a < 0 - n) = False := eq_false (by omega)
   by_cases d : n <= a
   ·have d1 : (n <= a) = True := eq_true d
    have e : placeI n a = -1 := by unfold placeI; split <;> (try split at *) <;> omega
    simp only [x_l2Place, rg, go_sem, seval, Prod.fst, c1, d1, e]
    repeat' (first | with_reducible assumption | with_reducible refine And.intro ?_ ?_ | intro _)
    all_goals first | omega | skip
   ·have d1 : (n <= a) = False := eq_false d
    by_cases b : a < 0
    ·have b1 := eq_true b
     have e : placeI n a = a + n := by unfold placeI; rw [if_pos b, if_pos (by omega)]
     simp only [x_l2Place, rg, go_sem, seval, Prod.fst, c1, d1, b1, e]
     repeat' (first | with_reducible assumption | with_reducible refine And.intro ?_ ?_ | intro _)
     all_goals first | omega | skip
    ·have b1 := eq_false b
     have e : placeI n a = a := by unfold placeI; rw [if_neg b, if_pos (by omega)]
     simp only [x_l2Place, rg, go_sem, seval, Prod.fst, c1, d1, b1, e]
     repeat' (first | with_reducible assumption | with_reducible refine And.intro ?_ ?_ | intro _)
     all_goals first | omega | skip
noncomputable def spL2At  : Spec := Spec.of (ι := T × Int) [false, false] (fun i => [.d (.agg i.1.enc), .d (.one (.int .i64 i.2))]) (fun i => i.1.fit 140737488355328 /\ okT i.1 /\ -4611686018427387904 <= i.2 /\ i.2 <= 4611686018427387904) (fun i => [.d (.agg (atT i.2 i.1).enc), .d (.one (.bool (decide (atOk i.1))))]) (fun _ => [.gone, .gone])
theorem spL2At_inj : ∀ i j : T × Int, (fun (i : T × Int) => ([.d (.agg i.1.enc), .d (.one (.int .i64 i.2))] : List AV)) i = (fun (i : T × Int) => ([.d (.agg i.1.enc), .d (.one (.int .i64 i.2))] : List AV)) j -> i = j := by
 rintro ⟨v, n⟩ ⟨v', n'⟩ h
 simp only [Prod.mk.injEq]
 simpa [strs_eq, T.enc_eq, encL_eq, F.enc_eq, encF_eq, Tk.enc_eq, encTk_eq, Gn.enc_eq, ints_eq, encS_eq, Stp.enc_eq] using h
theorem spL2At_md  : (spL2At).md = [false, false] := rfl
theorem spL2At_pre  (v : T) (n : Int) : (spL2At).pre [.d (.agg v.enc), .d (.one (.int .i64 n))] = (v.fit 140737488355328 /\ okT v /\ -4611686018427387904 <= n /\ n <= 4611686018427387904) := Spec.of_pre' spL2At_inj (v, n)
theorem spL2At_alts  : (spL2At).alts = none := rfl
theorem spL2At_res  (v : T) (n : Int) : (spL2At).res [.d (.agg v.enc), .d (.one (.int .i64 n))] = [.d (.agg (atT n v).enc), .d (.one (.bool (decide (atOk v))))] := Spec.of_res spL2At_inj (v, n)
theorem spL2At_out  (v : T) (n : Int) : (spL2At).out [.d (.agg v.enc), .d (.one (.int .i64 n))] = [.gone, .gone] := Spec.of_out spL2At_inj (v, n)
theorem l2At_sound : Sound Tryd.prog 104 spL2At := by
 refine sound_fam (GOK.cons call_l2Place l2Place_sound GOK.nil) Tryd.func104 (c := Tryd.f104.body.getD .skip) rfl (n := 28) rfl chk_l2At rs_l2At (fun _ => by simp) ?_ ?_
 ·exact spL2At_inj
 ·rintro ⟨v, n⟩ ⟨h1, h0, h2, h3⟩
  simp only at h1 h0 h2 h3
  have f0 := T.enc_len v
  obtain ⟨k, m, s, ks, l⟩ := v
  have lt := @placeI_lt l.length n
  have ll : (l.length : Int) <= 140737488355328 := h1.2.2.2.2.1
  by_cases c : k = 5
  ·subst c
   have eo : atOk (T.mk 5 m s ks l) = True := eq_true (.inl rfl)
   by_cases d : 0 <= placeI l.length n
   ·have d1 : (placeI l.length n < 0) = False := eq_false (by omega)
    obtain ⟨y, hy, _, _⟩ := drop_at (l := l) (i := (placeI l.length n).toNat) (by have := lt d; omega)
    have a1 := encL_at hy
    have f1 := T.enc_len y
    have e : atT n (T.mk 5 m s ks l) = y := by
     unfold atT; rw [if_pos ⟨rfl, d⟩]; simp [T.list, List.getD_eq_getElem?_getD, hy]
    have d2 := lt d
    simp only [x_l2At, rg, go_sem, seval, Prod.fst, T.enc, foldT, e, eo, d1, a1, f1, encL_len, spL2Place_md, spL2Place_pre, spL2Place_alts, spL2Place_res, spL2Place_out]
    repeat' (first | with_reducible assumption | with_reducible refine And.intro ?_ ?_ | intro _)
    all_goals first | omega | assumption | skip
   ·have d1 : (placeI l.length n < 0) = True := eq_true (by omega)
    have e : atT n (T.mk 5 m s ks l) = T.zero := by unfold atT; rw [if_neg (fun h => d h.2)]
    simp only [x_l2At, rg, go_sem, seval, Prod.fst, T.enc, foldT, e, eo, d1, encL_len, T.zero_enc, spL2Place_md, spL2Place_pre, spL2Place_alts, spL2Place_res, spL2Place_out]
    repeat' (first | with_reducible assumption | with_reducible refine And.intro ?_ ?_ | intro _)
    all_goals first | omega | assumption | skip
  ·have c1 : (k = 5) = False := eq_false c
   have e : atT n (T.mk k m s ks l) = T.zero := by unfold atT; rw [if_neg (fun h => c h.1)]
   have eo : atOk (T.mk k m s ks l) = (k = 0) := propext ⟨fun h => h.resolve_left c, .inr⟩
   by_cases b : k = 0
   ·subst b
    have z := okT_none h0 rfl
    have b1 : ((0 : Int) = 0) = True := eq_true rfl
    rw [z] at e eo ⊢
    have f2 : T.zero.enc.length = 5 := T.enc_len _
    simp only [x_l2At, rg, go_sem, seval, Prod.fst, T.zero_enc, e, eo, b1]
    repeat' (first | with_reducible assumption | with_reducible refine And.intro ?_ ?_ | intro _)
    all_goals first | omega | assumption | skip
   ·have b1 : (k = 0) = False := eq_false b
    simp only [x_l2At, rg, go_sem, seval, Prod.fst, T.enc, foldT, e, eo, c1, b1, T.zero_enc]
    repeat' (first | with_reducible assumption | with_reducible refine And.intro ?_ ?_ | intro _)
    all_goals first | omega | assumption | skip
noncomputable def spL3One  : Spec := Spec.of (ι := T × Stp) [false, false] (fun i => [.d (.agg i.1.enc), .d (.agg i.2.enc)]) (fun i => i.1.fit 140737488355328 /\ okT i.1 /\ stpOk i.2) (fun i => [.d (.agg (oneT i.2 i.1).enc), .d (.one (.bool (decide (canGo i.2 i.1))))]) (fun _ => [.gone, .gone])
theorem spL3One_inj : ∀ i j : T × Stp, (fun (i : T × Stp) => ([.d (.agg i.1.enc), .d (.agg i.2.enc)] : List AV)) i = (fun (i : T × Stp) => ([.d (.agg i.1.enc), .d (.agg i.2.enc)] : List AV)) j -> i = j := by
 rintro ⟨v, s⟩ ⟨v', s'⟩ h
 simp only [Prod.mk.injEq]
 simpa [strs_eq, T.enc_eq, encL_eq, F.enc_eq, encF_eq, Tk.enc_eq, encTk_eq, Gn.enc_eq, ints_eq, encS_eq, Stp.enc_eq] using h
theorem spL3One_md  : (spL3One).md = [false, false] := rfl
theorem spL3One_pre  (v : T) (s : Stp) : (spL3One).pre [.d (.agg v.enc), .d (.agg s.enc)] = (v.fit 140737488355328 /\ okT v /\ stpOk s) := Spec.of_pre' spL3One_inj (v, s)
theorem spL3One_alts  : (spL3One).alts = none := rfl
theorem spL3One_res  (v : T) (s : Stp) : (spL3One).res [.d (.agg v.enc), .d (.agg s.enc)] = [.d (.agg (oneT s v).enc), .d (.one (.bool (decide (canGo s v))))] := Spec.of_res spL3One_inj (v, s)
theorem spL3One_out  (v : T) (s : Stp) : (spL3One).out [.d (.agg v.enc), .d (.agg s.enc)] = [.gone, .gone] := Spec.of_out spL3One_inj (v, s)
theorem l3One_sound : Sound Tryd.prog 87 spL3One := by
 refine sound_fam (GOK.cons (l := [(104, spL2At)]) call_l2Get l2Get_sound (GOK.cons call_l2At l2At_sound GOK.nil)) Tryd.func87 (c := Tryd.f87.body.getD .skip) rfl (n := 20) rfl chk_l3One rs_l3One (fun _ => by simp) ?_ ?_
 ·exact spL3One_inj
 ·rintro ⟨v, ⟨m, key, a⟩⟩ ⟨h1, h2, h3⟩
  simp only at h1 h2 h3
  have f0 := T.enc_len v
  cases m with
  | true =>
    have e : oneT ⟨true, key, a⟩ v = getT key v := by simp [oneT]
    have eo : canGo ⟨true, key, a⟩ v = getOk v := by simp [canGo]
    have f1 := T.enc_len (getT key v)
    simp only [x_l3One, rg, go_sem, seval, Prod.fst, Stp.enc, e, eo, f0, f1, spL2Get_md, spL2Get_pre, spL2Get_alts, spL2Get_res, spL2Get_out]
    repeat' (first | with_reducible assumption | with_reducible refine And.intro ?_ ?_ | intro _)
    all_goals first | omega | assumption | skip
  | false =>
    obtain ⟨c1, c2, c3⟩ : key = ⟨#[]⟩ /\ -60 <= a /\ a <= 59 := by simpa [stpOk] using h3
    have e : oneT ⟨false, key, a⟩ v = atT a v := by simp [oneT]
    have eo : canGo ⟨false, key, a⟩ v = atOk v := by simp [canGo]
    have f1 := T.enc_len (atT a v)
    simp only [x_l3One, rg, go_sem, seval, Prod.fst, Stp.enc, e, eo, f0, f1, spL2At_md, spL2At_pre, spL2At_alts, spL2At_res, spL2At_out]
    repeat' (first | with_reducible assumption | with_reducible refine And.intro ?_ ?_ | intro _)
    all_goals first | omega | assumption | skip
end Go.Proofs.Pw
namespace Go.Proofs.Pw
variable [Globs]
def x_l3Text : X := (.seq (.reg [⟨some 1, none, .box (.t 0) (some 3)⟩, ⟨some 2, none, .mv (.k (.c (.str ⟨#[]⟩)))⟩] none [1]) (.seq (.seq (.reg [⟨some 3, none, .fa (.t 1) 0⟩, ⟨some 4, none, .load (.t 3) none⟩] none [1, 4]) (.cond (.t 4) (.seq (.reg [⟨some 5, none, .fa (.t 1) 1⟩, ⟨some 6, none, .load (.t 5) none⟩, ⟨some 7, none, .bin false .add (.k (.c (.str ⟨#[46]⟩))) (.t 6)⟩, ⟨some 2, none, .mv (.t 7)⟩] none [2]) .ret) .skip)) (.seq (.reg [⟨some 8, none, .fa (.t 1) 2⟩, ⟨some 9, none, .load (.t 8) none⟩, ⟨some 10, none, .call 69 [(.t 9)]⟩, ⟨some 11, none, .bin false .add (.k (.c (.str ⟨#[91]⟩))) (.t 10)⟩, ⟨some 12, none, .bin false .add (.t 11) (.k (.c (.str ⟨#[93]⟩)))⟩, ⟨some 2, none, .mv (.t 12)⟩] none [2]) .ret)))
theorem chk_l3Text : chkX Tryd.prog 13 (Tryd.f55.body.getD .skip) x_l3Text = true := by kernel_rfl
theorem rs_l3Text : okRs Tryd.prog Tryd.f55.results.toList [.tmp 2] = true := by kernel_rfl
theorem call_l3Text : okCallee Tryd.prog 55 = true := by kernel_rfl
def x_PathText : X := (.seq (.reg [⟨some 2, none, .mv (.k (.c (.str ⟨#[]⟩)))⟩] none [0]) (.seq (.seq (.reg [⟨some 5, none, .mv (.t 0)⟩, ⟨some 6, none, .call 24 [(.t 5)]⟩, ⟨some 7, none, .not (.t 6)⟩] none [0, 7]) (.cond (.t 7) (.seq (.reg [⟨some 2, none, .mv (.k (.c (.str ⟨#[]⟩)))⟩] none [2]) .ret) .skip)) (.seq (.reg [⟨some 3, none, .mv (.k (.c (.str ⟨#[36]⟩)))⟩] none [0, 3]) (.seq (.seq (.reg [⟨some 4, none, .mv (.k (.c (.int .i64 0)))⟩] none [0, 3, 4]) (.block 0 (.loop (.seq (.seq (.reg [⟨some 8, none, .mv (.t 4)⟩, ⟨some 9, none, .mv (.t 0)⟩, ⟨some 10, none, .len (.t 9) false⟩, ⟨some 11, none, .bin false .lss (.t 8) (.t 10)⟩] none [0, 3, 4, 11]) (.cond (.t 11) .skip (.exit 0))) (.seq (.block 1 (.reg [⟨some 14, none, .mv (.t 3)⟩, ⟨some 15, none, .mv (.t 0)⟩, ⟨some 16, none, .mv (.t 4)⟩, ⟨some 17, none, .ia (.t 15) (.t 16) 3⟩, ⟨some 18, none, .load (.t 17) (some 3)⟩, ⟨some 19, none, .call 55 [(.t 18)]⟩, ⟨some 20, none, .bin false .add (.t 14) (.t 19)⟩, ⟨some 3, none, .mv (.t 20)⟩] none [0, 3, 4])) (.reg [⟨some 12, none, .mv (.t 4)⟩, ⟨some 13, none, .bin false .add (.t 12) (.k (.c (.int .i64 1)))⟩, ⟨some 4, none, .mv (.t 13)⟩] none [0, 3, 4])))))) (.seq (.reg [⟨some 21, none, .mv (.t 3)⟩, ⟨some 2, none, .mv (.t 21)⟩] none [2]) .ret)))))
theorem chk_PathText : chkX Tryd.prog 22 (Tryd.f22.body.getD .skip) x_PathText = true := by kernel_rfl
theorem rs_PathText : okRs Tryd.prog Tryd.f22.results.toList [.tmp 2] = true := by kernel_rfl
theorem call_PathText : okCallee Tryd.prog 22 = true := by kernel_rfl
def x_PathTextI : X := (.seq (.reg [⟨some 2, none, .mv (.k (.c (.str ⟨#[]⟩)))⟩] none [0]) (.seq (.seq (.reg [⟨some 6, none, .mv (.t 0)⟩, ⟨some 7, none, .call 23 [(.t 6)]⟩, ⟨some 8, none, .not (.t 7)⟩] none [0, 8]) (.cond (.t 8) (.seq (.reg [⟨some 2, none, .mv (.k (.c (.str ⟨#[]⟩)))⟩] none [2]) .ret) .skip)) (.seq (.reg [⟨some 3, none, .mv (.k (.c (.str ⟨#[36]⟩)))⟩] none [0, 3]) (.seq (.seq (.reg [⟨some 9, none, .mv (.t 0)⟩, ⟨some 10, none, .len (.t 9) false⟩, ⟨some 11, none, .mv (.k (.c (.int .i64 0)))⟩] none [3, 9, 10, 11]) (.block 0 (.loop (.seq (.reg [⟨some 12, none, .bin false .lss (.t 11) (.t 10)⟩] none [3, 9, 10, 11, 12]) (.seq (.cond (.t 12) .skip (.exit 0)) (.seq (.block 1 (.seq (.reg [⟨some 13, none, .ia (.t 9) (.t 11) 3⟩, ⟨some 14, none, .load (.t 13) (some 3)⟩, ⟨some 5, none, .alloc [(.c (.bool false)), (.c (.str ⟨#[]⟩)), (.c (.int .i64 0))]⟩, ⟨none, none, .st (.t 5) (.t 14) (some 3)⟩] none [3, 5, 9, 10, 11]) (.seq (.reg [⟨some 15, none, .fa (.t 5) 0⟩, ⟨some 16, none, .load (.t 15) none⟩] none [3, 5, 9, 10, 11, 16]) (.cond (.t 16) (.reg [⟨some 17, none, .mv (.t 3)⟩, ⟨some 18, none, .fa (.t 5) 1⟩, ⟨some 19, none, .load (.t 18) none⟩, ⟨some 20, none, .bin false .add (.k (.c (.str ⟨#[46]⟩))) (.t 19)⟩, ⟨some 21, none, .bin false .add (.t 17) (.t 20)⟩, ⟨some 3, none, .mv (.t 21)⟩] none [3, 9, 10, 11]) (.reg [⟨some 22, none, .mv (.t 3)⟩, ⟨some 23, none, .fa (.t 5) 2⟩, ⟨some 24, none, .load (.t 23) none⟩, ⟨some 25, none, .call 51 [(.t 24)]⟩, ⟨some 26, none, .bin false .add (.k (.c (.str ⟨#[91]⟩))) (.t 25)⟩, ⟨some 27, none, .bin false .add (.t 26) (.k (.c (.str ⟨#[93]⟩)))⟩, ⟨some 28, none, .bin false .add (.t 22) (.t 27)⟩, ⟨some 3, none, .mv (.t 28)⟩] none [3, 9, 10, 11]))))) (.reg [⟨some 29, none, .bin false .add (.t 11) (.k (.c (.int .i64 1)))⟩, ⟨some 11, none, .mv (.t 29)⟩] none [3, 9, 10, 11]))))))) (.seq (.reg [⟨some 30, none, .mv (.t 3)⟩, ⟨some 2, none, .mv (.t 30)⟩] none [2]) .ret)))))
theorem chk_PathTextI : chkX Tryd.prog 31 (Tryd.f20.body.getD .skip) x_PathTextI = true := by kernel_rfl
theorem rs_PathTextI : okRs Tryd.prog Tryd.f20.results.toList [.tmp 2] = true := by kernel_rfl
theorem call_PathTextI : okCallee Tryd.prog 20 = true := by kernel_rfl
theorem foldVal' (vk vn : Int) (vs : ByteArray) (vks : List ByteArray) (vl : List T) : DV.agg [C.int .i64 vk, C.int .i64 vn, C.str vs, C.row 1 (strs vks), C.row 5 (encL vl)] = DV.agg (T.mk vk vn vs vks vl).enc := rfl
theorem q46 : (ByteArray.mk #[46]).size = 1 := rfl
theorem q91 : (ByteArray.mk #[91]).size = 1 := rfl
theorem q93 : (ByteArray.mk #[93]).size = 1 := rfl
theorem stp_num {s : Stp} (h : stpOk s) (c : ¬ s.map = true) : -60 <= s.at' /\ s.at' <= 59 := by
 unfold stpOk at h
 rw [if_neg c] at h; exact h.2
theorem stp_key {s : Stp} (h : stpOk s) : s.key.size <= 12 := by
 unfold stpOk at h
 split at h
 ·exact h.1.2
 ·rw [h.1]; decide
noncomputable def spL3Text  : Spec := Spec.of (ι := Stp) [false] (fun i => [.d (.agg i.enc)]) (fun i => stpOk i) (fun i => [.d (.one (.str (stepB i)))]) (fun _ => [.gone])
theorem spL3Text_inj : ∀ i j : Stp, (fun (i : Stp) => ([.d (.agg i.enc)] : List AV)) i = (fun (i : Stp) => ([.d (.agg i.enc)] : List AV)) j -> i = j := by
 intro s s' h
 simpa [strs_eq, T.enc_eq, encL_eq, F.enc_eq, encF_eq, Tk.enc_eq, encTk_eq, Gn.enc_eq, ints_eq, encS_eq, encE_eq, Stp.enc_eq] using h
theorem spL3Text_md  : (spL3Text).md = [false] := rfl
theorem spL3Text_pre  (s : Stp) : (spL3Text).pre [.d (.agg s.enc)] = (stpOk s) := Spec.of_pre' spL3Text_inj s
theorem spL3Text_alts  : (spL3Text).alts = none := rfl
theorem spL3Text_res  (s : Stp) : (spL3Text).res [.d (.agg s.enc)] = [.d (.one (.str (stepB s)))] := Spec.of_res spL3Text_inj s
theorem spL3Text_out  (s : Stp) : (spL3Text).out [.d (.agg s.enc)] = [.gone] := Spec.of_out spL3Text_inj s
theorem l3Text_sound : Sound Tryd.prog 55 spL3Text := by
 refine sound_fam (GOK.cons call_l11Dec decV_sound GOK.nil) Tryd.func55 (c := Tryd.f55.body.getD .skip) rfl (n := 13) rfl chk_l3Text rs_l3Text (fun _ => by simp) ?_ ?_
 ·exact spL3Text_inj
 ·intro s h
  change stpOk s at h
  have hk := stp_key h
  have hn := stp_num h
  obtain ⟨m, k, n⟩ := s
  cases m with
  | true =>
    simp only at hk
    simp only [x_l3Text, rg, go_sem, seval, Prod.fst, Stp.enc, stepB, q46, if_true]
    repeat' (first | with_reducible assumption | with_reducible refine And.intro ?_ ?_ | intro _)
    all_goals first | omega | with_reducible assumption | skip
  | false =>
    have hn' := hn (by simp)
    simp only at hn' hk
    have z := itoaB_size (n := n) (by omega) (by omega)
    simp only [x_l3Text, rg, go_sem, seval, Prod.fst, Stp.enc, stepB, q91, q93, ByteArray.size_append, Bool.false_eq_true, if_false, spDecV_md, spDecV_pre, spDecV_alts, spDecV_res, spDecV_out]
    repeat' (first | with_reducible assumption | with_reducible refine And.intro ?_ ?_ | intro _)
    all_goals first | omega | with_reducible assumption | skip
noncomputable def spPathText  : Spec := Spec.of (ι := (List Stp)) [false] (fun i => [.d (.one (.row 3 (encS i)))]) (fun i => wayFit i) (fun i => [.d (.one (.str (pathText i)))]) (fun _ => [.gone])
theorem spPathText_inj : ∀ i j : (List Stp), (fun (i : (List Stp)) => ([.d (.one (.row 3 (encS i)))] : List AV)) i = (fun (i : (List Stp)) => ([.d (.one (.row 3 (encS i)))] : List AV)) j -> i = j := by
 intro p p' h
 simpa [strs_eq, T.enc_eq, encL_eq, F.enc_eq, encF_eq, Tk.enc_eq, encTk_eq, Gn.enc_eq, ints_eq, encS_eq, encE_eq, Stp.enc_eq] using h
theorem spPathText_md  : (spPathText).md = [false] := rfl
theorem spPathText_pre  (p : List Stp) : (spPathText).pre [.d (.one (.row 3 (encS p)))] = (wayFit p) := Spec.of_pre' spPathText_inj p
theorem spPathText_alts  : (spPathText).alts = none := rfl
theorem spPathText_res  (p : List Stp) : (spPathText).res [.d (.one (.row 3 (encS p)))] = [.d (.one (.str (pathText p)))] := Spec.of_res spPathText_inj p
theorem spPathText_out  (p : List Stp) : (spPathText).out [.d (.one (.row 3 (encS p)))] = [.gone] := Spec.of_out spPathText_inj p
theorem pathText_sound : Sound Tryd.prog 22 spPathText := by
 refine sound_fam (GOK.cons (l := [(55, spL3Text)]) call_PathOk PathOk_sound (GOK.cons call_l3Text l3Text_sound GOK.nil)) Tryd.func22 (c := Tryd.f22.body.getD .skip) rfl (n := 22) rfl chk_PathText rs_PathText (fun _ => by simp) ?_ ?_
 ·exact spPathText_inj
 ·intro p h
  change wayFit p at h
  by_cases c : wayOk p
  ·have hl := c.2
   have hz := fun i => stepsB_take_size c i
   have e1 : (ByteArray.mk #[36]).size = 1 := rfl
   simp only [x_PathText, rg, go_sem, seval, Prod.fst, c, encS_len, spPathOk_md, spPathOk_pre, spPathOk_alts, spPathOk_res, spPathOk_out]
   repeat' (first | with_reducible assumption | with_reducible refine And.intro ?_ ?_ | intro _)
   all_goals first | omega | with_reducible assumption | skip
   refine pw_loop (ι := Nat) (fun i => p.length - i) (fun i => i <= p.length)
    (fun i => ⟨[(0, .q (.c (.row 3 (encS p)))), (3, .q (.c (.str (⟨#[36]⟩ ++ stepsB (p.take i))))), (4, .q (.c (.int .i64 i)))], [], []⟩) 0 (Nat.zero_le _) (Le.of_eq (by simp [stepsB, ba_nil'])) ?_
   intro i hi
   rcases Nat.lt_or_ge i p.length with hlt | hge
   ·obtain ⟨s, hs, _, hmem⟩ := drop_at hlt
    have a1 := encS_at hs
    have a2 : ((i : Int) < (p.length : Int)) = True := by simp; omega
    have a3 := c.1 s hmem
    have a4 := stepB_size a3
    have a5 := hz i
    have a6 : s.enc.length = 3 := rfl
    have a7 := stepsB_take hs
    simp only [rg, go_sem, seval, Prod.fst, a1, a2, a6, encS_len, e1, ByteArray.size_append, spL3Text_md, spL3Text_pre, spL3Text_alts, spL3Text_res, spL3Text_out]
    repeat' (first | with_reducible assumption | with_reducible refine And.intro ?_ ?_ | intro _)
    all_goals first | omega | with_reducible assumption | skip
    refine ⟨i + 1, hlt, by omega, Le.of_eq ?_⟩
    rw [a7]
    simp [ba_assoc]
   ·have a2 : ((i : Int) < (p.length : Int)) = False := by simp; omega
    have a3 : p.take i = p := List.take_of_length_le hge
    simp only [rg, go_sem, seval, Prod.fst, a2, a3, encS_len, pathText, c, if_true]
  ·simp only [x_PathText, rg, go_sem, seval, Prod.fst, c, encS_len, pathText, if_false, spPathOk_md, spPathOk_pre, spPathOk_alts, spPathOk_res, spPathOk_out]
   repeat' (first | with_reducible assumption | with_reducible refine And.intro ?_ ?_ | intro _)
   all_goals first | omega | with_reducible assumption | skip
theorem pathTextI_sound (hK : tabK) : Sound Tryd.prog 20 spPathText := by
 refine sound_fam (GOK.cons (l := [(51, spItoa)]) call_PathOkI PathOkI_sound (GOK.cons call_Itoa (itoa_sound hK) GOK.nil)) Tryd.func20 (c := Tryd.f20.body.getD .skip) rfl (n := 31) rfl chk_PathTextI rs_PathTextI (fun _ => by simp) ?_ ?_
 ·exact spPathText_inj
 ·intro p h
  change wayFit p at h
  by_cases c : wayOk p
  ·have hl := c.2
   have hz := fun i => stepsB_take_size c i
   have e1 : (ByteArray.mk #[36]).size = 1 := rfl
   simp only [x_PathTextI, rg, go_sem, seval, Prod.fst, c, encS_len, spPathOkI_md, spPathOkI_pre, spPathOkI_alts, spPathOkI_res, spPathOkI_out]
   repeat' (first | with_reducible assumption | with_reducible refine And.intro ?_ ?_ | intro _)
   all_goals first | omega | with_reducible assumption | skip
   refine pw_loop (ι := Nat) (fun i => p.length - i) (fun i => i <= p.length)
    (fun i => ⟨[(3, .q (.c (.str (⟨#[36]⟩ ++ stepsB (p.take i))))), (9, .q (.c (.row 3 (encS p)))), (10, .q (.c (.int .i64 p.length))), (11, .q (.c (.int .i64 i)))], [], []⟩) 0 (Nat.zero_le _) (Le.of_eq (by simp [stepsB, ba_nil'])) ?_
   intro i hi
   rcases Nat.lt_or_ge i p.length with hlt | hge
   ·obtain ⟨s, hs, _, hmem⟩ := drop_at hlt
    have a1 := encS_at hs
    have a2 : ((i : Int) < (p.length : Int)) = True := by simp; omega
    have a3 := c.1 s hmem
    have a4 := stepB_size a3
    have a5 := hz i
    have a7 := stepsB_take hs
    have hk := stp_key a3
    have hn := stp_num a3
    obtain ⟨m, k, n⟩ := s
    cases m with
    | true =>
      simp only at hk
      simp only [stepB, if_true] at a7
      simp only [rg, go_sem, seval, Prod.fst, a1, a2, encS_len, Stp.enc, e1, q46, ByteArray.size_append]
      repeat' (first | with_reducible assumption | with_reducible refine And.intro ?_ ?_ | intro _)
      all_goals first | omega | with_reducible assumption | skip
      refine ⟨i + 1, hlt, by omega, ?_⟩
      rw [a7]
      exact Le.sub (by simp [ba_assoc]) (by simp) (by simp)
    | false =>
      have hn' := hn (by simp)
      simp only at hn' hk
      have z := itoaB_size (n := n) (by omega) (by omega)
      have z2 : i64 n := by unfold i64; omega
      simp only [stepB, Bool.false_eq_true, if_false] at a7
      simp only [rg, go_sem, seval, Prod.fst, a1, a2, encS_len, Stp.enc, e1, q91, q93, ByteArray.size_append, spItoa_md, spItoa_pre, spItoa_alts, spItoa_res, spItoa_out]
      repeat' (first | with_reducible assumption | with_reducible refine And.intro ?_ ?_ | intro _)
      all_goals first | omega | with_reducible assumption | skip
      refine ⟨i + 1, hlt, by omega, ?_⟩
      rw [a7]
      exact Le.sub (by simp [ba_assoc]) (by simp) (by simp)
   ·have a2 : ((i : Int) < (p.length : Int)) = False := by simp; omega
    have a3 : p.take i = p := List.take_of_length_le hge
    simp only [rg, go_sem, seval, Prod.fst, a2, a3, encS_len, pathText, c, if_true]
  ·simp only [x_PathTextI, rg, go_sem, seval, Prod.fst, c, encS_len, pathText, if_false, spPathOkI_md, spPathOkI_pre, spPathOkI_alts, spPathOkI_res, spPathOkI_out]
   repeat' (first | with_reducible assumption | with_reducible refine And.intro ?_ ?_ | intro _)
   all_goals first | omega | with_reducible assumption | skip
end Go.Proofs.Pw
namespace Go.Proofs.Pw
variable [Globs]
theorem getD_some {l : List T} {k : Nat} (hk : k < l.length) : l[k]? = some (l.getD k T.zero) := by simp [List.getD_eq_getElem?_getD, hk]
end Go.Proofs.Pw
namespace Go.Proofs.Pw
variable [Globs]
end Go.Proofs.Pw
namespace Go.Proofs.Pw
variable [Globs]
end Go.Proofs.Pw
