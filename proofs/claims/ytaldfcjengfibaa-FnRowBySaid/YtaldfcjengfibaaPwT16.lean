/- Rows put together; rows grouped by what stands under a key. -/
import Derived.Test.YtaldfcjengfibaaPwT15
import Derived.Test.YtaldfcjengfibaaPwT14
import Derived.Test.YtaldfcjengfibaaPwT9
set_option linter.unusedSimpArgs false
set_option linter.unusedVariables false
set_option linter.unusedSimpArgs false
set_option maxRecDepth 20000
namespace Go.Proofs.Pw
set_option linter.unusedSectionVars false
variable [Globs]
def x_RowFlat : X := (.seq (.reg [⟨some 1, none, .box (.t 0) (some 5)⟩, ⟨some 2, none, .alloc [(.c (.int .i64 0)), (.c (.int .i64 0)), (.c (.str ⟨#[]⟩)), (.z 1), (.z 5)]⟩, ⟨some 3, none, .mv (.k (.c (.bool false)))⟩] none [1, 2]) (.seq (.seq (.reg [⟨some 7, none, .load (.t 1) (some 5)⟩, ⟨some 8, none, .call 27 [(.t 7)]⟩, ⟨some 9, none, .not (.t 8)⟩] none [1, 2, 9]) (.cond (.t 9) (.seq (.reg [⟨some 10, none, .build [(.c (.int .i64 0)), (.c (.int .i64 0)), (.c (.str ⟨#[]⟩)), (.z 1), (.z 5)] []⟩, ⟨none, none, .st (.t 2) (.t 10) (some 5)⟩, ⟨some 3, none, .mv (.k (.c (.bool false)))⟩] none [2, 3]) .ret) .skip)) (.seq (.reg [⟨some 11, none, .bsl 5 []⟩, ⟨some 4, none, .mv (.t 11)⟩] none [1, 2, 4]) (.seq (.seq (.reg [⟨some 12, none, .fa (.t 1) 4⟩, ⟨some 13, none, .load (.t 12) none⟩, ⟨some 14, none, .len (.t 13) false⟩, ⟨some 15, none, .mv (.k (.c (.int .i64 0)))⟩] none [2, 4, 13, 14, 15]) (.block 0 (.loop (.seq (.reg [⟨some 16, none, .bin false .lss (.t 15) (.t 14)⟩] none [2, 4, 13, 14, 15, 16]) (.seq (.cond (.t 16) .skip (.exit 0)) (.seq (.block 1 (.seq (.reg [⟨some 17, none, .ia (.t 13) (.t 15) 5⟩, ⟨some 18, none, .load (.t 17) (some 5)⟩, ⟨some 6, none, .alloc [(.c (.int .i64 0)), (.c (.int .i64 0)), (.c (.str ⟨#[]⟩)), (.z 1), (.z 5)]⟩, ⟨none, none, .st (.t 6) (.t 18) (some 5)⟩] none [2, 4, 6, 13, 14, 15]) (.seq (.reg [⟨some 19, none, .fa (.t 6) 0⟩, ⟨some 20, none, .load (.t 19) none⟩, ⟨some 21, none, .bin false .eql (.t 20) (.k (.c (.int .i64 5)))⟩] none [2, 4, 6, 13, 14, 15, 21]) (.cond (.t 21) (.reg [⟨some 22, none, .mv (.t 4)⟩, ⟨some 23, none, .fa (.t 6) 4⟩, ⟨some 24, none, .load (.t 23) none⟩, ⟨some 25, none, .app (.t 22) (.t 24) 5 80 []⟩, ⟨some 4, none, .mv (.t 25)⟩] none [2, 4, 13, 14, 15]) (.reg [⟨some 26, none, .mv (.t 4)⟩, ⟨some 27, none, .load (.t 6) (some 5)⟩, ⟨some 28, none, .bsl 5 [((.t 27), (some 5))]⟩, ⟨some 29, none, .app (.t 26) (.t 28) 5 80 []⟩, ⟨some 4, none, .mv (.t 29)⟩] none [2, 4, 13, 14, 15]))))) (.reg [⟨some 30, none, .bin false .add (.t 15) (.k (.c (.int .i64 1)))⟩, ⟨some 15, none, .mv (.t 30)⟩] none [2, 4, 13, 14, 15]))))))) (.seq (.reg [⟨some 31, none, .mv (.t 4)⟩, ⟨some 32, none, .call 32 [(.t 31)]⟩, ⟨some 33, none, .call 28 [(.t 32), (.k (.c (.bool true)))]⟩, ⟨some 34, none, .ext (.t 33) 0⟩, ⟨some 35, none, .ext (.t 33) 1⟩, ⟨none, none, .st (.t 2) (.t 34) (some 5)⟩, ⟨some 3, none, .mv (.t 35)⟩] none [2, 3]) .ret)))))
theorem chk_RowFlat : chkX Go.Proofs.Try.prog 36 (Go.Proofs.Try.f9.body.getD .skip) x_RowFlat = true := by kernel_rfl
theorem rs_RowFlat : okRs Go.Proofs.Try.prog Go.Proofs.Try.f9.results.toList [.cell 2 (some 5), .tmp 3] = true := by kernel_rfl
theorem call_RowFlat : okCallee Go.Proofs.Try.prog 9 = true := by kernel_rfl
def x_RowByI : X := (.seq (.reg [⟨some 2, none, .box (.t 0) (some 5)⟩, ⟨some 4, none, .alloc [(.c (.int .i64 0)), (.c (.int .i64 0)), (.c (.str ⟨#[]⟩)), (.z 1), (.z 5)]⟩, ⟨some 5, none, .mv (.k (.c (.bool false)))⟩] none [1, 2, 4]) (.seq (.seq (.reg [⟨some 17, none, .load (.t 2) (some 5)⟩, ⟨some 18, none, .call 27 [(.t 17)]⟩, ⟨some 19, none, .not (.t 18)⟩, ⟨some 20, none, .mv (.t 19)⟩, ⟨some 21, some (20, false), .mv (.t 1)⟩, ⟨some 22, some (20, false), .call 49 [(.t 21)]⟩, ⟨some 23, some (20, false), .not (.t 22)⟩, ⟨some 24, none, .pick (.t 20) (.k (.c (.bool true))) (.t 23)⟩] none [1, 2, 4, 24]) (.cond (.t 24) (.seq (.reg [⟨some 25, none, .build [(.c (.int .i64 0)), (.c (.int .i64 0)), (.c (.str ⟨#[]⟩)), (.z 1), (.z 5)] []⟩, ⟨none, none, .st (.t 4) (.t 25) (some 5)⟩, ⟨some 5, none, .mv (.k (.c (.bool false)))⟩] none [4, 5]) .ret) .skip)) (.seq (.reg [⟨some 26, none, .bsl 5 []⟩, ⟨some 6, none, .mv (.t 26)⟩] none [1, 2, 4, 6]) (.seq (.seq (.reg [⟨some 27, none, .fa (.t 2) 4⟩, ⟨some 28, none, .load (.t 27) none⟩, ⟨some 29, none, .len (.t 28) false⟩, ⟨some 30, none, .mv (.k (.c (.int .i64 0)))⟩] none [1, 2, 4, 6, 28, 29, 30]) (.block 0 (.loop (.seq (.reg [⟨some 31, none, .bin false .lss (.t 30) (.t 29)⟩] none [1, 2, 4, 6, 28, 29, 30, 31]) (.seq (.cond (.t 31) .skip (.exit 0)) (.seq (.block 1 (.seq (.reg [⟨some 32, none, .ia (.t 28) (.t 30) 5⟩, ⟨some 33, none, .load (.t 32) (some 5)⟩, ⟨some 8, none, .alloc [(.c (.int .i64 0)), (.c (.int .i64 0)), (.c (.str ⟨#[]⟩)), (.z 1), (.z 5)]⟩, ⟨none, none, .st (.t 8) (.t 33) (some 5)⟩] none [1, 2, 4, 6, 8, 28, 29, 30]) (.seq (.reg [⟨some 35, none, .load (.t 8) (some 5)⟩, ⟨some 36, none, .mv (.t 1)⟩, ⟨some 37, none, .call 50 [(.t 35), (.t 36)]⟩, ⟨some 34, none, .mv (.t 37)⟩, ⟨some 38, none, .ext (.t 34) 0⟩, ⟨some 39, none, .ext (.t 34) 1⟩, ⟨some 9, none, .alloc [(.c (.int .i64 0)), (.c (.int .i64 0)), (.c (.str ⟨#[]⟩)), (.z 1), (.z 5)]⟩, ⟨none, none, .st (.t 9) (.t 38) (some 5)⟩, ⟨some 10, none, .mv (.t 39)⟩] none [1, 2, 4, 6, 9, 10, 28, 29, 30]) (.seq (.seq (.reg [⟨some 40, none, .mv (.t 10)⟩, ⟨some 41, none, .not (.t 40)⟩] none [1, 2, 4, 6, 9, 28, 29, 30, 41]) (.cond (.t 41) (.seq (.reg [⟨some 42, none, .build [(.c (.int .i64 0)), (.c (.int .i64 0)), (.c (.str ⟨#[]⟩)), (.z 1), (.z 5)] []⟩, ⟨none, none, .st (.t 4) (.t 42) (some 5)⟩, ⟨some 5, none, .mv (.k (.c (.bool false)))⟩] none [4, 5]) .ret) .skip)) (.reg [⟨some 43, none, .mv (.t 6)⟩, ⟨some 44, none, .load (.t 9) (some 5)⟩, ⟨some 45, none, .bsl 5 [((.t 44), (some 5))]⟩, ⟨some 46, none, .app (.t 43) (.t 45) 5 80 []⟩, ⟨some 6, none, .mv (.t 46)⟩] none [1, 2, 4, 6, 28, 29, 30]))))) (.reg [⟨some 47, none, .bin false .add (.t 30) (.k (.c (.int .i64 1)))⟩, ⟨some 30, none, .mv (.t 47)⟩] none [1, 2, 4, 6, 28, 29, 30]))))))) (.seq (.reg [⟨some 48, none, .bsl 5 []⟩, ⟨some 11, none, .mv (.t 48)⟩] none [2, 4, 6, 11]) (.seq (.seq (.reg [⟨some 49, none, .mv (.t 6)⟩, ⟨some 50, none, .call 43 [(.t 49)]⟩, ⟨some 51, none, .call 51 [(.t 50), (.k (.c (.fn 11)))]⟩, ⟨some 52, none, .len (.t 51) false⟩, ⟨some 53, none, .mv (.k (.c (.int .i64 0)))⟩] none [2, 4, 6, 11, 51, 52, 53]) (.block 2 (.loop (.seq (.reg [⟨some 54, none, .bin false .lss (.t 53) (.t 52)⟩] none [2, 4, 6, 11, 51, 52, 53, 54]) (.seq (.cond (.t 54) .skip (.exit 2)) (.seq (.block 3 (.seq (.reg [⟨some 55, none, .ia (.t 51) (.t 53) 5⟩, ⟨some 56, none, .load (.t 55) (some 5)⟩, ⟨some 13, none, .alloc [(.c (.int .i64 0)), (.c (.int .i64 0)), (.c (.str ⟨#[]⟩)), (.z 1), (.z 5)]⟩, ⟨none, none, .st (.t 13) (.t 56) (some 5)⟩] none [2, 4, 6, 11, 13, 51, 52, 53]) (.seq (.reg [⟨some 57, none, .bsl 5 []⟩, ⟨some 14, none, .mv (.t 57)⟩] none [2, 4, 6, 11, 13, 14, 51, 52, 53]) (.seq (.seq (.reg [⟨some 58, none, .fa (.t 2) 4⟩, ⟨some 59, none, .load (.t 58) none⟩, ⟨some 60, none, .len (.t 59) false⟩, ⟨some 61, none, .mv (.k (.c (.int .i64 0)))⟩] none [2, 4, 6, 11, 13, 14, 51, 52, 53, 59, 60, 61]) (.block 4 (.loop (.seq (.reg [⟨some 62, none, .bin false .lss (.t 61) (.t 60)⟩] none [2, 4, 6, 11, 13, 14, 51, 52, 53, 59, 60, 61, 62]) (.seq (.cond (.t 62) .skip (.exit 4)) (.seq (.block 5 (.seq (.reg [⟨some 63, none, .mv (.t 61)⟩, ⟨some 64, none, .ia (.t 59) (.t 61) 5⟩, ⟨some 65, none, .load (.t 64) (some 5)⟩, ⟨some 16, none, .alloc [(.c (.int .i64 0)), (.c (.int .i64 0)), (.c (.str ⟨#[]⟩)), (.z 1), (.z 5)]⟩, ⟨some 15, none, .mv (.t 63)⟩, ⟨none, none, .st (.t 16) (.t 65) (some 5)⟩] none [2, 4, 6, 11, 13, 14, 15, 16, 51, 52, 53, 59, 60, 61]) (.seq (.reg [⟨some 66, none, .mv (.t 6)⟩, ⟨some 67, none, .mv (.t 15)⟩, ⟨some 68, none, .ia (.t 66) (.t 67) 5⟩, ⟨some 69, none, .load (.t 68) (some 5)⟩, ⟨some 70, none, .load (.t 13) (some 5)⟩, ⟨some 71, none, .call 11 [(.t 69), (.t 70)]⟩] (some 5) [2, 4, 6, 11, 13, 14, 16, 51, 52, 53, 59, 60, 61, 71]) (.cond (.t 71) (.reg [⟨some 72, none, .mv (.t 14)⟩, ⟨some 73, none, .load (.t 16) (some 5)⟩, ⟨some 74, none, .bsl 5 [((.t 73), (some 5))]⟩, ⟨some 75, none, .app (.t 72) (.t 74) 5 80 []⟩, ⟨some 14, none, .mv (.t 75)⟩] none [2, 4, 6, 11, 13, 14, 51, 52, 53, 59, 60, 61]) .skip)))) (.reg [⟨some 76, none, .bin false .add (.t 61) (.k (.c (.int .i64 1)))⟩, ⟨some 61, none, .mv (.t 76)⟩] none [2, 4, 6, 11, 13, 14, 51, 52, 53, 59, 60, 61]))))))) (.reg [⟨some 77, none, .mv (.t 11)⟩, ⟨some 78, none, .mv (.t 14)⟩, ⟨some 79, none, .call 32 [(.t 78)]⟩, ⟨some 80, none, .bsl 5 [((.t 79), (some 5))]⟩, ⟨some 81, none, .app (.t 77) (.t 80) 5 80 []⟩, ⟨some 11, none, .mv (.t 81)⟩] none [2, 4, 6, 11, 51, 52, 53]))))) (.reg [⟨some 82, none, .bin false .add (.t 53) (.k (.c (.int .i64 1)))⟩, ⟨some 53, none, .mv (.t 82)⟩] none [2, 4, 6, 11, 51, 52, 53]))))))) (.seq (.reg [⟨some 83, none, .mv (.t 11)⟩, ⟨some 84, none, .call 32 [(.t 83)]⟩, ⟨some 85, none, .call 28 [(.t 84), (.k (.c (.bool true)))]⟩, ⟨some 86, none, .ext (.t 85) 0⟩, ⟨some 87, none, .ext (.t 85) 1⟩, ⟨none, none, .st (.t 4) (.t 86) (some 5)⟩, ⟨some 5, none, .mv (.t 87)⟩] none [4, 5]) .ret)))))))
theorem chk_RowByI : chkX Go.Proofs.Try.prog 88 (Go.Proofs.Try.f19.body.getD .skip) x_RowByI = true := by kernel_rfl
theorem rs_RowByI : okRs Go.Proofs.Try.prog Go.Proofs.Try.f19.results.toList [.cell 4 (some 5), .tmp 5] = true := by kernel_rfl
theorem call_RowByI : okCallee Go.Proofs.Try.prog 19 = true := by kernel_rfl
def x_RowBy : X := (.seq (.reg [⟨some 2, none, .box (.t 0) (some 5)⟩, ⟨some 4, none, .alloc [(.c (.int .i64 0)), (.c (.int .i64 0)), (.c (.str ⟨#[]⟩)), (.z 1), (.z 5)]⟩, ⟨some 5, none, .mv (.k (.c (.bool false)))⟩] none [1, 2, 4]) (.seq (.seq (.reg [⟨some 15, none, .load (.t 2) (some 5)⟩, ⟨some 16, none, .call 29 [(.t 15)]⟩, ⟨some 17, none, .not (.t 16)⟩, ⟨some 18, none, .mv (.t 17)⟩, ⟨some 19, some (18, false), .mv (.t 1)⟩, ⟨some 20, some (18, false), .call 52 [(.t 19)]⟩, ⟨some 21, some (18, false), .not (.t 20)⟩, ⟨some 22, none, .pick (.t 18) (.k (.c (.bool true))) (.t 21)⟩] none [1, 2, 4, 22]) (.cond (.t 22) (.seq (.reg [⟨some 23, none, .build [(.c (.int .i64 0)), (.c (.int .i64 0)), (.c (.str ⟨#[]⟩)), (.z 1), (.z 5)] []⟩, ⟨none, none, .st (.t 4) (.t 23) (some 5)⟩, ⟨some 5, none, .mv (.k (.c (.bool false)))⟩] none [4, 5]) .ret) .skip)) (.seq (.reg [⟨some 24, none, .bsl 5 []⟩, ⟨some 6, none, .mv (.t 24)⟩] none [1, 2, 4, 6]) (.seq (.seq (.reg [⟨some 7, none, .mv (.k (.c (.int .i64 0)))⟩] none [1, 2, 4, 6, 7]) (.block 0 (.loop (.seq (.seq (.reg [⟨some 25, none, .mv (.t 7)⟩, ⟨some 26, none, .fa (.t 2) 4⟩, ⟨some 27, none, .load (.t 26) none⟩, ⟨some 28, none, .len (.t 27) false⟩, ⟨some 29, none, .bin false .lss (.t 25) (.t 28)⟩] none [1, 2, 4, 6, 7, 29]) (.cond (.t 29) .skip (.exit 0))) (.seq (.block 1 (.seq (.reg [⟨some 33, none, .fa (.t 2) 4⟩, ⟨some 34, none, .load (.t 33) none⟩, ⟨some 35, none, .mv (.t 7)⟩, ⟨some 36, none, .ia (.t 34) (.t 35) 5⟩, ⟨some 37, none, .load (.t 36) (some 5)⟩, ⟨some 38, none, .mv (.t 1)⟩, ⟨some 39, none, .call 53 [(.t 37), (.t 38)]⟩, ⟨some 32, none, .mv (.t 39)⟩, ⟨some 40, none, .ext (.t 32) 0⟩, ⟨some 41, none, .ext (.t 32) 1⟩, ⟨some 8, none, .alloc [(.c (.int .i64 0)), (.c (.int .i64 0)), (.c (.str ⟨#[]⟩)), (.z 1), (.z 5)]⟩, ⟨none, none, .st (.t 8) (.t 40) (some 5)⟩, ⟨some 9, none, .mv (.t 41)⟩] none [1, 2, 4, 6, 7, 8, 9]) (.seq (.seq (.reg [⟨some 42, none, .mv (.t 9)⟩, ⟨some 43, none, .not (.t 42)⟩] none [1, 2, 4, 6, 7, 8, 43]) (.cond (.t 43) (.seq (.reg [⟨some 44, none, .build [(.c (.int .i64 0)), (.c (.int .i64 0)), (.c (.str ⟨#[]⟩)), (.z 1), (.z 5)] []⟩, ⟨none, none, .st (.t 4) (.t 44) (some 5)⟩, ⟨some 5, none, .mv (.k (.c (.bool false)))⟩] none [4, 5]) .ret) .skip)) (.reg [⟨some 45, none, .mv (.t 6)⟩, ⟨some 46, none, .load (.t 8) (some 5)⟩, ⟨some 47, none, .bsl 5 [((.t 46), (some 5))]⟩, ⟨some 48, none, .app (.t 45) (.t 47) 5 80 []⟩, ⟨some 6, none, .mv (.t 48)⟩] none [1, 2, 4, 6, 7])))) (.reg [⟨some 30, none, .mv (.t 7)⟩, ⟨some 31, none, .bin false .add (.t 30) (.k (.c (.int .i64 1)))⟩, ⟨some 7, none, .mv (.t 31)⟩] none [1, 2, 4, 6, 7])))))) (.seq (.reg [⟨some 49, none, .mv (.t 6)⟩, ⟨some 50, none, .call 54 [(.t 49)]⟩, ⟨some 10, none, .mv (.t 50)⟩] none [2, 4, 6, 10]) (.seq (.reg [⟨some 51, none, .bsl 5 []⟩, ⟨some 11, none, .mv (.t 51)⟩] none [2, 4, 6, 10, 11]) (.seq (.seq (.reg [⟨some 12, none, .mv (.k (.c (.int .i64 0)))⟩] none [2, 4, 6, 10, 11, 12]) (.block 2 (.loop (.seq (.seq (.reg [⟨some 52, none, .mv (.t 12)⟩, ⟨some 53, none, .mv (.t 10)⟩, ⟨some 54, none, .len (.t 53) false⟩, ⟨some 55, none, .bin false .lss (.t 52) (.t 54)⟩] none [2, 4, 6, 10, 11, 12, 55]) (.cond (.t 55) .skip (.exit 2))) (.seq (.block 3 (.seq (.reg [⟨some 58, none, .bsl 5 []⟩, ⟨some 13, none, .mv (.t 58)⟩] none [2, 4, 6, 10, 11, 12, 13]) (.seq (.seq (.reg [⟨some 14, none, .mv (.k (.c (.int .i64 0)))⟩] none [2, 4, 6, 10, 11, 12, 13, 14]) (.block 4 (.loop (.seq (.seq (.reg [⟨some 59, none, .mv (.t 14)⟩, ⟨some 60, none, .mv (.t 6)⟩, ⟨some 61, none, .len (.t 60) false⟩, ⟨some 62, none, .bin false .lss (.t 59) (.t 61)⟩] none [2, 4, 6, 10, 11, 12, 13, 14, 62]) (.cond (.t 62) .skip (.exit 4))) (.seq (.block 5 (.seq (.reg [⟨some 65, none, .mv (.t 6)⟩, ⟨some 66, none, .mv (.t 14)⟩, ⟨some 67, none, .ia (.t 65) (.t 66) 5⟩, ⟨some 68, none, .load (.t 67) (some 5)⟩, ⟨some 69, none, .mv (.t 10)⟩, ⟨some 70, none, .mv (.t 12)⟩, ⟨some 71, none, .ia (.t 69) (.t 70) 5⟩, ⟨some 72, none, .load (.t 71) (some 5)⟩, ⟨some 73, none, .call 55 [(.t 68), (.t 72)]⟩] (some 8) [2, 4, 6, 10, 11, 12, 13, 14, 73]) (.cond (.t 73) (.reg [⟨some 74, none, .mv (.t 13)⟩, ⟨some 75, none, .fa (.t 2) 4⟩, ⟨some 76, none, .load (.t 75) none⟩, ⟨some 77, none, .mv (.t 14)⟩, ⟨some 78, none, .ia (.t 76) (.t 77) 5⟩, ⟨some 79, none, .load (.t 78) (some 5)⟩, ⟨some 80, none, .bsl 5 [((.t 79), (some 5))]⟩, ⟨some 81, none, .app (.t 74) (.t 80) 5 80 []⟩, ⟨some 13, none, .mv (.t 81)⟩] none [2, 4, 6, 10, 11, 12, 13, 14]) .skip))) (.reg [⟨some 63, none, .mv (.t 14)⟩, ⟨some 64, none, .bin false .add (.t 63) (.k (.c (.int .i64 1)))⟩, ⟨some 14, none, .mv (.t 64)⟩] none [2, 4, 6, 10, 11, 12, 13, 14])))))) (.reg [⟨some 82, none, .mv (.t 11)⟩, ⟨some 83, none, .mv (.t 13)⟩, ⟨some 84, none, .call 26 [(.t 83)]⟩, ⟨some 85, none, .bsl 5 [((.t 84), (some 5))]⟩, ⟨some 86, none, .app (.t 82) (.t 85) 5 80 []⟩, ⟨some 11, none, .mv (.t 86)⟩] none [2, 4, 6, 10, 11, 12])))) (.reg [⟨some 56, none, .mv (.t 12)⟩, ⟨some 57, none, .bin false .add (.t 56) (.k (.c (.int .i64 1)))⟩, ⟨some 12, none, .mv (.t 57)⟩] none [2, 4, 6, 10, 11, 12])))))) (.seq (.reg [⟨some 87, none, .mv (.t 11)⟩, ⟨some 88, none, .call 26 [(.t 87)]⟩, ⟨some 89, none, .call 31 [(.t 88)]⟩, ⟨some 90, none, .ext (.t 89) 0⟩, ⟨some 91, none, .ext (.t 89) 1⟩, ⟨none, none, .st (.t 4) (.t 90) (some 5)⟩, ⟨some 5, none, .mv (.t 91)⟩] none [4, 5]) .ret))))))))
theorem chk_RowBy : chkX Go.Proofs.Try.prog 92 (Go.Proofs.Try.f20.body.getD .skip) x_RowBy = true := by kernel_rfl
theorem rs_RowBy : okRs Go.Proofs.Try.prog Go.Proofs.Try.f20.results.toList [.cell 4 (some 5), .tmp 5] = true := by kernel_rfl
theorem call_RowBy : okCallee Go.Proofs.Try.prog 20 = true := by kernel_rfl
theorem flatT_row {l : List T} (h : okT (.mk 5 0 ⟨#[]⟩ [] l)) : flatT (.mk 5 0 ⟨#[]⟩ [] l) = toldT true (.mk 5 0 ⟨#[]⟩ [] (flatL l)) := if_pos (rowT_row.2 h)
noncomputable def spFlat  : Spec := Spec.of (ι := T) [false] (fun i => [.d (.agg i.enc)]) (fun i => i.fit 1000000 ∧ lenB 1000000 (flatL i.list).length) (fun i => [.d (.agg (flatT i).enc), .d (.one (.bool (decide (rowT i ∧ okT (.mk 5 0 ⟨#[]⟩ [] (flatL i.list))))))]) (fun _ => [.gone])
theorem spFlat_inj : ∀ i j : T, (fun (i : T) => ([.d (.agg i.enc)] : List AV)) i = (fun (i : T) => ([.d (.agg i.enc)] : List AV)) j → i = j := by
  intro v v' h
  simpa [strs_eq, T.enc_eq, encL_eq, F.enc_eq, encF_eq, Tk.enc_eq, encTk_eq, Gn.enc_eq, ints_eq] using h
theorem spFlat_md  : (spFlat).md = [false] := rfl
theorem spFlat_pre  (v : T) : (spFlat).pre [.d (.agg v.enc)] = (v.fit 1000000 ∧ lenB 1000000 (flatL v.list).length) := Spec.of_pre' spFlat_inj v
theorem spFlat_alts  : (spFlat).alts = none := rfl
theorem spFlat_res  (v : T) : (spFlat).res [.d (.agg v.enc)] = [.d (.agg (flatT v).enc), .d (.one (.bool (decide (rowT v ∧ okT (.mk 5 0 ⟨#[]⟩ [] (flatL v.list))))))] := Spec.of_res spFlat_inj v
theorem spFlat_out  (v : T) : (spFlat).out [.d (.agg v.enc)] = [.gone] := Spec.of_out spFlat_inj v
theorem spFlat_all  (v : T) (F : List AV → List AV → Prop) : (spFlat).all [.d (.agg v.enc)] F = F [.d (.agg (flatT v).enc), .d (.one (.bool (decide (rowT v ∧ okT (.mk 5 0 ⟨#[]⟩ [] (flatL v.list))))))] [.gone] := by rw [Spec.all_fn rfl, spFlat_res, spFlat_out]
theorem spFlat_ne  (v : T) : (spFlat).ne [.d (.agg v.enc)] = True := Spec.ne_fn rfl _
theorem RowFlat_sound : Sound Go.Proofs.Try.prog 9 spFlat := by
  refine sound_fam (GOK.cons (l := [(32, spRow), (28, spTold)]) call_isRow isRow_sound (GOK.cons call_row row_sound (GOK.cons call_told told_sound GOK.nil))) Go.Proofs.Try.func9 (c := Go.Proofs.Try.f9.body.getD .skip) rfl (n := 36) rfl chk_RowFlat rs_RowFlat (fun _ => by simp) ?_ ?_
  · exact spFlat_inj
  · rintro v ⟨h1, h2⟩
    have f3 := T.enc_len v
    have v2 : v.fit 140737488355328 := T.fit_mono (by decide) h1
    by_cases c : rowT v
    · obtain ⟨l, rfl⟩ : ∃ l, v = .mk 5 0 ⟨#[]⟩ [] l := ⟨_, rowT_is c⟩
      have o1 := c.1
      have e1 := flatT_row o1
      have l1 : (l.length : Int) ≤ 1000000 := (T.fit_list h1).1
      have l2 : ((flatL l).length : Int) ≤ 1000000 := h2
      have c' : rowT (T.mk 5 0 ⟨#[]⟩ [] l) = True := eq_true c
      simp only [x_RowFlat, rg, go_sem, seval, Prod.fst, T.enc, foldT, foldT0, T.list, c', e1, encL_len, spIsRow_md, spIsRow_pre, spIsRow_alts, spIsRow_res, spIsRow_out]
      repeat' (first | with_reducible assumption | with_reducible refine And.intro ?_ ?_ | intro _)
      all_goals first | omega | assumption | skip
      refine pw_loop (ι := Nat) (fun i => l.length - i) (fun i => i ≤ l.length)
        (fun i => ⟨[(2, .q (.box 2 0)), (4, .q (.own 201)), (13, .q (.c (.row 5 (encL l)))), (14, .q (.c (.int .i64 l.length))), (15, .q (.c (.int .i64 i)))], [(1, [.c (.int .i64 5), .c (.int .i64 0), .c (.str ⟨#[]⟩), .c (.row 1 (strs [])), .c (.row 5 (encL l))]), (2, [.c (.int .i64 0), .c (.int .i64 0), .c (.str ⟨#[]⟩), .z 1, .z 5])], [(201, 5, encL (flatL (l.take i)))]⟩) 0 (Nat.zero_le _) ?_ ?_
      · refine Le.own (t := 4) (d := 201) (sz := 5) (by decide) (by simp) (by simp [Q.killO]) ?_
        simp [PV.map, Q.killO]
      · intro i hi
        have l3 := flatL_le (l := l) i
        rcases Nat.lt_or_ge i l.length with hlt | hge
        · obtain ⟨x, hx, _, hmem⟩ := drop_at hlt
          have b1 : ((i : Int) < (l.length : Int)) = True := eq_true (by omega)
          have a1 := encL_at hx
          have f1 := T.enc_len x
          have e := flatL_take hx
          have l4 := flatL_le (l := l) (i + 1)
          rw [e, List.length_append] at l4
          have g1 := fitL_in (T.fit_list h1).2 x hmem
          obtain ⟨k, n, s, ks, li⟩ := x
          by_cases d : k = 5
          · have b2 : (k = 5) = True := eq_true d
            simp only [T.kind, T.list, b2, if_true] at l4 e
            simp only [rg, go_sem, seval, Prod.fst, b1, b2, a1, f1, encL_len, encL_appL]
            simp only [rg, go_sem, seval, Prod.fst, T.enc, b1, b2, encL_len, encL_appL]
            repeat' (first | with_reducible assumption | with_reducible refine And.intro ?_ ?_ | intro _)
            all_goals first | omega | assumption | skip
            refine ⟨i + 1, by omega, by omega, ?_⟩
            rw [e]
            refine Le.sub ?_ ?_ ?_ <;> simp [encL_app, encL, T.enc]
          · have b2 : (k = 5) = False := eq_false d
            simp only [T.kind, T.list, b2, if_false] at l4 e
            simp only [rg, go_sem, seval, Prod.fst, b1, b2, a1, f1, encL_len, encL_appL]
            simp only [rg, go_sem, seval, Prod.fst, T.enc, b1, b2, encL_len, encL_appL]
            repeat' (first | with_reducible assumption | with_reducible refine And.intro ?_ ?_ | intro _)
            all_goals first | omega | assumption | skip
            refine ⟨i + 1, by omega, by omega, ?_⟩
            rw [e]
            refine Le.sub ?_ ?_ ?_ <;> simp [encL_app, encL, T.enc]
        · obtain rfl : i = l.length := by omega
          have b1 : ((l.length : Int) < (l.length : Int)) = False := eq_false (by omega)
          have e : flatL (l.take l.length) = flatL l := by rw [List.take_length]
          have f4 := T.enc_len (toldT true (.mk 5 0 ⟨#[]⟩ [] (flatL l)))
          have f5 := T.enc_len (.mk 5 0 ⟨#[]⟩ [] (flatL l))
          have g1 : (T.mk 5 0 ⟨#[]⟩ [] (flatL l)).fit 2000000 := rowT_fit (by omega) (by unfold lenB; omega) (flatL_fit (fitL_of fun t ht => T.fit_mono (by decide) (fitL_in (T.fit_list h1).2 t ht)))
          simp only [rg, go_sem, seval, Prod.fst, b1, e, f4, f5, encL_len, spRow_md, spRow_pre, spRow_alts, spRow_res, spRow_out, spTold_md, spTold_pre, spTold_alts, spTold_res, spTold_out]
          repeat' (first | with_reducible assumption | with_reducible refine And.intro ?_ ?_ | intro _)
          all_goals first | omega | assumption | skip
    · have e1 : flatT v = T.zero := if_neg c
      simp only [x_RowFlat, rg, go_sem, seval, Prod.fst, f3, e1, c, spIsRow_md, spIsRow_pre, spIsRow_alts, spIsRow_res, spIsRow_out]
      repeat' (first | with_reducible assumption | with_reducible refine And.intro ?_ ?_ | intro _)
      all_goals first | omega | assumption | exact T.zero_enc | (rename_i h; exact h.1.elim) | skip
theorem byT_row {l : List T} {key : ByteArray} (h : byOk (.mk 5 0 ⟨#[]⟩ [] l) key) : byT (.mk 5 0 ⟨#[]⟩ [] l) key = toldT true (.mk 5 0 ⟨#[]⟩ [] (byL key l)) := if_pos h
theorem marks_len (key : ByteArray) (l : List T) : (marks key l).length = l.length := List.length_map ..
theorem marks_at {key : ByteArray} {l : List T} {i : Nat} {x : T} (h : l[i]? = some x) : (marks key l)[i]? = some (getT key x) := by simp [marks, h]
noncomputable def grpsL (key : ByteArray) (l ys : List T) : List T := ys.map fun y => T.mk 5 0 ⟨#[]⟩ [] (pickL key l y)
theorem grps_take {key : ByteArray} {l ys : List T} {j : Nat} {y : T} (h : ys[j]? = some y) : grpsL key l (ys.take (j + 1)) = grpsL key l (ys.take j) ++ [T.mk 5 0 ⟨#[]⟩ [] (pickL key l y)] := by
  unfold grpsL; rw [take_snoc h, List.map_append]; rfl
theorem grps_len (key : ByteArray) (l ys : List T) : (grpsL key l ys).length = ys.length := List.length_map ..
noncomputable def spByI  : Spec := Spec.of (ι := T × ByteArray) [false, false] (fun i => [.d (.agg i.1.enc), .d (.one (.str i.2))]) (fun i => i.1.fit 1000000 ∧ i.1.list.length < 20 ∧ lenB 1000000 i.2.size) (fun i => [.d (.agg (byT i.1 i.2).enc), .d (.one (.bool (decide (byOk i.1 i.2 ∧ okT (.mk 5 0 ⟨#[]⟩ [] (byL i.2 i.1.list))))))]) (fun _ => [.gone, .gone])
theorem spByI_inj : ∀ i j : T × ByteArray, (fun (i : T × ByteArray) => ([.d (.agg i.1.enc), .d (.one (.str i.2))] : List AV)) i = (fun (i : T × ByteArray) => ([.d (.agg i.1.enc), .d (.one (.str i.2))] : List AV)) j → i = j := by
  rintro ⟨v, key⟩ ⟨v', key'⟩ h
  simp only [Prod.mk.injEq]
  simpa [strs_eq, T.enc_eq, encL_eq, F.enc_eq, encF_eq, Tk.enc_eq, encTk_eq, Gn.enc_eq, ints_eq] using h
theorem spByI_md  : (spByI).md = [false, false] := rfl
theorem spByI_pre  (v : T) (key : ByteArray) : (spByI).pre [.d (.agg v.enc), .d (.one (.str key))] = (v.fit 1000000 ∧ v.list.length < 20 ∧ lenB 1000000 key.size) := Spec.of_pre' spByI_inj (v, key)
theorem spByI_alts  : (spByI).alts = none := rfl
theorem spByI_res  (v : T) (key : ByteArray) : (spByI).res [.d (.agg v.enc), .d (.one (.str key))] = [.d (.agg (byT v key).enc), .d (.one (.bool (decide (byOk v key ∧ okT (.mk 5 0 ⟨#[]⟩ [] (byL key v.list))))))] := Spec.of_res spByI_inj (v, key)
theorem spByI_out  (v : T) (key : ByteArray) : (spByI).out [.d (.agg v.enc), .d (.one (.str key))] = [.gone, .gone] := Spec.of_out spByI_inj (v, key)
set_option maxHeartbeats 4000000 in
theorem RowByI_sound : Sound Go.Proofs.Try.prog 19 spByI := by
  refine sound_fam (GOK.cons (l := [(49, spTextOk), (50, spGet), (43, spOrdered), (51, spComp), (11, spSameIV), (32, spRow), (28, spTold)]) call_isRow isRow_sound (GOK.cons call_textOk textOk_sound (GOK.cons call_get get_sound (GOK.cons call_ordered ordered_sound (GOK.cons call_Comp Comp_sound (GOK.cons call_ValSameI sameIV_sound (GOK.cons call_row row_sound (GOK.cons call_told told_sound GOK.nil)))))))) Go.Proofs.Try.func19 (c := Go.Proofs.Try.f19.body.getD .skip) rfl (n := 88) rfl chk_RowByI rs_RowByI (fun _ => by simp) ?_ ?_
  · exact spByI_inj
  · rintro ⟨v, key⟩ ⟨h1, h2, h3⟩
    simp only [lenB] at h3
    have f3 := T.enc_len v
    have v2 : v.fit 140737488355328 := T.fit_mono (by decide) h1
    by_cases c : rowT v ∧ okS key
    · obtain ⟨c, ck⟩ := c
      obtain ⟨l, rfl⟩ : ∃ l, v = .mk 5 0 ⟨#[]⟩ [] l := ⟨_, rowT_is c⟩
      have o1 := c.1
      have l1 : l.length < 20 := h2
      have c' : rowT (T.mk 5 0 ⟨#[]⟩ [] l) = True := eq_true c
      have ck' : okS key = True := eq_true ck
      have gl := fun x hx => fitL_in (T.fit_list v2).2 x hx
      have ol := fun x hx => okT_elem (t := x) o1 hx
      simp only [x_RowByI, rg, go_sem, seval, Prod.fst, T.enc, foldT, foldT0, T.list, c', ck', encL_len, spIsRow_md, spIsRow_pre, spIsRow_alts, spIsRow_res, spIsRow_out, spTextOk_md, spTextOk_pre, spTextOk_alts, spTextOk_res, spTextOk_out]
      repeat' (first | with_reducible assumption | with_reducible refine And.intro ?_ ?_ | intro _)
      all_goals first | omega | assumption | (unfold lenB; omega) | skip
      refine pw_loop (ι := Nat) (fun i => l.length - i) (fun i => i ≤ l.length ∧ ∀ x ∈ l.take i, getOk x)
        (fun i => ⟨[(1, .q (.c (.str key))), (2, .q (.box 2 0)), (4, .q (.box 4 0)), (6, .q (.own 201)), (28, .q (.c (.row 5 (encL l)))), (29, .q (.c (.int .i64 l.length))), (30, .q (.c (.int .i64 i)))], [(2, [.c (.int .i64 5), .c (.int .i64 0), .c (.str ⟨#[]⟩), .c (.row 1 (strs [])), .c (.row 5 (encL l))]), (4, [.c (.int .i64 0), .c (.int .i64 0), .c (.str ⟨#[]⟩), .z 1, .z 5])], [(201, 5, encL (marks key (l.take i)))]⟩) 0 ⟨Nat.zero_le _, by simp⟩ ?_ ?_
      · refine Le.own (t := 6) (d := 201) (sz := 5) (by decide) (by simp) (by simp [Q.killO]) ?_
        simp [PV.map, Q.killO]
      · rintro i ⟨hi, hg⟩
        have ml : (marks key (l.take i)).length = i := by rw [marks_len, List.length_take]; omega
        rcases Nat.lt_or_ge i l.length with hlt | hge
        · obtain ⟨x, hx, _, hmem⟩ := drop_at hlt
          have b1 : ((i : Int) < (l.length : Int)) = True := eq_true (by omega)
          have a1 := encL_at hx
          have f1 := T.enc_len x
          have f2 := T.enc_len (getT key x)
          have g1 := gl x hmem
          have g2 := ol x hmem
          have e := marks_take (key := key) hx
          by_cases d : getOk x
          · have d' : getOk x = True := eq_true d
            simp only [rg, go_sem, seval, Prod.fst, b1, a1, f1, f2, d', ml, encL_len, encL_appL, encL_one, spGet_md, spGet_pre, spGet_alts, spGet_res, spGet_out]
            repeat' (first | with_reducible assumption | with_reducible refine And.intro ?_ ?_ | intro _)
            all_goals first | omega | assumption | skip
            refine ⟨i + 1, ⟨by omega, fun z hz => ?_⟩, by omega, ?_⟩
            · rw [take_snoc hx] at hz
              rcases List.mem_append.1 hz with hz | hz
              · exact hg z hz
              · simp only [List.mem_singleton] at hz; rw [hz]; exact d
            · rw [e]
              refine Le.sub ?_ ?_ ?_ <;> simp
          · have d' : getOk x = False := eq_false d
            have e1 : byOk (T.mk 5 0 ⟨#[]⟩ [] l) key = False := eq_false (fun h => d (h.2.2 x hmem))
            have e2 : byT (T.mk 5 0 ⟨#[]⟩ [] l) key = T.zero := if_neg (fun h => d (h.2.2 x hmem))
            simp only [rg, go_sem, seval, Prod.fst, b1, a1, f1, f2, d', e1, e2, ml, encL_len, encL_appL, encL_one, spGet_md, spGet_pre, spGet_alts, spGet_res, spGet_out]
            repeat' (first | with_reducible assumption | with_reducible refine And.intro ?_ ?_ | intro _)
            all_goals first | omega | assumption | exact T.zero_enc | (rename_i h; exact h.1.elim) | skip
        · obtain rfl : i = l.length := by omega
          have b1 : ((l.length : Int) < (l.length : Int)) = False := eq_false (by omega)
          rw [List.take_length] at hg ml
          have m1 := marks_fit (key := key) (by omega) ol (T.fit_list v2).2
          have m2 : fitL 140737488355328 (sortC cmpT (marks key l)) := fitL_perm m1 (sortC_perm cmpT_is _)
          have m3 : (sortC cmpT (marks key l)).length = l.length := by rw [(sortC_perm cmpT_is _).length_eq, ml]
          have m4 : onc (sortC cmpT (marks key l)) = onceL (marks key l) := rfl
          have m5 := onceL_len (marks key l)
          simp only [rg, go_sem, seval, Prod.fst, b1, List.take_length, ml, m4, encL_len, spOrdered_md, spOrdered_pre, spOrdered_alts, spOrdered_res, spOrdered_out, spComp_md, spComp_pre, spComp_alts, spComp_res, spComp_out]
          repeat' (first | with_reducible assumption | with_reducible refine And.intro ?_ ?_ | intro _)
          all_goals first | omega | assumption | (unfold lenB; omega) | skip
          have e3 : byOk (T.mk 5 0 ⟨#[]⟩ [] l) key = True := eq_true ⟨c, ck, hg⟩
          have e4 : byT (T.mk 5 0 ⟨#[]⟩ [] l) key = toldT true (.mk 5 0 ⟨#[]⟩ [] (byL key l)) := byT_row ⟨c, ck, hg⟩
          have e5 : byL key l = grpsL key l (onceL (marks key l)) := rfl
          have m6 : fitL 140737488355328 (onceL (marks key l)) := onceL_fit m1
          have m7 : (T.mk 5 0 ⟨#[]⟩ [] (byL key l)).fit 2000000 := by
            have := byL_len key l
            refine rowT_fit (by omega) (by unfold lenB; omega) (byL_fit (by omega) (by unfold lenB; omega) (fitL_of fun t ht => T.fit_mono (by decide) (fitL_in (T.fit_list h1).2 t ht)))
          rw [e5] at m7
          simp only [e3, e4, e5]
          generalize onceL (marks key l) = ys at *
          refine pw_loop (ι := Nat) (fun j => ys.length - j) (fun j => j ≤ ys.length)
            (fun j => ⟨[(2, .q (.box 2 0)), (4, .q (.box 4 0)), (6, .q (.c (.row 5 (encL (marks key l))))), (11, .q (.own 202)), (51, .q (.own 51)), (52, .q (.c (.int .i64 ys.length))), (53, .q (.c (.int .i64 j)))], [(2, [.c (.int .i64 5), .c (.int .i64 0), .c (.str ⟨#[]⟩), .c (.row 1 (strs [])), .c (.row 5 (encL l))]), (4, [.c (.int .i64 0), .c (.int .i64 0), .c (.str ⟨#[]⟩), .z 1, .z 5])], [(51, 5, encL ys), (202, 5, encL (grpsL key l (ys.take j)))]⟩) 0 (Nat.zero_le _) ?_ ?_
          · refine Le.own (t := 11) (d := 202) (sz := 5) (by decide) (by simp) (by simp [Q.killO]) ?_
            simp [PV.map, Q.killO]
          · intro j hj
            have nl : (grpsL key l (ys.take j)).length = j := by rw [grps_len, List.length_take]; omega
            rcases Nat.lt_or_ge j ys.length with hjl | hjg
            · obtain ⟨y, hy, _, hym⟩ := drop_at hjl
              have b2 : ((j : Int) < (ys.length : Int)) = True := eq_true (by omega)
              have a2 := encL_at hy
              have f2 := T.enc_len y
              have g2 := fitL_in m6 y hym
              have e6 := grps_take (key := key) (l := l) hy
              simp only [rg, go_sem, seval, Prod.fst, b2, a2, f2, encL_len]
              repeat' (first | with_reducible assumption | with_reducible refine And.intro ?_ ?_ | intro _)
              all_goals first | omega | assumption | skip
              refine pw_loop (ι := Nat) (fun m => l.length - m) (fun m => m ≤ l.length)
                (fun m => ⟨[(2, .q (.box 2 0)), (4, .q (.box 4 0)), (6, .q (.c (.row 5 (encL (marks key l))))), (11, .q (.own 202)), (13, .q (.box 13 0)), (14, .q (.own 203)), (51, .q (.own 51)), (52, .q (.c (.int .i64 ys.length))), (53, .q (.c (.int .i64 j))), (59, .q (.c (.row 5 (encL l)))), (60, .q (.c (.int .i64 l.length))), (61, .q (.c (.int .i64 m)))], [(2, [.c (.int .i64 5), .c (.int .i64 0), .c (.str ⟨#[]⟩), .c (.row 1 (strs [])), .c (.row 5 (encL l))]), (4, [.c (.int .i64 0), .c (.int .i64 0), .c (.str ⟨#[]⟩), .z 1, .z 5]), (13, y.enc.map .c)], [(51, 5, encL ys), (202, 5, encL (grpsL key l (ys.take j))), (203, 5, encL (pickL key (l.take m) y))]⟩) 0 (Nat.zero_le _) ?_ ?_
              · refine Le.own (t := 14) (d := 203) (sz := 5) (by decide) (by simp) (by simp [Q.killO]) ?_
                simp [PV.map, Q.killO]
              · intro m hm
                have pl := pickL_len key (l.take m) y
                rw [List.length_take] at pl
                rcases Nat.lt_or_ge m l.length with hml | hmg
                · obtain ⟨x, hx, _, hmem⟩ := drop_at hml
                  have b1 : ((m : Int) < (l.length : Int)) = True := eq_true (by omega)
                  have a1 := encL_at hx
                  have a3 := encL_at (marks_at (key := key) hx)
                  have f1 := T.enc_len x
                  have f4 := T.enc_len (getT key x)
                  have g3 := fitL_in m1 (getT key x) (List.mem_map.2 ⟨x, hmem, rfl⟩)
                  have e7 := pickL_take (key := key) (y := y) hx
                  have g1 := gl x hmem
                  simp only [rg, go_sem, seval, Prod.fst, b1, a1, a3, f1, f2, f4, ml, encL_len, encL_appL, encL_one, spSameIV_md, spSameIV_pre, spSameIV_alts, spSameIV_res, spSameIV_out, spSameIV_md, spSameIV_pre, spSameIV_ne, ↓spSameIV_all, spSameIV_all]
                  repeat' (first | with_reducible assumption | with_reducible refine And.intro ?_ ?_ | intro _)
                  all_goals first | omega | assumption | skip
                  · have h : getT key x = y := by assumption
                    rw [if_pos h] at e7
                    refine ⟨m + 1, by omega, by omega, ?_⟩
                    rw [e7]
                    refine Le.sub ?_ ?_ ?_ <;> simp
                  · have h : ¬ getT key x = y := by assumption
                    rw [if_neg h, List.append_nil] at e7
                    refine ⟨m + 1, by omega, by omega, ?_⟩
                    rw [e7]
                    refine Le.sub ?_ ?_ ?_ <;> simp
                · obtain rfl : m = l.length := by omega
                  have b1 : ((l.length : Int) < (l.length : Int)) = False := eq_false (by omega)
                  have f1 := T.enc_len (.mk 5 0 ⟨#[]⟩ [] (pickL key l y))
                  simp only [rg, go_sem, seval, Prod.fst, b1, List.take_length, f1, nl, encL_len, encL_appL, encL_one, spRow_md, spRow_pre, spRow_alts, spRow_res, spRow_out]
                  repeat' (first | with_reducible assumption | with_reducible refine And.intro ?_ ?_ | intro _)
                  all_goals first | omega | assumption | skip
                  refine ⟨j + 1, by omega, by omega, ?_⟩
                  rw [e6]
                  refine Le.sub ?_ ?_ ?_ <;> simp
            · obtain rfl : j = ys.length := by omega
              have b1 : ((ys.length : Int) < (ys.length : Int)) = False := eq_false (by omega)
              have f4 := T.enc_len (toldT true (.mk 5 0 ⟨#[]⟩ [] (grpsL key l ys)))
              have f5 := T.enc_len (.mk 5 0 ⟨#[]⟩ [] (grpsL key l ys))
              simp only [rg, go_sem, seval, Prod.fst, b1, List.take_length, f4, f5, encL_len, spRow_md, spRow_pre, spRow_alts, spRow_res, spRow_out, spTold_md, spTold_pre, spTold_alts, spTold_res, spTold_out]
              repeat' (first | with_reducible assumption | with_reducible refine And.intro ?_ ?_ | intro _)
              all_goals first | omega | assumption | skip
    · have e1 : byOk v key = False := eq_false (fun h => c ⟨h.1, h.2.1⟩)
      have e2 : byT v key = T.zero := if_neg (fun h => c ⟨h.1, h.2.1⟩)
      by_cases c1 : rowT v
      · have ck : okS key = False := eq_false (fun h => c ⟨c1, h⟩)
        simp only [x_RowByI, rg, go_sem, seval, Prod.fst, f3, e1, e2, c1, ck, spIsRow_md, spIsRow_pre, spIsRow_alts, spIsRow_res, spIsRow_out, spTextOk_md, spTextOk_pre, spTextOk_alts, spTextOk_res, spTextOk_out]
        repeat' (first | with_reducible assumption | with_reducible refine And.intro ?_ ?_ | intro _)
        all_goals first | omega | assumption | exact T.zero_enc | (rename_i h; exact h.1.elim) | (unfold lenB; omega) | skip
      · simp only [x_RowByI, rg, go_sem, seval, Prod.fst, f3, e1, e2, c1, spIsRow_md, spIsRow_pre, spIsRow_alts, spIsRow_res, spIsRow_out, spTextOk_md, spTextOk_pre, spTextOk_alts, spTextOk_res, spTextOk_out]
        repeat' (first | with_reducible assumption | with_reducible refine And.intro ?_ ?_ | intro _)
        all_goals first | omega | assumption | exact T.zero_enc | (rename_i h; exact h.1.elim) | (unfold lenB; omega) | skip
noncomputable def spBy  : Spec := Spec.of (ι := T × ByteArray) [false, false] (fun i => [.d (.agg i.1.enc), .d (.one (.str i.2))]) (fun i => i.1.fit 1000000 ∧ (sizeT i.1 ≤ 1000000 ∧ i.1.list.length < 20) ∧ lenB 1000000 i.2.size) (fun i => [.d (.agg (byT i.1 i.2).enc), .d (.one (.bool (decide (byOk i.1 i.2 ∧ okT (.mk 5 0 ⟨#[]⟩ [] (byL i.2 i.1.list))))))]) (fun _ => [.gone, .gone])
theorem spBy_inj : ∀ i j : T × ByteArray, (fun (i : T × ByteArray) => ([.d (.agg i.1.enc), .d (.one (.str i.2))] : List AV)) i = (fun (i : T × ByteArray) => ([.d (.agg i.1.enc), .d (.one (.str i.2))] : List AV)) j → i = j := by
  rintro ⟨v, key⟩ ⟨v', key'⟩ h
  simp only [Prod.mk.injEq]
  simpa [strs_eq, T.enc_eq, encL_eq, F.enc_eq, encF_eq, Tk.enc_eq, encTk_eq, Gn.enc_eq, ints_eq] using h
theorem spBy_md  : (spBy).md = [false, false] := rfl
theorem spBy_pre  (v : T) (key : ByteArray) : (spBy).pre [.d (.agg v.enc), .d (.one (.str key))] = (v.fit 1000000 ∧ (sizeT v ≤ 1000000 ∧ v.list.length < 20) ∧ lenB 1000000 key.size) := Spec.of_pre' spBy_inj (v, key)
theorem spBy_alts  : (spBy).alts = none := rfl
theorem spBy_res  (v : T) (key : ByteArray) : (spBy).res [.d (.agg v.enc), .d (.one (.str key))] = [.d (.agg (byT v key).enc), .d (.one (.bool (decide (byOk v key ∧ okT (.mk 5 0 ⟨#[]⟩ [] (byL key v.list))))))] := Spec.of_res spBy_inj (v, key)
theorem spBy_out  (v : T) (key : ByteArray) : (spBy).out [.d (.agg v.enc), .d (.one (.str key))] = [.gone, .gone] := Spec.of_out spBy_inj (v, key)
set_option maxHeartbeats 4000000 in
theorem RowBy_sound : Sound Go.Proofs.Try.prog 20 spBy := by
  refine sound_fam (GOK.cons (l := [(52, spOkS), (53, spL2Get), (54, spL4Once), (55, spSameV), (26, spL4Of), (31, spL2Told)]) call_l4Row l4Row_sound (GOK.cons call_l1Str l1Str_sound (GOK.cons call_l2Get l2Get_sound (GOK.cons call_l4Once l4Once_sound (GOK.cons call_ValSame sameV_sound (GOK.cons call_l4Of l4Of_sound (GOK.cons call_l2Told l2Told_sound GOK.nil))))))) Go.Proofs.Try.func20 (c := Go.Proofs.Try.f20.body.getD .skip) rfl (n := 92) rfl chk_RowBy rs_RowBy (fun _ => by simp) ?_ ?_
  · exact spBy_inj
  · rintro ⟨v, key⟩ ⟨h1, ⟨h2, h4⟩, h3⟩
    simp only [lenB] at h3
    have h2' : sizeT v ≤ 1000000 := h2
    have f3 := T.enc_len v
    have v2 : v.fit 140737488355328 := T.fit_mono (by decide) h1
    by_cases c : rowT v ∧ okS key
    · obtain ⟨c, ck⟩ := c
      obtain ⟨l, rfl⟩ : ∃ l, v = .mk 5 0 ⟨#[]⟩ [] l := ⟨_, rowT_is c⟩
      have o1 := c.1
      have l1 : (l.length : Int) ≤ 1000000 := (T.fit_list h1).1
      have l2 : l.length < 20 := h4
      have sl := byL_size key l
      simp only [sizeT] at h2
      have c' : rowT (T.mk 5 0 ⟨#[]⟩ [] l) = True := eq_true c
      have ck' : okS key = True := eq_true ck
      have gl := fun x hx => fitL_in (T.fit_list v2).2 x hx
      have ol := fun x hx => okT_elem (t := x) o1 hx
      simp only [x_RowBy, rg, go_sem, seval, Prod.fst, T.enc, foldT, foldT0, T.list, c', ck', encL_len, spL4Row_md, spL4Row_pre, spL4Row_alts, spL4Row_res, spL4Row_out, spOkS_md, spOkS_pre, spOkS_alts, spOkS_res, spOkS_out]
      repeat' (first | with_reducible assumption | with_reducible refine And.intro ?_ ?_ | intro _)
      all_goals first | omega | assumption | (unfold lenB; omega) | (simp only [sizeT]; omega) | skip
      refine pw_loop (ι := Nat) (fun i => l.length - i) (fun i => i ≤ l.length ∧ ∀ x ∈ l.take i, getOk x)
        (fun i => ⟨[(1, .q (.c (.str key))), (2, .q (.box 2 0)), (4, .q (.box 4 0)), (6, .q (.own 201)), (7, .q (.c (.int .i64 i)))], [(2, [.c (.int .i64 5), .c (.int .i64 0), .c (.str ⟨#[]⟩), .c (.row 1 (strs [])), .c (.row 5 (encL l))]), (4, [.c (.int .i64 0), .c (.int .i64 0), .c (.str ⟨#[]⟩), .z 1, .z 5])], [(201, 5, encL (marks key (l.take i)))]⟩) 0 ⟨Nat.zero_le _, by simp⟩ ?_ ?_
      · refine Le.own (t := 6) (d := 201) (sz := 5) (by decide) (by simp) (by simp [Q.killO]) ?_
        simp [PV.map, Q.killO]
      · rintro i ⟨hi, hg⟩
        have ml : (marks key (l.take i)).length = i := by rw [marks_len, List.length_take]; omega
        rcases Nat.lt_or_ge i l.length with hlt | hge
        · obtain ⟨x, hx, _, hmem⟩ := drop_at hlt
          have b1 : ((i : Int) < (l.length : Int)) = True := eq_true (by omega)
          have a1 := encL_at hx
          have f1 := T.enc_len x
          have f2 := T.enc_len (getT key x)
          have g1 := gl x hmem
          have g2 := ol x hmem
          have e := marks_take (key := key) hx
          by_cases d : getOk x
          · have d' : getOk x = True := eq_true d
            simp only [rg, go_sem, seval, Prod.fst, b1, a1, f1, f2, d', ml, encL_len, encL_appL, encL_one, spL2Get_md, spL2Get_pre, spL2Get_alts, spL2Get_res, spL2Get_out]
            repeat' (first | with_reducible assumption | with_reducible refine And.intro ?_ ?_ | intro _)
            all_goals first | omega | assumption | skip
            refine ⟨i + 1, ⟨by omega, fun z hz => ?_⟩, by omega, ?_⟩
            · rw [take_snoc hx] at hz
              rcases List.mem_append.1 hz with hz | hz
              · exact hg z hz
              · simp only [List.mem_singleton] at hz; rw [hz]; exact d
            · rw [e]
              refine Le.sub ?_ ?_ ?_ <;> simp
          · have d' : getOk x = False := eq_false d
            have e1 : byOk (T.mk 5 0 ⟨#[]⟩ [] l) key = False := eq_false (fun h => d (h.2.2 x hmem))
            have e2 : byT (T.mk 5 0 ⟨#[]⟩ [] l) key = T.zero := if_neg (fun h => d (h.2.2 x hmem))
            simp only [rg, go_sem, seval, Prod.fst, b1, a1, f1, f2, d', e1, e2, ml, encL_len, encL_appL, encL_one, spL2Get_md, spL2Get_pre, spL2Get_alts, spL2Get_res, spL2Get_out]
            repeat' (first | with_reducible assumption | with_reducible refine And.intro ?_ ?_ | intro _)
            all_goals first | omega | assumption | exact T.zero_enc | (rename_i h; exact h.1.elim) | skip
        · obtain rfl : i = l.length := by omega
          have b1 : ((l.length : Int) < (l.length : Int)) = False := eq_false (by omega)
          rw [List.take_length] at hg ml
          have m1 := marks_fit (key := key) (by omega) ol (T.fit_list v2).2
          have m2 : fitL 140737488355328 (sortC cmpT (marks key l)) := fitL_perm m1 (sortC_perm cmpT_is _)
          have m3 : (sortC cmpT (marks key l)).length = l.length := by rw [(sortC_perm cmpT_is _).length_eq, ml]
          have m4 : onc (sortC cmpT (marks key l)) = onceL (marks key l) := rfl
          have m5 := onceL_len (marks key l)
          simp only [rg, go_sem, seval, Prod.fst, b1, List.take_length, ml, m4, encL_len, spL4Once_md, spL4Once_pre, spL4Once_alts, spL4Once_res, spL4Once_out]
          repeat' (first | with_reducible assumption | with_reducible refine And.intro ?_ ?_ | intro _)
          all_goals first | omega | assumption | (unfold lenB; omega) | (simp only [sizeT]; omega) | skip
          have e3 : byOk (T.mk 5 0 ⟨#[]⟩ [] l) key = True := eq_true ⟨c, ck, hg⟩
          have e4 : byT (T.mk 5 0 ⟨#[]⟩ [] l) key = toldT true (.mk 5 0 ⟨#[]⟩ [] (byL key l)) := byT_row ⟨c, ck, hg⟩
          have e5 : byL key l = grpsL key l (onceL (marks key l)) := rfl
          have m6 : fitL 140737488355328 (onceL (marks key l)) := onceL_fit m1
          have m7 : (T.mk 5 0 ⟨#[]⟩ [] (byL key l)).fit 2000000 := by
            have := byL_len key l
            refine rowT_fit (by omega) (by unfold lenB; omega) (byL_fit (by omega) (by unfold lenB; omega) (fitL_of fun t ht => T.fit_mono (by decide) (fitL_in (T.fit_list h1).2 t ht)))
          rw [e5] at m7 sl
          simp only [e3, e4, e5]
          generalize onceL (marks key l) = ys at *
          refine pw_loop (ι := Nat) (fun j => ys.length - j) (fun j => j ≤ ys.length)
            (fun j => ⟨[(2, .q (.box 2 0)), (4, .q (.box 4 0)), (6, .q (.c (.row 5 (encL (marks key l))))), (10, .q (.own 50)), (11, .q (.own 202)), (12, .q (.c (.int .i64 j)))], [(2, [.c (.int .i64 5), .c (.int .i64 0), .c (.str ⟨#[]⟩), .c (.row 1 (strs [])), .c (.row 5 (encL l))]), (4, [.c (.int .i64 0), .c (.int .i64 0), .c (.str ⟨#[]⟩), .z 1, .z 5])], [(50, 5, encL ys), (202, 5, encL (grpsL key l (ys.take j)))]⟩) 0 (Nat.zero_le _) ?_ ?_
          · refine Le.own (t := 11) (d := 202) (sz := 5) (by decide) (by simp) (by simp [Q.killO]) ?_
            simp [PV.map, Q.killO]
          · intro j hj
            have nl : (grpsL key l (ys.take j)).length = j := by rw [grps_len, List.length_take]; omega
            rcases Nat.lt_or_ge j ys.length with hjl | hjg
            · obtain ⟨y, hy, _, hym⟩ := drop_at hjl
              have b2 : ((j : Int) < (ys.length : Int)) = True := eq_true (by omega)
              have a2 := encL_at hy
              have f2 := T.enc_len y
              have g2 := fitL_in m6 y hym
              have e6 := grps_take (key := key) (l := l) hy
              simp only [rg, go_sem, seval, Prod.fst, b2, a2, f2, encL_len]
              repeat' (first | with_reducible assumption | with_reducible refine And.intro ?_ ?_ | intro _)
              all_goals first | omega | assumption | skip
              refine pw_loop (ι := Nat) (fun m => l.length - m) (fun m => m ≤ l.length)
                (fun m => ⟨[(2, .q (.box 2 0)), (4, .q (.box 4 0)), (6, .q (.c (.row 5 (encL (marks key l))))), (10, .q (.own 50)), (11, .q (.own 202)), (12, .q (.c (.int .i64 j))), (13, .q (.own 203)), (14, .q (.c (.int .i64 m)))], [(2, [.c (.int .i64 5), .c (.int .i64 0), .c (.str ⟨#[]⟩), .c (.row 1 (strs [])), .c (.row 5 (encL l))]), (4, [.c (.int .i64 0), .c (.int .i64 0), .c (.str ⟨#[]⟩), .z 1, .z 5])], [(50, 5, encL ys), (202, 5, encL (grpsL key l (ys.take j))), (203, 5, encL (pickL key (l.take m) y))]⟩) 0 (Nat.zero_le _) ?_ ?_
              · refine Le.own (t := 13) (d := 203) (sz := 5) (by decide) (by simp) (by simp [Q.killO]) ?_
                simp [PV.map, Q.killO]
              · intro m hm
                have pl := pickL_len key (l.take m) y
                rw [List.length_take] at pl
                rcases Nat.lt_or_ge m l.length with hml | hmg
                · obtain ⟨x, hx, _, hmem⟩ := drop_at hml
                  have b1 : ((m : Int) < (l.length : Int)) = True := eq_true (by omega)
                  have a1 := encL_at hx
                  have a3 := encL_at (marks_at (key := key) hx)
                  have f1 := T.enc_len x
                  have f4 := T.enc_len (getT key x)
                  have g3 := fitL_in m1 (getT key x) (List.mem_map.2 ⟨x, hmem, rfl⟩)
                  have e7 := pickL_take (key := key) (y := y) hx
                  have g1 := gl x hmem
                  simp only [rg, go_sem, seval, Prod.fst, b1, a1, a2, a3, f1, f2, f4, ml, encL_len, encL_appL, encL_one, spSameV_md, spSameV_pre, spSameV_alts, spSameV_res, spSameV_out, spSameV_md, spSameV_pre, spSameV_ne, ↓spSameV_all, spSameV_all]
                  repeat' (first | with_reducible assumption | with_reducible refine And.intro ?_ ?_ | intro _)
                  all_goals first | omega | assumption | skip
                  · have h : getT key x = y := by assumption
                    rw [if_pos h] at e7
                    refine ⟨m + 1, by omega, by omega, ?_⟩
                    rw [e7]
                    refine Le.sub ?_ ?_ ?_ <;> simp
                  · have h : ¬ getT key x = y := by assumption
                    rw [if_neg h, List.append_nil] at e7
                    refine ⟨m + 1, by omega, by omega, ?_⟩
                    rw [e7]
                    refine Le.sub ?_ ?_ ?_ <;> simp
                · obtain rfl : m = l.length := by omega
                  have b1 : ((l.length : Int) < (l.length : Int)) = False := eq_false (by omega)
                  have f1 := T.enc_len (.mk 5 0 ⟨#[]⟩ [] (pickL key l y))
                  simp only [rg, go_sem, seval, Prod.fst, b1, List.take_length, f1, nl, encL_len, encL_appL, encL_one, spL4Of_md, spL4Of_pre, spL4Of_alts, spL4Of_res, spL4Of_out]
                  repeat' (first | with_reducible assumption | with_reducible refine And.intro ?_ ?_ | intro _)
                  all_goals first | omega | assumption | skip
                  refine ⟨j + 1, by omega, by omega, ?_⟩
                  rw [e6]
                  refine Le.sub ?_ ?_ ?_ <;> simp
            · obtain rfl : j = ys.length := by omega
              have b1 : ((ys.length : Int) < (ys.length : Int)) = False := eq_false (by omega)
              have f4 := T.enc_len (toldT true (.mk 5 0 ⟨#[]⟩ [] (grpsL key l ys)))
              have f5 := T.enc_len (.mk 5 0 ⟨#[]⟩ [] (grpsL key l ys))
              simp only [rg, go_sem, seval, Prod.fst, b1, List.take_length, f4, f5, encL_len, spL4Of_md, spL4Of_pre, spL4Of_alts, spL4Of_res, spL4Of_out, spL2Told_md, spL2Told_pre, spL2Told_alts, spL2Told_res, spL2Told_out]
              repeat' (first | with_reducible assumption | with_reducible refine And.intro ?_ ?_ | intro _)
              all_goals first | omega | assumption | (simp only [sizeT]; omega) | skip
    · have e1 : byOk v key = False := eq_false (fun h => c ⟨h.1, h.2.1⟩)
      have e2 : byT v key = T.zero := if_neg (fun h => c ⟨h.1, h.2.1⟩)
      by_cases c1 : rowT v
      · have ck : okS key = False := eq_false (fun h => c ⟨c1, h⟩)
        simp only [x_RowBy, rg, go_sem, seval, Prod.fst, f3, e1, e2, c1, ck, spL4Row_md, spL4Row_pre, spL4Row_alts, spL4Row_res, spL4Row_out, spOkS_md, spOkS_pre, spOkS_alts, spOkS_res, spOkS_out]
        repeat' (first | with_reducible assumption | with_reducible refine And.intro ?_ ?_ | intro _)
        all_goals first | omega | assumption | exact T.zero_enc | (rename_i h; exact h.1.elim) | (unfold lenB; omega) | (show sizeT v ≤ 1048577; omega) | skip
      · simp only [x_RowBy, rg, go_sem, seval, Prod.fst, f3, e1, e2, c1, spL4Row_md, spL4Row_pre, spL4Row_alts, spL4Row_res, spL4Row_out, spOkS_md, spOkS_pre, spOkS_alts, spOkS_res, spOkS_out]
        repeat' (first | with_reducible assumption | with_reducible refine And.intro ?_ ?_ | intro _)
        all_goals first | omega | assumption | exact T.zero_enc | (rename_i h; exact h.1.elim) | (unfold lenB; omega) | (show sizeT v ≤ 1048577; omega) | skip
end Go.Proofs.Pw
/- What is drawn: rows of trees by keys. -/
set_option linter.unusedSimpArgs false
set_option maxRecDepth 20000
namespace Go.Proofs.Pw
set_option linter.unusedSectionVars false
variable [Globs]
def x_l2Num : X := (.seq (.reg [⟨some 2, none, .alloc [(.c (.int .i64 0)), (.c (.int .i64 0)), (.c (.str ⟨#[]⟩)), (.z 1), (.z 5)]⟩] none [0, 2]) (.seq (.reg [⟨some 3, none, .mv (.t 0)⟩, ⟨some 4, none, .build [(.c (.int .i64 0)), (.c (.int .i64 0)), (.c (.str ⟨#[]⟩)), (.z 1), (.z 5)] [(0, (.k (.c (.int .i64 3))), none), (1, (.t 3), none)]⟩, ⟨none, none, .st (.t 2) (.t 4) (some 5)⟩] none [2]) .ret))
theorem chk_l2Num : chkX Go.Proofs.Try.prog 5 (Go.Proofs.Try.f46.body.getD .skip) x_l2Num = true := by kernel_rfl
theorem rs_l2Num : okRs Go.Proofs.Try.prog Go.Proofs.Try.f46.results.toList [.cell 2 (some 5)] = true := by kernel_rfl
theorem call_l2Num : okCallee Go.Proofs.Try.prog 46 = true := by kernel_rfl
def x_l2Put : X := (.seq (.reg [⟨some 3, none, .box (.t 0) (some 5)⟩, ⟨some 5, none, .box (.t 2) (some 5)⟩, ⟨some 6, none, .alloc [(.c (.int .i64 0)), (.c (.int .i64 0)), (.c (.str ⟨#[]⟩)), (.z 1), (.z 5)]⟩] none [1, 3, 5, 6]) (.seq (.reg [⟨some 10, none, .build [(.c (.int .i64 0)), (.c (.int .i64 0)), (.c (.str ⟨#[]⟩)), (.z 1), (.z 5)] [(0, (.k (.c (.int .i64 6))), none)]⟩, ⟨some 7, none, .alloc [(.c (.int .i64 0)), (.c (.int .i64 0)), (.c (.str ⟨#[]⟩)), (.z 1), (.z 5)]⟩, ⟨none, none, .st (.t 7) (.t 10) (some 5)⟩] none [1, 3, 5, 6, 7]) (.seq (.reg [⟨some 8, none, .mv (.k (.c (.bool false)))⟩] none [1, 3, 5, 6, 7, 8]) (.seq (.seq (.reg [⟨some 9, none, .mv (.k (.c (.int .i64 0)))⟩] none [1, 3, 5, 6, 7, 8, 9]) (.block 0 (.loop (.seq (.seq (.reg [⟨some 11, none, .mv (.t 9)⟩, ⟨some 12, none, .fa (.t 3) 3⟩, ⟨some 13, none, .load (.t 12) none⟩, ⟨some 14, none, .len (.t 13) false⟩, ⟨some 15, none, .bin false .lss (.t 11) (.t 14)⟩] none [1, 3, 5, 6, 7, 8, 9, 15]) (.cond (.t 15) .skip (.exit 0))) (.seq (.block 1 (.seq (.seq (.reg [⟨some 18, none, .mv (.t 8)⟩, ⟨some 19, none, .not (.t 18)⟩, ⟨some 20, none, .mv (.t 19)⟩, ⟨some 21, some (20, true), .fa (.t 3) 3⟩, ⟨some 22, some (20, true), .load (.t 21) none⟩, ⟨some 23, some (20, true), .mv (.t 9)⟩, ⟨some 24, some (20, true), .ia (.t 22) (.t 23) 1⟩, ⟨some 25, some (20, true), .load (.t 24) none⟩, ⟨some 26, some (20, true), .mv (.t 1)⟩, ⟨some 27, some (20, true), .bin false .geq (.t 25) (.t 26)⟩, ⟨some 28, none, .pick (.t 20) (.t 27) (.k (.c (.bool false)))⟩] none [1, 3, 5, 6, 7, 8, 9, 28]) (.cond (.t 28) (.seq (.reg [⟨some 29, none, .fa (.t 7) 3⟩, ⟨some 30, none, .load (.t 29) none⟩, ⟨some 31, none, .mv (.t 1)⟩, ⟨some 32, none, .bsl 1 [((.t 31), none)]⟩, ⟨some 33, none, .app (.t 30) (.t 32) 1 16 []⟩, ⟨some 34, none, .fa (.t 7) 3⟩, ⟨none, none, .st (.t 34) (.t 33) none⟩] none [1, 3, 5, 6, 7, 9]) (.seq (.reg [⟨some 35, none, .fa (.t 7) 4⟩, ⟨some 36, none, .load (.t 35) none⟩, ⟨some 37, none, .load (.t 5) (some 5)⟩, ⟨some 38, none, .bsl 5 [((.t 37), (some 5))]⟩, ⟨some 39, none, .app (.t 36) (.t 38) 5 80 []⟩, ⟨some 40, none, .fa (.t 7) 4⟩, ⟨none, none, .st (.t 40) (.t 39) none⟩] none [1, 3, 5, 6, 7, 9]) (.reg [⟨some 8, none, .mv (.k (.c (.bool true)))⟩] none [1, 3, 5, 6, 7, 8, 9]))) .skip)) (.seq (.reg [⟨some 41, none, .fa (.t 3) 3⟩, ⟨some 42, none, .load (.t 41) none⟩, ⟨some 43, none, .mv (.t 9)⟩, ⟨some 44, none, .ia (.t 42) (.t 43) 1⟩, ⟨some 45, none, .load (.t 44) none⟩, ⟨some 46, none, .mv (.t 1)⟩, ⟨some 47, none, .bin false .neq (.t 45) (.t 46)⟩] none [1, 3, 5, 6, 7, 8, 9, 47]) (.cond (.t 47) (.seq (.reg [⟨some 48, none, .fa (.t 7) 3⟩, ⟨some 49, none, .load (.t 48) none⟩, ⟨some 50, none, .fa (.t 3) 3⟩, ⟨some 51, none, .load (.t 50) none⟩, ⟨some 52, none, .mv (.t 9)⟩, ⟨some 53, none, .ia (.t 51) (.t 52) 1⟩, ⟨some 54, none, .load (.t 53) none⟩, ⟨some 55, none, .bsl 1 [((.t 54), none)]⟩, ⟨some 56, none, .app (.t 49) (.t 55) 1 16 []⟩, ⟨some 57, none, .fa (.t 7) 3⟩, ⟨none, none, .st (.t 57) (.t 56) none⟩] (some 8) [1, 3, 5, 6, 7, 8, 9]) (.reg [⟨some 58, none, .fa (.t 7) 4⟩, ⟨some 59, none, .load (.t 58) none⟩, ⟨some 60, none, .fa (.t 3) 4⟩, ⟨some 61, none, .load (.t 60) none⟩, ⟨some 62, none, .mv (.t 9)⟩, ⟨some 63, none, .ia (.t 61) (.t 62) 5⟩, ⟨some 64, none, .load (.t 63) (some 5)⟩, ⟨some 65, none, .bsl 5 [((.t 64), (some 5))]⟩, ⟨some 66, none, .app (.t 59) (.t 65) 5 80 []⟩, ⟨some 67, none, .fa (.t 7) 4⟩, ⟨none, none, .st (.t 67) (.t 66) none⟩] (some 8) [1, 3, 5, 6, 7, 8, 9])) .skip)))) (.reg [⟨some 16, none, .mv (.t 9)⟩, ⟨some 17, none, .bin false .add (.t 16) (.k (.c (.int .i64 1)))⟩, ⟨some 9, none, .mv (.t 17)⟩] none [1, 3, 5, 6, 7, 8, 9])))))) (.seq (.seq (.reg [⟨some 68, none, .mv (.t 8)⟩, ⟨some 69, none, .not (.t 68)⟩] none [1, 5, 6, 7, 69]) (.cond (.t 69) (.seq (.reg [⟨some 70, none, .fa (.t 7) 3⟩, ⟨some 71, none, .load (.t 70) none⟩, ⟨some 72, none, .mv (.t 1)⟩, ⟨some 73, none, .bsl 1 [((.t 72), none)]⟩, ⟨some 74, none, .app (.t 71) (.t 73) 1 16 []⟩, ⟨some 75, none, .fa (.t 7) 3⟩, ⟨none, none, .st (.t 75) (.t 74) none⟩] none [5, 6, 7]) (.reg [⟨some 76, none, .fa (.t 7) 4⟩, ⟨some 77, none, .load (.t 76) none⟩, ⟨some 78, none, .load (.t 5) (some 5)⟩, ⟨some 79, none, .bsl 5 [((.t 78), (some 5))]⟩, ⟨some 80, none, .app (.t 77) (.t 79) 5 80 []⟩, ⟨some 81, none, .fa (.t 7) 4⟩, ⟨none, none, .st (.t 81) (.t 80) none⟩] none [6, 7])) .skip)) (.seq (.reg [⟨some 82, none, .load (.t 7) (some 5)⟩, ⟨none, none, .st (.t 6) (.t 82) (some 5)⟩] none [6]) .ret))))))
theorem chk_l2Put : chkX Go.Proofs.Try.prog 83 (Go.Proofs.Try.f45.body.getD .skip) x_l2Put = true := by kernel_rfl
theorem rs_l2Put : okRs Go.Proofs.Try.prog Go.Proofs.Try.f45.results.toList [.cell 6 (some 5)] = true := by kernel_rfl
theorem call_l2Put : okCallee Go.Proofs.Try.prog 45 = true := by kernel_rfl
def x_l2KeyDraw : X := (.seq (.reg [⟨some 2, none, .mv (.k (.c (.str ⟨#[]⟩)))⟩] none [0]) (.seq (.reg [⟨some 3, none, .mv (.t 0)⟩, ⟨some 4, none, .bsl 1 [((.k (.c (.str ⟨#[97]⟩))), none), ((.k (.c (.str ⟨#[98]⟩))), none), ((.k (.c (.str ⟨#[99]⟩))), none), ((.k (.c (.str ⟨#[97]⟩))), none), ((.k (.c (.str ⟨#[98]⟩))), none), ((.k (.c (.str ⟨#[100]⟩))), none), ((.k (.c (.str ⟨#[]⟩))), none), ((.k (.c (.str ⟨#[65]⟩))), none), ((.k (.c (.str ⟨#[122, 122]⟩))), none)]⟩, ⟨some 5, none, .callr 48 [(.t 3), (.t 4)]⟩, ⟨some 2, none, .mv (.t 5)⟩] none [2]) .ret))
theorem chk_l2KeyDraw : chkX Go.Proofs.Try.prog 6 (Go.Proofs.Try.f44.body.getD .skip) x_l2KeyDraw = true := by kernel_rfl
theorem rs_l2KeyDraw : okRs Go.Proofs.Try.prog Go.Proofs.Try.f44.results.toList [.tmp 2] = true := by kernel_rfl
theorem call_l2KeyDraw : okCallee Go.Proofs.Try.prog 44 = true := by kernel_rfl
def x_DrawRowBy : X := (.seq (.reg [⟨some 2, none, .alloc [(.c (.int .i64 0)), (.c (.int .i64 0)), (.c (.str ⟨#[]⟩)), (.z 1), (.z 5)]⟩, ⟨some 3, none, .mv (.k (.c (.str ⟨#[]⟩)))⟩] none [0, 2]) (.seq (.reg [⟨some 8, none, .mv (.t 0)⟩, ⟨some 9, none, .call 23 [(.t 8)]⟩, ⟨some 4, none, .mv (.t 9)⟩] none [2, 4]) (.seq (.seq (.reg [⟨some 10, none, .mv (.t 4)⟩, ⟨some 11, none, .callr 24 [(.t 10), (.k (.c (.int .i64 4)))]⟩, ⟨some 12, none, .bin false .eql (.t 11) (.k (.c (.int .i64 0)))⟩] none [2, 4, 12]) (.cond (.t 12) (.seq (.reg [⟨some 13, none, .mv (.t 4)⟩, ⟨some 14, none, .callr 25 [(.t 13)]⟩, ⟨some 15, none, .mv (.t 4)⟩, ⟨some 16, none, .callr 44 [(.t 15)]⟩, ⟨none, none, .st (.t 2) (.t 14) (some 5)⟩, ⟨some 3, none, .mv (.t 16)⟩] none [2, 3]) .ret) .skip)) (.seq (.reg [⟨some 17, none, .bsl 5 []⟩, ⟨some 5, none, .mv (.t 17)⟩] none [2, 4, 5]) (.seq (.seq (.reg [⟨some 18, none, .mv (.t 4)⟩, ⟨some 19, none, .callr 24 [(.t 18), (.k (.c (.int .i64 5)))]⟩, ⟨some 6, none, .mv (.t 19)⟩] none [2, 4, 5, 6]) (.block 0 (.loop (.seq (.seq (.reg [⟨some 20, none, .mv (.t 6)⟩, ⟨some 21, none, .bin false .gtr (.t 20) (.k (.c (.int .i64 0)))⟩] none [2, 4, 5, 6, 21]) (.cond (.t 21) .skip (.exit 0))) (.seq (.block 1 (.seq (.reg [⟨some 24, none, .build [(.c (.int .i64 0)), (.c (.int .i64 0)), (.c (.str ⟨#[]⟩)), (.z 1), (.z 5)] [(0, (.k (.c (.int .i64 6))), none)]⟩, ⟨some 7, none, .alloc [(.c (.int .i64 0)), (.c (.int .i64 0)), (.c (.str ⟨#[]⟩)), (.z 1), (.z 5)]⟩, ⟨none, none, .st (.t 7) (.t 24) (some 5)⟩] none [2, 4, 5, 6, 7]) (.seq (.mix [⟨some 25, none, .load (.t 7) (some 5)⟩, ⟨some 26, none, .mv (.t 4)⟩, ⟨some 27, none, .callr 24 [(.t 26), (.k (.c (.int .i64 3)))]⟩, ⟨some 28, none, .call 46 [(.t 27)]⟩] [⟨some 29, none, .call 45 [(.t 25), (.k (.c (.str ⟨#[97]⟩))), (.t 28)]⟩, ⟨none, none, .st (.t 7) (.t 29) (some 5)⟩] [[], [], [0], []] [2, 4, 5, 6, 7]) (.seq (.seq (.reg [⟨some 30, none, .mv (.t 4)⟩, ⟨some 31, none, .callr 24 [(.t 30), (.k (.c (.int .i64 2)))]⟩, ⟨some 32, none, .bin false .eql (.t 31) (.k (.c (.int .i64 0)))⟩] none [2, 4, 5, 6, 7, 32]) (.cond (.t 32) (.mix [⟨some 33, none, .load (.t 7) (some 5)⟩, ⟨some 34, none, .mv (.t 4)⟩, ⟨some 35, none, .callr 47 [(.t 34)]⟩] [⟨some 36, none, .call 45 [(.t 33), (.k (.c (.str ⟨#[98]⟩))), (.t 35)]⟩, ⟨none, none, .st (.t 7) (.t 36) (some 5)⟩] [[], [], [0]] [2, 4, 5, 6, 7]) .skip)) (.reg [⟨some 37, none, .mv (.t 5)⟩, ⟨some 38, none, .load (.t 7) (some 5)⟩, ⟨some 39, none, .bsl 5 [((.t 38), (some 5))]⟩, ⟨some 40, none, .app (.t 37) (.t 39) 5 80 []⟩, ⟨some 5, none, .mv (.t 40)⟩] none [2, 4, 5, 6]))))) (.reg [⟨some 22, none, .mv (.t 6)⟩, ⟨some 23, none, .bin false .sub (.t 22) (.k (.c (.int .i64 1)))⟩, ⟨some 6, none, .mv (.t 23)⟩] none [2, 4, 5, 6])))))) (.seq (.reg [⟨some 41, none, .mv (.t 5)⟩, ⟨some 42, none, .call 26 [(.t 41)]⟩, ⟨some 43, none, .mv (.t 4)⟩, ⟨some 44, none, .bsl 1 [((.k (.c (.str ⟨#[97]⟩))), none), ((.k (.c (.str ⟨#[97]⟩))), none), ((.k (.c (.str ⟨#[98]⟩))), none), ((.k (.c (.str ⟨#[99]⟩))), none)]⟩, ⟨some 45, none, .callr 48 [(.t 43), (.t 44)]⟩, ⟨none, none, .st (.t 2) (.t 42) (some 5)⟩, ⟨some 3, none, .mv (.t 45)⟩] none [2, 3]) .ret))))))
theorem chk_DrawRowBy : chkX Go.Proofs.Try.prog 46 (Go.Proofs.Try.f18.body.getD .skip) x_DrawRowBy = true := by kernel_rfl
theorem rs_DrawRowBy : okRs Go.Proofs.Try.prog Go.Proofs.Try.f18.results.toList [.cell 2 (some 5), .tmp 3] = true := by kernel_rfl
theorem call_DrawRowBy : okCallee Go.Proofs.Try.prog 18 = true := by kernel_rfl
noncomputable def spL2Num  : Spec := Spec.of (ι := Int) [false] (fun i => [.d (.one (.int .i64 i))]) (fun _ => True) (fun i => [.d (.agg (T.mk 3 i ⟨#[]⟩ [] []).enc)]) (fun _ => [.gone])
theorem spL2Num_inj : ∀ i j : Int, (fun (i : Int) => ([.d (.one (.int .i64 i))] : List AV)) i = (fun (i : Int) => ([.d (.one (.int .i64 i))] : List AV)) j → i = j := by
  intro n n' h
  simpa [strs_eq, T.enc_eq, encL_eq, F.enc_eq, encF_eq, Tk.enc_eq, encTk_eq, Gn.enc_eq, ints_eq, rdC_eq, and_assoc] using h
theorem spL2Num_md  : (spL2Num).md = [false] := rfl
theorem spL2Num_pre  (n : Int) : (spL2Num).pre [.d (.one (.int .i64 n))] = (True) := Spec.of_pre' spL2Num_inj n
theorem spL2Num_alts  : (spL2Num).alts = none := rfl
theorem spL2Num_res  (n : Int) : (spL2Num).res [.d (.one (.int .i64 n))] = [.d (.agg (T.mk 3 n ⟨#[]⟩ [] []).enc)] := Spec.of_res spL2Num_inj n
theorem spL2Num_out  (n : Int) : (spL2Num).out [.d (.one (.int .i64 n))] = [.gone] := Spec.of_out spL2Num_inj n
theorem spL2Num_all  (n : Int) (F : List AV → List AV → Prop) : (spL2Num).all [.d (.one (.int .i64 n))] F = F [.d (.agg (T.mk 3 n ⟨#[]⟩ [] []).enc)] [.gone] := by rw [Spec.all_fn rfl, spL2Num_res, spL2Num_out]
theorem spL2Num_ne  (n : Int) : (spL2Num).ne [.d (.one (.int .i64 n))] = True := Spec.ne_fn rfl _
theorem l2Num_sound : Sound Go.Proofs.Try.prog 46 spL2Num := by
  refine sound_fam GOK.nil Go.Proofs.Try.func46 (c := Go.Proofs.Try.f46.body.getD .skip) rfl (n := 5) rfl chk_l2Num rs_l2Num (fun _ => by simp) ?_ ?_
  · exact spL2Num_inj
  · intro n _
    simp only [x_l2Num, rg, go_sem, seval, Prod.fst, T.enc, strs, encL]
theorem mulB16 {n : Nat} (h : n ≤ 2000002) : n * 16 ≤ 140737488355328 := by omega
theorem mulB80 {n : Nat} (h : n ≤ 2000002) : n * 80 ≤ 140737488355328 := by omega
noncomputable def putT (v : T) (key : ByteArray) (x : T) : T := .mk 6 0 ⟨#[]⟩ (putS key x false v.keys v.list).1 (putS key x false v.keys v.list).2
noncomputable def spL2Put  : Spec := Spec.of (ι := T × ByteArray × T) [false, false, false] (fun i => [.d (.agg i.1.enc), .d (.one (.str i.2.1)), .d (.agg i.2.2.enc)]) (fun i => i.1.fit 140737488355328 ∧ lenB 1000000 i.1.keys.length ∧ i.1.keys.length = i.1.list.length) (fun i => [.d (.agg (putT i.1 i.2.1 i.2.2).enc)]) (fun _ => [.gone, .gone, .gone])
theorem spL2Put_inj : ∀ i j : T × ByteArray × T, (fun (i : T × ByteArray × T) => ([.d (.agg i.1.enc), .d (.one (.str i.2.1)), .d (.agg i.2.2.enc)] : List AV)) i = (fun (i : T × ByteArray × T) => ([.d (.agg i.1.enc), .d (.one (.str i.2.1)), .d (.agg i.2.2.enc)] : List AV)) j → i = j := by
  rintro ⟨v, key, x⟩ ⟨v', key', x'⟩ h
  simp only [Prod.mk.injEq]
  simpa [strs_eq, T.enc_eq, encL_eq, F.enc_eq, encF_eq, Tk.enc_eq, encTk_eq, Gn.enc_eq, ints_eq, rdC_eq, and_assoc] using h
theorem spL2Put_md  : (spL2Put).md = [false, false, false] := rfl
theorem spL2Put_pre  (v : T) (key : ByteArray) (x : T) : (spL2Put).pre [.d (.agg v.enc), .d (.one (.str key)), .d (.agg x.enc)] = (v.fit 140737488355328 ∧ lenB 1000000 v.keys.length ∧ v.keys.length = v.list.length) := Spec.of_pre' spL2Put_inj (v, key, x)
theorem spL2Put_alts  : (spL2Put).alts = none := rfl
theorem spL2Put_res  (v : T) (key : ByteArray) (x : T) : (spL2Put).res [.d (.agg v.enc), .d (.one (.str key)), .d (.agg x.enc)] = [.d (.agg (putT v key x).enc)] := Spec.of_res spL2Put_inj (v, key, x)
theorem spL2Put_out  (v : T) (key : ByteArray) (x : T) : (spL2Put).out [.d (.agg v.enc), .d (.one (.str key)), .d (.agg x.enc)] = [.gone, .gone, .gone] := Spec.of_out spL2Put_inj (v, key, x)
theorem spL2Put_all  (v : T) (key : ByteArray) (x : T) (F : List AV → List AV → Prop) : (spL2Put).all [.d (.agg v.enc), .d (.one (.str key)), .d (.agg x.enc)] F = F [.d (.agg (putT v key x).enc)] [.gone, .gone, .gone] := by rw [Spec.all_fn rfl, spL2Put_res, spL2Put_out]
theorem spL2Put_ne  (v : T) (key : ByteArray) (x : T) : (spL2Put).ne [.d (.agg v.enc), .d (.one (.str key)), .d (.agg x.enc)] = True := Spec.ne_fn rfl _
set_option maxHeartbeats 10000000 in
theorem l2Put_sound : Sound Go.Proofs.Try.prog 45 spL2Put := by
  refine sound_fam GOK.nil Go.Proofs.Try.func45 (c := Go.Proofs.Try.f45.body.getD .skip) rfl (n := 83) rfl chk_l2Put rs_l2Put (fun _ => by simp) ?_ ?_
  · exact spL2Put_inj
  · rintro ⟨v, key, x⟩ ⟨h1, h2, h3⟩
    obtain ⟨k, n, s, ks, l⟩ := v
    have h4 : (ks.length : Int) ≤ 1000000 := h2
    have h5 : ks.length = l.length := h3
    have fx := T.enc_len x
    simp only [x_l2Put, rg, go_sem, seval, Prod.fst, T.enc, fx]
    refine pw_loop (ι := Nat × Bool × List ByteArray × List T) (fun i => ks.length - i.1)
      (fun i => i.1 ≤ ks.length ∧ i.2.2.1 ++ (putS key x i.2.1 (ks.drop i.1) (l.drop i.1)).1 = (putS key x false ks l).1 ∧ i.2.2.2 ++ (putS key x i.2.1 (ks.drop i.1) (l.drop i.1)).2 = (putS key x false ks l).2 ∧ i.2.2.1.length ≤ 2 * i.1 ∧ i.2.2.2.length ≤ 2 * i.1)
      (fun i => ⟨[(1, .q (.c (.str key))), (3, .q (.box 3 0)), (5, .q (.box 5 0)), (6, .q (.box 6 0)), (7, .q (.box 7 0)), (8, .q (.c (.bool i.2.1))), (9, .q (.c (.int .i64 i.1)))],
        [(3, [.c (.int .i64 k), .c (.int .i64 n), .c (.str s), .c (.row 1 (strs ks)), .c (.row 5 (encL l))]), (5, x.enc.map .c), (6, [.c (.int .i64 0), .c (.int .i64 0), .c (.str ⟨#[]⟩), .z 1, .z 5]), (7, [.c (.int .i64 6), .c (.int .i64 0), .c (.str ⟨#[]⟩), .own 301, .own 302])],
        [(301, 1, strs i.2.2.1), (302, 5, encL i.2.2.2)]⟩) (0, false, [], []) ⟨by simp, by simp, by simp, by simp, by simp⟩ ?_ ?_
    · refine (Le.ownB (b := 7) (j := 3) (d := 301) (sz := 1) (qs := [.c (.int .i64 6), .c (.int .i64 0), .c (.str ⟨#[]⟩), .z 1, .z 5]) (by decide) (by simp) rfl (by simp [Q.killO]) (by simp [PV.map, Q.killO])).trans
        ((Le.ownB (b := 7) (j := 4) (d := 302) (sz := 5) (qs := [.c (.int .i64 6), .c (.int .i64 0), .c (.str ⟨#[]⟩), .own 301, .z 5]) (by decide) (by simp [upd]) rfl (by simp [upd, del, Q.killO]) (by simp [PV.map, Q.killO])).trans (Le.of_eq (by simp [upd, del, strs, encL])))
    · rintro ⟨i, d, a, b⟩ ⟨g1, g2, g3, g4, g5⟩
      simp only at g1 g2 g3 g4 g5
      rcases Nat.lt_or_ge i ks.length with hlt | hge
      · obtain ⟨y, hy, hd, _⟩ := drop_at hlt
        obtain ⟨t, ht, hd', _⟩ := drop_at (l := l) (i := i) (by omega)
        have b1 : ((i : Int) < (ks.length : Int)) = True := eq_true (by omega)
        have a1 := strs_at hy
        have a2 := encL_at ht
        have f1 := T.enc_len t
        have hi : i < l.length := by omega
        rw [hd, hd'] at g2 g3
        simp only [putS] at g2 g3
        cases d with
        | true =>
          by_cases e : y = key
          · have e' : (y = key) = True := eq_true e
            simp only [rg, go_sem, seval, Prod.fst, b1, a1, a2, e', f1, fx, encL_len, encL_appL, encL_one, List.length_append]
            repeat' (first | with_reducible assumption | with_reducible refine And.intro ?_ ?_ | intro _)
            all_goals first | omega | assumption | skip
            refine ⟨(i + 1, true, a, b), ⟨by show i + 1 ≤ _; omega, ?_, ?_, by show a.length ≤ 2 * (i + 1); omega, by show b.length ≤ 2 * (i + 1); omega⟩, by show ks.length - (i + 1) < _; omega, Le.refl _⟩
            · rw [← g2]; simp [e]
            · rw [← g3]; simp [e]
          · have e' : (y = key) = False := eq_false e
            simp only [rg, go_sem, seval, Prod.fst, b1, a1, a2, e', f1, fx, encL_len, encL_appL, encL_one, List.length_append]
            repeat' (first | with_reducible assumption | with_reducible refine And.intro ?_ ?_ | intro _)
            all_goals first | omega | assumption | skip
            refine ⟨(i + 1, true, a ++ [y], b ++ [t]), ⟨by show i + 1 ≤ _; omega, ?_, ?_, by show (a ++ [y]).length ≤ 2 * (i + 1); simp; omega, by show (b ++ [t]).length ≤ 2 * (i + 1); simp; omega⟩, by show ks.length - (i + 1) < _; omega, Le.of_eq (by simp [strs])⟩
            · rw [← g2]; simp [e]
            · rw [← g3]; simp [e]
        | false =>
          by_cases c : sl y key
          · have c' : sl y key = True := eq_true c
            have e : ¬ y = key := fun h => by rw [h] at c; exact sl_irrefl _ c
            have e' : (y = key) = False := eq_false e
            simp only [rg, go_sem, seval, Prod.fst, b1, a1, a2, c', e', f1, fx, encL_len, encL_appL, encL_one, List.length_append]
            repeat' (first | with_reducible assumption | with_reducible refine And.intro ?_ ?_ | intro _)
            all_goals first | omega | assumption | skip
            refine ⟨(i + 1, false, a ++ [y], b ++ [t]), ⟨by show i + 1 ≤ _; omega, ?_, ?_, by show (a ++ [y]).length ≤ 2 * (i + 1); simp; omega, by show (b ++ [t]).length ≤ 2 * (i + 1); simp; omega⟩, by show ks.length - (i + 1) < _; omega, Le.of_eq (by simp [strs])⟩
            · rw [← g2]; simp [e, c]
            · rw [← g3]; simp [e, c]
          · have c' : sl y key = False := eq_false c
            by_cases e : y = key
            · have e' : (y = key) = True := eq_true e
              simp only [rg, go_sem, seval, Prod.fst, b1, a1, a2, c', e', f1, fx, encL_len, encL_appL, encL_one, List.length_append]
              repeat' (first | with_reducible assumption | with_reducible refine And.intro ?_ ?_ | intro _)
              all_goals first | omega | assumption | skip
              refine ⟨(i + 1, true, a ++ [key], b ++ [x]), ⟨by show i + 1 ≤ _; omega, ?_, ?_, by show (a ++ [key]).length ≤ 2 * (i + 1); simp; omega, by show (b ++ [x]).length ≤ 2 * (i + 1); simp; omega⟩, by show ks.length - (i + 1) < _; omega, Le.of_eq (by simp [strs])⟩
              · rw [e] at g2; rw [← g2]; simp [sl_irrefl]
              · rw [e] at g3; rw [← g3]; simp [sl_irrefl]
            · have e' : (y = key) = False := eq_false e
              simp only [rg, go_sem, seval, Prod.fst, b1, a1, a2, c', e', f1, fx, encL_len, encL_appL, encL_one, List.length_append]
              have ha : a.length + 1 + 1 ≤ 2000002 := by omega
              have hb : b.length + 1 + 1 ≤ 2000002 := by omega
              clear b1 c' e'
              repeat' (first | with_reducible assumption | with_reducible refine And.intro ?_ ?_ | intro _)
              · omega
              · omega
              · omega
              · exact mulB16 ha
              · omega
              · exact mulB80 hb
              · omega
              · omega
              · refine ⟨(i + 1, true, a ++ [key, y], b ++ [x, t]), ⟨by show i + 1 ≤ _; omega, ?_, ?_, by show (a ++ [key, y]).length ≤ 2 * (i + 1); simp; omega, by show (b ++ [x, t]).length ≤ 2 * (i + 1); simp; omega⟩, by show ks.length - (i + 1) < _; omega, Le.of_eq (by simp [strs, encL_app, encL])⟩
                · rw [← g2]; simp [e, c]
                · rw [← g3]; simp [e, c]
      · obtain rfl : i = ks.length := by omega
        have b1 : ((ks.length : Int) < (ks.length : Int)) = False := eq_false (by omega)
        rw [List.drop_length] at g2 g3
        cases d with
        | true =>
          simp only [putS, if_true, List.append_nil] at g2 g3
          simp only [rg, go_sem, seval, Prod.fst, b1, fx, encL_len, encL_appL, encL_one, List.length_append]
          repeat' (first | with_reducible assumption | with_reducible refine And.intro ?_ ?_ | intro _)
          all_goals first | omega | assumption | skip
          all_goals simp [putT, T.keys, T.list, T.enc, g2, g3]
        | false =>
          simp only [putS] at g2 g3
          simp only [rg, go_sem, seval, Prod.fst, b1, fx, encL_len, encL_appL, encL_one, List.length_append]
          repeat' (first | with_reducible assumption | with_reducible refine And.intro ?_ ?_ | intro _)
          all_goals first | omega | assumption | skip
          all_goals simp [putT, T.keys, T.list, T.enc, ← g2, ← g3, strs]
theorem putS_eq (key : ByteArray) (x : T) : ∀ (done : Bool) (ks : List ByteArray) (l : List T), ks.length = l.length → (putS key x done ks l).1.length = (putS key x done ks l).2.length
  | done, k :: ks, t :: l, h => by
    have ih := putS_eq key x (done || (!done && !decide (sl k key))) ks l (by simpa using h)
    simp only [putS]
    by_cases d : k = key
    · subst d
      have hs : ¬ sl k k := sl_irrefl k
      cases done <;> simp [hs] at ih ⊢ <;> exact ih
    · by_cases c : sl k key <;> cases done <;> simp [c, d] at ih ⊢ <;> exact ih
  | done, [], [], _ => by cases done <;> simp [putS]
structure goodM (m : Nat) (z : Int) (v : T) : Prop where
  f : v.fit 1000
  e : v.keys.length = v.list.length
  m : v.keys.length ≤ m
  z : sizeT v ≤ z
theorem putT_good {m : Nat} {z w : Int} {v x : T} {key : ByteArray} (h : goodM m z v) (hx : x.fit 1000) (hk : (key.size : Int) ≤ 1000) (hw : sizeT x ≤ w) (hm : m + 1 ≤ 1000) : goodM (m + 1) (z + w) (putT v key x) := by
  obtain ⟨k, n, s, ks, l⟩ := v
  obtain ⟨h1, h2, h3, h4⟩ := h
  simp only [T.keys, T.list] at h2 h3
  have a := putS_len key x false ks l
  have b := putS_mem key x false ks l
  have c := putS_eq key x false ks l h2
  have d := putS_size key x false ks l
  simp only [Bool.false_eq_true, if_false] at a d
  simp only [sizeT] at h4
  refine ⟨⟨by unfold i64; omega, by unfold i64; omega, by unfold lenB; decide, ⟨?_, fun s hs => ?_⟩, ?_, fitL_of fun t ht => ?_⟩, c, ?_, ?_⟩
  · simp only [T.keys, T.list, lenB]; omega
  · rcases b.1 s hs with e | e
    · rw [e]; exact hk
    · exact h1.2.2.2.1.2 s e
  · simp only [T.keys, T.list, lenB]; omega
  · rcases b.2 t ht with e | e
    · rw [e]; exact hx
    · exact fitL_in h1.2.2.2.2.2 t e
  · show (putS key x false ks l).1.length ≤ m + 1; omega
  · show sizeT (T.mk _ _ _ _ _) ≤ _
    simp only [sizeT, T.keys, T.list]; omega
theorem strs9 (a b c d e f g h i : ByteArray) : C.row 1 [[C.str a], [C.str b], [C.str c], [C.str d], [C.str e], [C.str f], [C.str g], [C.str h], [C.str i]] = C.row 1 (strs [a, b, c, d, e, f, g, h, i]) := rfl
def spKeyDraw  : Spec := Spec.ofR (ι := (List Int) × Int) (κ := ByteArray) [true] (fun i => [.ref (rdC i.1 i.2)]) (fun i => byt i.1 ∧ 0 ≤ i.2 ∧ i.2 ≤ 1099511627776) (fun i k => (k.size : Int) ≤ 10) (fun i k => [.d (.one (.str k))]) (fun i k => [.ref (rdC i.1 (i.2 + 1))])
theorem spKeyDraw_inj : ∀ i j : (List Int) × Int, (fun (i : (List Int) × Int) => ([.ref (rdC i.1 i.2)] : List AV)) i = (fun (i : (List Int) × Int) => ([.ref (rdC i.1 i.2)] : List AV)) j → i = j := by
  rintro ⟨bs, p⟩ ⟨bs', p'⟩ h
  simp only [Prod.mk.injEq]
  simpa [strs_eq, T.enc_eq, encL_eq, F.enc_eq, encF_eq, Tk.enc_eq, encTk_eq, Gn.enc_eq, ints_eq, rdC_eq, and_assoc] using h
theorem spKeyDraw_md  : (spKeyDraw).md = [true] := rfl
theorem spKeyDraw_pre  (bs : List Int) (p : Int) : (spKeyDraw).pre [.ref (rdC bs p)] = (byt bs ∧ 0 ≤ p ∧ p ≤ 1099511627776) := Spec.ofR_pre spKeyDraw_inj (bs, p)
theorem spKeyDraw_ne0  (bs : List Int) (p : Int) : (spKeyDraw).ne [.ref (rdC bs p)] = (∃ k : ByteArray, (k.size : Int) ≤ 10) := Spec.ofR_ne spKeyDraw_inj (bs, p)
theorem spKeyDraw_all  (bs : List Int) (p : Int) (F : List AV → List AV → Prop) : (spKeyDraw).all [.ref (rdC bs p)] F = (∀ (s : ByteArray), ((s.size : Int) ≤ 10) → F [.d (.one (.str s))] [.ref (rdC bs (p + 1))]) := by
  refine (Spec.ofR_all spKeyDraw_inj (bs, p) F).trans (propext ⟨fun h s hr => h s hr, fun h k hr => ?_⟩)
  exact h k hr
theorem spKeyDraw_ne (bs : List Int) (p : Int) : spKeyDraw.ne [.ref (rdC bs p)] = True := by
  rw [spKeyDraw_ne0]
  exact eq_true ⟨⟨#[]⟩, by decide⟩
theorem l2KeyDraw_sound : Sound Go.Proofs.Try.prog 44 spKeyDraw := by
  refine sound_famR (GOK.cons call_dof dof_sound GOK.nil) Go.Proofs.Try.func44 (c := Go.Proofs.Try.f44.body.getD .skip) rfl (n := 6) rfl chk_l2KeyDraw rs_l2KeyDraw (fun _ => by simp) ?_
  · rintro ⟨bs, p⟩ ⟨hb, h1, h2⟩
    change byt bs at hb
    simp only at h1 h2
    simp only [x_l2KeyDraw, rg, go_sem, seval, Prod.fst, strs9, spDof_md, spDof_pre, spDof_ne, ↓spDof_all, spDof_all]
    repeat' (first | with_reducible assumption | with_reducible refine And.intro ?_ ?_ | intro _)
    all_goals first | omega | skip
    rename_i s h
    refine ⟨s, ?_, rfl⟩
    simp only [List.mem_cons, List.not_mem_nil, or_false, reduceCtorEq] at h
    rcases h with rfl | rfl | rfl | rfl | rfl | rfl | rfl | rfl | rfl <;> decide
theorem leaf_weak : Sound Go.Proofs.Try.prog 47 spLeaf.weak := l1Leaf_sound.weak (by
    rintro ds r o _ ⟨i, k, _, _, rfl, _⟩ x hx
    rw [List.mem_singleton] at hx; subst hx
    simp [AV.dt, Pt.dt, dtR_plain, plainR_strs])
def spDRowBy  : Spec := Spec.ofR (ι := (List Int)) (κ := Int × Int × ByteArray × (List ByteArray) × (List T) × ByteArray) [false] (fun i => [.d (.one (.row 1 (ints .u8 i)))]) (fun i => (∀ b ∈ i, 0 ≤ b ∧ b ≤ 255) ∧ lenB 140737488355328 i.length) (fun i k => drW 16000 (.mk k.1 k.2.1 k.2.2.1 k.2.2.2.1 k.2.2.2.2.1) ∧ (k.2.2.2.2.2.size : Int) ≤ 10) (fun i k => [.d (.agg (T.mk k.1 k.2.1 k.2.2.1 k.2.2.2.1 k.2.2.2.2.1).enc), .d (.one (.str k.2.2.2.2.2))]) (fun i k => [.gone])
theorem spDRowBy_inj : ∀ i j : (List Int), (fun (i : (List Int)) => ([.d (.one (.row 1 (ints .u8 i)))] : List AV)) i = (fun (i : (List Int)) => ([.d (.one (.row 1 (ints .u8 i)))] : List AV)) j → i = j := by
  intro bs bs' h
  simpa [strs_eq, T.enc_eq, encL_eq, F.enc_eq, encF_eq, Tk.enc_eq, encTk_eq, Gn.enc_eq, ints_eq, rdC_eq, and_assoc] using h
theorem spDRowBy_md  : (spDRowBy).md = [false] := rfl
theorem spDRowBy_pre  (bs : List Int) : (spDRowBy).pre [.d (.one (.row 1 (ints .u8 bs)))] = ((∀ b ∈ bs, 0 ≤ b ∧ b ≤ 255) ∧ lenB 140737488355328 bs.length) := Spec.ofR_pre spDRowBy_inj bs
theorem spDRowBy_all  (bs : List Int) (F : List AV → List AV → Prop) : (spDRowBy).all [.d (.one (.row 1 (ints .u8 bs)))] F = (∀ (k : Int) (n : Int) (s : ByteArray) (ks : List ByteArray) (l : List T) (key : ByteArray), (drW 16000 (.mk k n s ks l) ∧ (key.size : Int) ≤ 10) → F [.d (.agg (T.mk k n s ks l).enc), .d (.one (.str key))] [.gone]) := by
  refine (Spec.ofR_all spDRowBy_inj bs F).trans (propext ⟨fun h k n s ks l key hr => h (k, n, s, ks, l, key) hr, fun h k hr => ?_⟩)
  exact h k.1 k.2.1 k.2.2.1 k.2.2.2.1 k.2.2.2.2.1 k.2.2.2.2.2 hr
set_option maxHeartbeats 4000000 in
theorem DrawRowBy_sound : Sound Go.Proofs.Try.prog 18 spDRowBy := by
  refine sound_famR (GOK.cons (l := [(48, spDof), (47, spLeaf.weak), (25, spRowDraw), (26, spL4Of), (46, spL2Num), (45, spL2Put), (44, spKeyDraw), (23, spOpen)]) call_pick pick_sound (GOK.cons call_dof dof_sound (GOK.cons call_l1Leaf leaf_weak (GOK.cons call_l4RowDraw l4RowDraw_sound (GOK.cons call_l4Of l4Of_sound (GOK.cons call_l2Num l2Num_sound (GOK.cons call_l2Put l2Put_sound (GOK.cons call_l2KeyDraw l2KeyDraw_sound (GOK.cons call_l11Open l11Open_sound GOK.nil))))))))) Go.Proofs.Try.func18 (c := Go.Proofs.Try.f18.body.getD .skip) rfl (n := 46) rfl chk_DrawRowBy rs_DrawRowBy (fun _ => by simp) ?_
  · rintro bs ⟨hb, h1⟩
    have hy := byt_take hb
    simp only [x_DrawRowBy, rg, go_sem, seval, Prod.fst, T.enc_len, spOpen_md, spOpen_pre, spOpen_alts, spOpen_res, spOpen_out, spRowDraw_md, spRowDraw_pre, spRowDraw_ne, ↓spRowDraw_all, spRowDraw_all, spPick_md, spPick_pre, spPick_ne, ↓spPick_all, spPick_all, spKeyDraw_md, spKeyDraw_pre, spKeyDraw_ne, ↓spKeyDraw_all, spKeyDraw_all]
    repeat' (first | with_reducible assumption | with_reducible refine And.intro ?_ ?_ | intro _)
    all_goals first | omega | skip
    · rename_i k n s ks l q hd key hk
      exact ⟨(k, n, s, ks, l, key), ⟨hd.1, hk⟩, ⟨rfl, rfl⟩⟩
    · rename_i m hm
      refine pw_loop (ι := Nat × Nat × Int × List T) (fun i => i.1)
        (fun i => i.1 + i.2.1 ≤ 4 ∧ 2 ≤ i.2.2.1 ∧ i.2.2.1 ≤ 2 + i.2.1 * 30 ∧ i.2.2.2.length ≤ i.2.1 ∧ fitL 1000 i.2.2.2 ∧ sizeL i.2.2.2 ≤ i.2.1 * 10)
        (fun i => ⟨[(2, .q (.box 2 0)), (4, .q (.box 9 0)), (5, .q (.own 301)), (6, .q (.c (.int .i64 i.1)))],
          [(2, [.c (.int .i64 0), .c (.int .i64 0), .c (.str ⟨#[]⟩), .z 1, .z 5]), (9, (rdC (bs.take 2000) i.2.2.1).map .c)],
          [(301, 5, encL i.2.2.2)]⟩) (m.toNat, 0, 2, []) ⟨by show m.toNat + 0 ≤ 4; omega, by show (2 : Int) ≤ 2; omega, by show (2 : Int) ≤ 2 + ((0 : Nat) : Int) * 30; simp, by simp, trivial, by simp [sizeL]⟩ ?_ ?_
      · have e : ((m.toNat : Nat) : Int) = m := by omega
        refine Le.own (t := 5) (d := 301) (sz := 5) (by decide) (by simp) (by simp [Q.killO, rdC]) ?_
        simp [e, PV.map, Q.killO]
      · rintro ⟨i, j, q, l⟩ ⟨g1, g2, g3, g4, g5, g6⟩
        simp only at g1 g2 g3 g4 g5 g6
        rcases Nat.eq_zero_or_pos i with h0 | hpos
        · have b1 : (((i : Nat) : Int) > 0) = False := eq_false (by omega)
          have hh : drW 16000 (.mk 5 0 ⟨#[]⟩ [] l) := (drT_mk (m := 16000) (by unfold i64; omega) (by unfold i64; omega) (by decide) (by simp) (by simp) (by omega) g5 (by omega)).w
          simp only [rg, go_sem, seval, Prod.fst, b1, strs4, T.enc_len, spL4Of_md, spL4Of_pre, spL4Of_alts, spL4Of_res, spL4Of_out, spDof_md, spDof_pre, spDof_ne, ↓spDof_all, spDof_all]
          repeat' (first | with_reducible assumption | with_reducible refine And.intro ?_ ?_ | intro _)
          all_goals first | omega | skip
          rename_i key hk
          have hs : (key.size : Int) ≤ 10 := by
            simp only [List.mem_cons, List.not_mem_nil, or_false, reduceCtorEq] at hk
            rcases hk with rfl | rfl | rfl | rfl <;> decide
          exact ⟨(5, 0, ⟨#[]⟩, [], l, key), ⟨hh, hs⟩, rfl, rfl⟩
        · have b1 : (((i : Nat) : Int) > 0) = True := eq_true (by omega)
          have G0 : goodM 0 1 (T.mk 6 0 ⟨#[]⟩ [] []) := ⟨⟨by unfold i64; omega, by unfold i64; omega, by unfold lenB; decide, ⟨by unfold lenB; decide, by simp⟩, by unfold lenB; decide, trivial⟩, rfl, by simp [T.keys], by simp [sizeT, sizeL]⟩
          have G1 : ∀ m : Int, 0 ≤ m ∧ m < 3 → goodM 1 2 (putT (T.mk 6 0 ⟨#[]⟩ [] []) ⟨#[97]⟩ (T.mk 3 m ⟨#[]⟩ [] [])) := fun m hm =>
            putT_good G0 ⟨by unfold i64; omega, by unfold i64; omega, by unfold lenB; decide, ⟨by unfold lenB; decide, by simp⟩, by unfold lenB; decide, trivial⟩ (by decide) (w := 1) (by simp [sizeT, sizeL]) (by omega)
          have ei : (i : Int) - 1 = ((i - 1 : Nat) : Int) := by omega
          have fin : ∀ (v : T), goodM 2 3 v → ∀ q' : Int, q ≤ q' → q' ≤ q + 25 → i - 1 + (j + 1) ≤ 4 ∧ 2 ≤ q' ∧ q' ≤ 2 + ((j + 1 : Nat) : Int) * 30 ∧ (l ++ [v]).length ≤ j + 1 ∧ fitL 1000 (l ++ [v]) ∧ sizeL (l ++ [v]) ≤ ((j + 1 : Nat) : Int) * 10 := fun v hv q' k1 k2 => by
            have h3 := hv.z
            refine ⟨by omega, by omega, by omega, by simp; omega, fitL_app g5 ⟨hv.f, trivial⟩, ?_⟩
            rw [sizeL_app]; simp only [sizeL]; omega
          simp only [rg, go_sem, seval, Prod.fst, b1, T.enc_len, T.enc_dropQ, encL_len, foldT, foldT2, spL2Num_md, spL2Num_pre, spL2Num_alts, spL2Num_res, spL2Num_out, spL2Num_md, spL2Num_pre, spL2Num_ne, ↓spL2Num_all, spL2Num_all, spL2Put_md, spL2Put_pre, spL2Put_alts, spL2Put_res, spL2Put_out, spL2Put_md, spL2Put_pre, spL2Put_ne, ↓spL2Put_all, spL2Put_all, spPick_md, spPick_pre, spPick_ne, ↓spPick_all, spPick_all, weak_md, weak_pre, weak_ne, ↓weak_all, AV.weak, Pt.toC, spLeaf_md, spLeaf_pre, spLeaf_ne, ↓spLeaf_all, spLeaf_all]
          repeat' (first | with_reducible assumption | with_reducible refine And.intro ?_ ?_ | intro _)
          all_goals first | exact T.fit_mono (by decide) G0.f | exact T.fit_mono (by decide) (G1 _ (by assumption)).f | rfl | exact (G1 _ (by assumption)).e | skip
          all_goals first | (have h1 := (G1 _ (by assumption)).m; unfold lenB; omega) | (unfold lenB; decide) | exact mulB80 (by omega) | (show _ ≤ (_ : Int); omega) | (show _ < (_ : Int); omega) | skip
          · rename_i m1 hm1 _ _ _ _ k2 n2 s2 ks2 l2 q2 hd _ _ _
            obtain ⟨hd, hq, hq2⟩ := hd
            refine ⟨(i - 1, j + 1, q2, l ++ [putT (putT (T.mk 6 0 ⟨#[]⟩ [] []) ⟨#[97]⟩ (T.mk 3 m1 ⟨#[]⟩ [] [])) ⟨#[98]⟩ (T.mk k2 n2 s2 ks2 l2)]), fin _ (putT_good (G1 m1 hm1) hd.1 (by decide) hd.2.1 (by omega)) q2 (by omega) (by omega), by show i - 1 < i; omega, ?_⟩
            rw [ei]
            refine Le.sub ?_ ?_ ?_ <;> simp [encL_app, encL]
          · rename_i m1 hm1 _ _ _ _ _ _
            have G2 := G1 m1 hm1
            refine ⟨(i - 1, j + 1, q + 1 + 1, l ++ [putT (T.mk 6 0 ⟨#[]⟩ [] []) ⟨#[97]⟩ (T.mk 3 m1 ⟨#[]⟩ [] [])]), fin _ ⟨G2.f, G2.e, Nat.le_succ_of_le G2.m, Int.le_trans G2.z (by decide)⟩ (q + 1 + 1) (by omega) (by omega), by show i - 1 < i; omega, ?_⟩
            rw [ei]
            refine Le.sub ?_ ?_ ?_ <;> simp [encL_app, encL]
end Go.Proofs.Pw
/- What a law is told of a row of octets. -/
namespace Go.Proofs.Pw
def bytes (bs : List Int) : Prop := (∀ b ∈ bs, 0 ≤ b ∧ b ≤ 255) ∧ lenB 140737488355328 bs.length
end Go.Proofs.Pw
