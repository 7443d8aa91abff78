/- Trees added: both programs. -/
import Derived.Test.YtaldfcjengfibaaPwT16
import Derived.Test.YtaldfcjengfibaaPwT15
import Derived.Test.YtaldfcjengfibaaPwT10
set_option linter.unusedSimpArgs false
set_option linter.unusedVariables false
set_option linter.unusedSimpArgs false
set_option maxRecDepth 20000
namespace Go.Proofs.Pw
set_option linter.unusedSectionVars false
variable [Globs]
def x_num : X := (.seq (.reg [⟨some 2, none, .alloc [(.c (.int .i64 0)), (.c (.int .i64 0)), (.c (.str ⟨#[]⟩)), (.z 1), (.z 5)]⟩] none [0, 2]) (.seq (.reg [⟨some 3, none, .mv (.t 0)⟩, ⟨some 4, none, .build [(.c (.int .i64 0)), (.c (.int .i64 0)), (.c (.str ⟨#[]⟩)), (.z 1), (.z 5)] [(0, (.k (.c (.int .i64 3))), none), (1, (.t 3), none)]⟩, ⟨none, none, .st (.t 2) (.t 4) (some 5)⟩] none [2]) .ret))
theorem chk_num : chkX Go.Proofs.Try.prog 5 (Go.Proofs.Try.f38.body.getD .skip) x_num = true := by kernel_rfl
theorem rs_num : okRs Go.Proofs.Try.prog Go.Proofs.Try.f38.results.toList [.cell 2 (some 5)] = true := by kernel_rfl
theorem call_num : okCallee Go.Proofs.Try.prog 38 = true := by kernel_rfl
def x_PartAddI : X := (.seq (.reg [⟨some 2, none, .box (.t 0) (some 5)⟩, ⟨some 3, none, .box (.t 1) (some 5)⟩, ⟨some 4, none, .alloc [(.c (.int .i64 0)), (.c (.int .i64 0)), (.c (.str ⟨#[]⟩)), (.z 1), (.z 5)]⟩, ⟨some 5, none, .mv (.k (.c (.bool false)))⟩] none [2, 3, 4]) (.seq (.seq (.reg [⟨some 9, none, .load (.t 2) (some 5)⟩, ⟨some 10, none, .call 35 [(.t 9)]⟩, ⟨some 11, none, .not (.t 10)⟩, ⟨some 12, none, .mv (.t 11)⟩, ⟨some 13, some (12, false), .load (.t 3) (some 5)⟩, ⟨some 14, some (12, false), .call 35 [(.t 13)]⟩, ⟨some 15, some (12, false), .not (.t 14)⟩, ⟨some 16, none, .pick (.t 12) (.k (.c (.bool true))) (.t 15)⟩] none [2, 3, 4, 16]) (.cond (.t 16) (.seq (.reg [⟨some 17, none, .build [(.c (.int .i64 0)), (.c (.int .i64 0)), (.c (.str ⟨#[]⟩)), (.z 1), (.z 5)] []⟩, ⟨none, none, .st (.t 4) (.t 17) (some 5)⟩, ⟨some 5, none, .mv (.k (.c (.bool false)))⟩] none [4, 5]) .ret) .skip)) (.seq (.block 0 (.seq (.reg [⟨some 19, none, .fa (.t 2) 0⟩, ⟨some 20, none, .load (.t 19) none⟩, ⟨some 21, none, .bin false .eql (.t 20) (.k (.c (.int .i64 0)))⟩, ⟨some 18, none, .mv (.t 21)⟩] none [2, 3, 4, 18]) (.cond (.t 18) (.seq (.reg [⟨some 22, none, .load (.t 3) (some 5)⟩, ⟨some 23, none, .call 28 [(.t 22), (.k (.c (.bool true)))]⟩, ⟨some 24, none, .ext (.t 23) 0⟩, ⟨some 25, none, .ext (.t 23) 1⟩, ⟨none, none, .st (.t 4) (.t 24) (some 5)⟩, ⟨some 5, none, .mv (.t 25)⟩] none [4, 5]) .ret) (.seq (.reg [⟨some 27, none, .fa (.t 3) 0⟩, ⟨some 28, none, .load (.t 27) none⟩, ⟨some 29, none, .bin false .eql (.t 28) (.k (.c (.int .i64 0)))⟩, ⟨some 26, none, .mv (.t 29)⟩] none [2, 3, 4, 26]) (.cond (.t 26) (.seq (.reg [⟨some 30, none, .load (.t 2) (some 5)⟩, ⟨some 31, none, .call 28 [(.t 30), (.k (.c (.bool true)))]⟩, ⟨some 32, none, .ext (.t 31) 0⟩, ⟨some 33, none, .ext (.t 31) 1⟩, ⟨none, none, .st (.t 4) (.t 32) (some 5)⟩, ⟨some 5, none, .mv (.t 33)⟩] none [4, 5]) .ret) (.seq (.reg [⟨some 35, none, .fa (.t 2) 0⟩, ⟨some 36, none, .load (.t 35) none⟩, ⟨some 37, none, .fa (.t 3) 0⟩, ⟨some 38, none, .load (.t 37) none⟩, ⟨some 39, none, .bin false .neq (.t 36) (.t 38)⟩, ⟨some 34, none, .mv (.t 39)⟩] none [2, 3, 4, 34]) (.cond (.t 34) (.seq (.reg [⟨some 40, none, .build [(.c (.int .i64 0)), (.c (.int .i64 0)), (.c (.str ⟨#[]⟩)), (.z 1), (.z 5)] []⟩, ⟨none, none, .st (.t 4) (.t 40) (some 5)⟩, ⟨some 5, none, .mv (.k (.c (.bool false)))⟩] none [4, 5]) .ret) .skip))))))) (.seq (.seq (.reg [⟨some 41, none, .fa (.t 2) 0⟩, ⟨some 42, none, .load (.t 41) none⟩] none [2, 3, 4, 42]) (.block 1 (.seq (.reg [⟨some 44, none, .bin false .eql (.t 42) (.k (.c (.int .i64 3)))⟩, ⟨some 43, none, .mv (.t 44)⟩] none [2, 3, 4, 42, 43]) (.cond (.t 43) (.seq (.reg [⟨some 45, none, .fa (.t 2) 1⟩, ⟨some 46, none, .load (.t 45) none⟩, ⟨some 47, none, .fa (.t 3) 1⟩, ⟨some 48, none, .load (.t 47) none⟩, ⟨some 49, none, .bin false .add (.t 46) (.t 48)⟩, ⟨some 50, none, .call 38 [(.t 49)]⟩, ⟨some 51, none, .call 28 [(.t 50), (.k (.c (.bool true)))]⟩, ⟨some 52, none, .ext (.t 51) 0⟩, ⟨some 53, none, .ext (.t 51) 1⟩, ⟨none, none, .st (.t 4) (.t 52) (some 5)⟩, ⟨some 5, none, .mv (.t 53)⟩] none [4, 5]) .ret) (.seq (.reg [⟨some 55, none, .bin false .eql (.t 42) (.k (.c (.int .i64 4)))⟩, ⟨some 54, none, .mv (.t 55)⟩] none [2, 3, 4, 42, 54]) (.cond (.t 54) (.seq (.reg [⟨some 56, none, .fa (.t 2) 2⟩, ⟨some 57, none, .load (.t 56) none⟩, ⟨some 58, none, .fa (.t 3) 2⟩, ⟨some 59, none, .load (.t 58) none⟩, ⟨some 60, none, .bin false .add (.t 57) (.t 59)⟩, ⟨some 61, none, .call 37 [(.t 60)]⟩, ⟨some 62, none, .call 28 [(.t 61), (.k (.c (.bool true)))]⟩, ⟨some 63, none, .ext (.t 62) 0⟩, ⟨some 64, none, .ext (.t 62) 1⟩, ⟨none, none, .st (.t 4) (.t 63) (some 5)⟩, ⟨some 5, none, .mv (.t 64)⟩] none [4, 5]) .ret) (.seq (.reg [⟨some 66, none, .bin false .eql (.t 42) (.k (.c (.int .i64 5)))⟩, ⟨some 65, none, .mv (.t 66)⟩] none [2, 3, 4, 42, 65]) (.cond (.t 65) (.seq (.reg [⟨some 67, none, .fa (.t 2) 4⟩, ⟨some 68, none, .load (.t 67) none⟩, ⟨some 69, none, .fa (.t 3) 4⟩, ⟨some 70, none, .load (.t 69) none⟩, ⟨some 71, none, .bsl 1 [((.t 68), none), ((.t 70), none)]⟩, ⟨some 72, none, .call 39 [(.t 71)]⟩, ⟨some 73, none, .call 32 [(.t 72)]⟩, ⟨some 74, none, .call 28 [(.t 73), (.k (.c (.bool true)))]⟩, ⟨some 75, none, .ext (.t 74) 0⟩, ⟨some 76, none, .ext (.t 74) 1⟩, ⟨none, none, .st (.t 4) (.t 75) (some 5)⟩, ⟨some 5, none, .mv (.t 76)⟩] none [4, 5]) .ret) (.seq (.reg [⟨some 78, none, .bin false .eql (.t 42) (.k (.c (.int .i64 6)))⟩, ⟨some 77, none, .mv (.t 78)⟩] none [2, 3, 4, 77]) (.cond (.t 77) (.seq (.reg [⟨some 79, none, .load (.t 2) (some 5)⟩, ⟨some 6, none, .alloc [(.c (.int .i64 0)), (.c (.int .i64 0)), (.c (.str ⟨#[]⟩)), (.z 1), (.z 5)]⟩, ⟨none, none, .st (.t 6) (.t 79) (some 5)⟩] none [3, 4, 6]) (.seq (.seq (.reg [⟨some 80, none, .fa (.t 3) 3⟩, ⟨some 81, none, .load (.t 80) none⟩, ⟨some 82, none, .len (.t 81) false⟩, ⟨some 83, none, .mv (.k (.c (.int .i64 0)))⟩] none [3, 4, 6, 81, 82, 83]) (.block 2 (.loop (.seq (.reg [⟨some 84, none, .bin false .lss (.t 83) (.t 82)⟩] none [3, 4, 6, 81, 82, 83, 84]) (.seq (.cond (.t 84) .skip (.exit 2)) (.seq (.block 3 (.seq (.reg [⟨some 85, none, .mv (.t 83)⟩, ⟨some 86, none, .ia (.t 81) (.t 83) 1⟩, ⟨some 87, none, .load (.t 86) none⟩, ⟨some 7, none, .mv (.t 85)⟩, ⟨some 8, none, .mv (.t 87)⟩] none [3, 4, 6, 7, 8, 81, 82, 83]) (.reg [⟨some 88, none, .load (.t 6) (some 5)⟩, ⟨some 89, none, .mv (.t 8)⟩, ⟨some 90, none, .fa (.t 3) 4⟩, ⟨some 91, none, .load (.t 90) none⟩, ⟨some 92, none, .mv (.t 7)⟩, ⟨some 93, none, .ia (.t 91) (.t 92) 5⟩, ⟨some 94, none, .load (.t 93) (some 5)⟩, ⟨some 95, none, .call 40 [(.t 88), (.t 89), (.t 94)]⟩, ⟨none, none, .st (.t 6) (.t 95) (some 5)⟩] (some 7) [3, 4, 6, 81, 82, 83]))) (.reg [⟨some 96, none, .bin false .add (.t 83) (.k (.c (.int .i64 1)))⟩, ⟨some 83, none, .mv (.t 96)⟩] none [3, 4, 6, 81, 82, 83]))))))) (.seq (.reg [⟨some 97, none, .load (.t 6) (some 5)⟩, ⟨some 98, none, .call 28 [(.t 97), (.k (.c (.bool true)))]⟩, ⟨some 99, none, .ext (.t 98) 0⟩, ⟨some 100, none, .ext (.t 98) 1⟩, ⟨none, none, .st (.t 4) (.t 99) (some 5)⟩, ⟨some 5, none, .mv (.t 100)⟩] none [4, 5]) .ret))) .skip)))))))))) (.seq (.reg [⟨some 101, none, .build [(.c (.int .i64 0)), (.c (.int .i64 0)), (.c (.str ⟨#[]⟩)), (.z 1), (.z 5)] []⟩, ⟨none, none, .st (.t 4) (.t 101) (some 5)⟩, ⟨some 5, none, .mv (.k (.c (.bool false)))⟩] none [4, 5]) .ret)))))
theorem chk_PartAddI : chkX Go.Proofs.Try.prog 102 (Go.Proofs.Try.f13.body.getD .skip) x_PartAddI = true := by kernel_rfl
theorem rs_PartAddI : okRs Go.Proofs.Try.prog Go.Proofs.Try.f13.results.toList [.cell 4 (some 5), .tmp 5] = true := by kernel_rfl
theorem call_PartAddI : okCallee Go.Proofs.Try.prog 13 = true := by kernel_rfl
def x_PartAdd : X := (.seq (.reg [⟨some 2, none, .box (.t 0) (some 5)⟩, ⟨some 3, none, .box (.t 1) (some 5)⟩, ⟨some 4, none, .alloc [(.c (.int .i64 0)), (.c (.int .i64 0)), (.c (.str ⟨#[]⟩)), (.z 1), (.z 5)]⟩, ⟨some 5, none, .mv (.k (.c (.bool false)))⟩] none [2, 3, 4]) (.seq (.block 0 (.seq (.reg [⟨some 9, none, .load (.t 2) (some 5)⟩, ⟨some 10, none, .call 63 [(.t 9)]⟩, ⟨some 11, none, .not (.t 10)⟩, ⟨some 12, none, .mv (.t 11)⟩, ⟨some 13, some (12, false), .load (.t 3) (some 5)⟩, ⟨some 14, some (12, false), .call 63 [(.t 13)]⟩, ⟨some 15, some (12, false), .not (.t 14)⟩, ⟨some 16, none, .pick (.t 12) (.k (.c (.bool true))) (.t 15)⟩, ⟨some 8, none, .mv (.t 16)⟩] none [2, 3, 4, 8]) (.cond (.t 8) (.seq (.reg [⟨some 17, none, .build [(.c (.int .i64 0)), (.c (.int .i64 0)), (.c (.str ⟨#[]⟩)), (.z 1), (.z 5)] []⟩, ⟨none, none, .st (.t 4) (.t 17) (some 5)⟩, ⟨some 5, none, .mv (.k (.c (.bool false)))⟩] none [4, 5]) .ret) (.seq (.reg [⟨some 19, none, .fa (.t 2) 0⟩, ⟨some 20, none, .load (.t 19) none⟩, ⟨some 21, none, .bin false .eql (.t 20) (.k (.c (.int .i64 0)))⟩, ⟨some 18, none, .mv (.t 21)⟩] none [2, 3, 4, 18]) (.cond (.t 18) (.seq (.reg [⟨some 22, none, .load (.t 3) (some 5)⟩, ⟨some 23, none, .call 65 [(.t 22)]⟩, ⟨none, none, .st (.t 4) (.t 23) (some 5)⟩, ⟨some 5, none, .mv (.k (.c (.bool true)))⟩] none [4, 5]) .ret) (.seq (.reg [⟨some 25, none, .fa (.t 3) 0⟩, ⟨some 26, none, .load (.t 25) none⟩, ⟨some 27, none, .bin false .eql (.t 26) (.k (.c (.int .i64 0)))⟩, ⟨some 24, none, .mv (.t 27)⟩] none [2, 3, 4, 24]) (.cond (.t 24) (.seq (.reg [⟨some 28, none, .load (.t 2) (some 5)⟩, ⟨some 29, none, .call 65 [(.t 28)]⟩, ⟨none, none, .st (.t 4) (.t 29) (some 5)⟩, ⟨some 5, none, .mv (.k (.c (.bool true)))⟩] none [4, 5]) .ret) (.seq (.reg [⟨some 31, none, .fa (.t 2) 0⟩, ⟨some 32, none, .load (.t 31) none⟩, ⟨some 33, none, .fa (.t 3) 0⟩, ⟨some 34, none, .load (.t 33) none⟩, ⟨some 35, none, .bin false .neq (.t 32) (.t 34)⟩, ⟨some 30, none, .mv (.t 35)⟩] none [2, 3, 4, 30]) (.cond (.t 30) (.seq (.reg [⟨some 36, none, .build [(.c (.int .i64 0)), (.c (.int .i64 0)), (.c (.str ⟨#[]⟩)), (.z 1), (.z 5)] []⟩, ⟨none, none, .st (.t 4) (.t 36) (some 5)⟩, ⟨some 5, none, .mv (.k (.c (.bool false)))⟩] none [4, 5]) .ret) .skip))))))))) (.seq (.reg [⟨some 37, none, .load (.t 2) (some 5)⟩, ⟨some 38, none, .call 65 [(.t 37)]⟩, ⟨some 6, none, .alloc [(.c (.int .i64 0)), (.c (.int .i64 0)), (.c (.str ⟨#[]⟩)), (.z 1), (.z 5)]⟩, ⟨none, none, .st (.t 6) (.t 38) (some 5)⟩] none [2, 3, 4, 6]) (.seq (.seq (.reg [⟨some 39, none, .fa (.t 2) 0⟩, ⟨some 40, none, .load (.t 39) none⟩] none [2, 3, 4, 6, 40]) (.block 1 (.seq (.reg [⟨some 43, none, .bin false .eql (.t 40) (.k (.c (.int .i64 3)))⟩, ⟨some 42, none, .mv (.t 43)⟩] none [2, 3, 4, 6, 40, 42]) (.cond (.t 42) (.reg [⟨some 44, none, .fa (.t 2) 1⟩, ⟨some 45, none, .load (.t 44) none⟩, ⟨some 46, none, .fa (.t 3) 1⟩, ⟨some 47, none, .load (.t 46) none⟩, ⟨some 48, none, .bin false .add (.t 45) (.t 47)⟩, ⟨some 49, none, .fa (.t 6) 1⟩, ⟨none, none, .st (.t 49) (.t 48) none⟩] none [4, 6]) (.seq (.reg [⟨some 51, none, .bin false .eql (.t 40) (.k (.c (.int .i64 4)))⟩, ⟨some 50, none, .mv (.t 51)⟩] none [2, 3, 4, 6, 40, 50]) (.cond (.t 50) (.reg [⟨some 52, none, .fa (.t 2) 2⟩, ⟨some 53, none, .load (.t 52) none⟩, ⟨some 54, none, .fa (.t 3) 2⟩, ⟨some 55, none, .load (.t 54) none⟩, ⟨some 56, none, .bin false .add (.t 53) (.t 55)⟩, ⟨some 57, none, .fa (.t 6) 2⟩, ⟨none, none, .st (.t 57) (.t 56) none⟩] none [4, 6]) (.seq (.reg [⟨some 59, none, .bin false .eql (.t 40) (.k (.c (.int .i64 5)))⟩, ⟨some 58, none, .mv (.t 59)⟩] none [3, 4, 6, 40, 58]) (.cond (.t 58) (.reg [⟨some 60, none, .fa (.t 6) 4⟩, ⟨some 61, none, .load (.t 60) none⟩, ⟨some 62, none, .fa (.t 3) 4⟩, ⟨some 63, none, .load (.t 62) none⟩, ⟨some 64, none, .app (.t 61) (.t 63) 5 80 []⟩, ⟨some 65, none, .fa (.t 6) 4⟩, ⟨none, none, .st (.t 65) (.t 64) none⟩] none [4, 6]) (.seq (.reg [⟨some 67, none, .bin false .eql (.t 40) (.k (.c (.int .i64 6)))⟩, ⟨some 66, none, .mv (.t 67)⟩] none [3, 4, 6, 66]) (.cond (.t 66) (.seq (.reg [⟨some 7, none, .mv (.k (.c (.int .i64 0)))⟩] none [3, 4, 6, 7]) (.block 2 (.loop (.seq (.seq (.reg [⟨some 68, none, .mv (.t 7)⟩, ⟨some 69, none, .fa (.t 3) 3⟩, ⟨some 70, none, .load (.t 69) none⟩, ⟨some 71, none, .len (.t 70) false⟩, ⟨some 72, none, .bin false .lss (.t 68) (.t 71)⟩] none [3, 4, 6, 7, 72]) (.cond (.t 72) .skip (.exit 2))) (.seq (.block 3 (.reg [⟨some 75, none, .load (.t 6) (some 5)⟩, ⟨some 76, none, .fa (.t 3) 3⟩, ⟨some 77, none, .load (.t 76) none⟩, ⟨some 78, none, .mv (.t 7)⟩, ⟨some 79, none, .ia (.t 77) (.t 78) 1⟩, ⟨some 80, none, .load (.t 79) none⟩, ⟨some 81, none, .fa (.t 3) 4⟩, ⟨some 82, none, .load (.t 81) none⟩, ⟨some 83, none, .mv (.t 7)⟩, ⟨some 84, none, .ia (.t 82) (.t 83) 5⟩, ⟨some 85, none, .load (.t 84) (some 5)⟩, ⟨some 86, none, .call 45 [(.t 75), (.t 80), (.t 85)]⟩, ⟨none, none, .st (.t 6) (.t 86) (some 5)⟩] (some 11) [3, 4, 6, 7])) (.reg [⟨some 73, none, .mv (.t 7)⟩, ⟨some 74, none, .bin false .add (.t 73) (.k (.c (.int .i64 1)))⟩, ⟨some 7, none, .mv (.t 74)⟩] none [3, 4, 6, 7])))))) (.seq (.reg [⟨some 41, none, .build [(.c (.int .i64 0)), (.c (.int .i64 0)), (.c (.str ⟨#[]⟩)), (.z 1), (.z 5)] []⟩, ⟨none, none, .st (.t 4) (.t 41) (some 5)⟩, ⟨some 5, none, .mv (.k (.c (.bool false)))⟩] none [4, 5]) .ret))))))))))) (.seq (.reg [⟨some 87, none, .load (.t 6) (some 5)⟩, ⟨some 88, none, .call 31 [(.t 87)]⟩, ⟨some 89, none, .ext (.t 88) 0⟩, ⟨some 90, none, .ext (.t 88) 1⟩, ⟨none, none, .st (.t 4) (.t 89) (some 5)⟩, ⟨some 5, none, .mv (.t 90)⟩] none [4, 5]) .ret)))))
theorem chk_PartAdd : chkX Go.Proofs.Try.prog 91 (Go.Proofs.Try.f30.body.getD .skip) x_PartAdd = true := by kernel_rfl
theorem rs_PartAdd : okRs Go.Proofs.Try.prog Go.Proofs.Try.f30.results.toList [.cell 4 (some 5), .tmp 5] = true := by kernel_rfl
theorem call_PartAdd : okCallee Go.Proofs.Try.prog 30 = true := by kernel_rfl
noncomputable def spNum  : Spec := Spec.of (ι := Int) [false] (fun i => [.d (.one (.int .i64 i))]) (fun _ => True) (fun i => [.d (.agg (T.mk 3 i ⟨#[]⟩ [] []).enc)]) (fun _ => [.gone])
theorem spNum_inj : ∀ i j : Int, (fun (i : Int) => ([.d (.one (.int .i64 i))] : List AV)) i = (fun (i : Int) => ([.d (.one (.int .i64 i))] : List AV)) j → i = j := by
  intro n n' h
  simpa [strs_eq, T.enc_eq, encL_eq, F.enc_eq, encF_eq, Tk.enc_eq, encTk_eq, Gn.enc_eq, ints_eq] using h
theorem spNum_md  : (spNum).md = [false] := rfl
theorem spNum_pre  (n : Int) : (spNum).pre [.d (.one (.int .i64 n))] = (True) := Spec.of_pre' spNum_inj n
theorem spNum_alts  : (spNum).alts = none := rfl
theorem spNum_res  (n : Int) : (spNum).res [.d (.one (.int .i64 n))] = [.d (.agg (T.mk 3 n ⟨#[]⟩ [] []).enc)] := Spec.of_res spNum_inj n
theorem spNum_out  (n : Int) : (spNum).out [.d (.one (.int .i64 n))] = [.gone] := Spec.of_out spNum_inj n
theorem num_sound : Sound Go.Proofs.Try.prog 38 spNum := by
  refine sound_fam GOK.nil Go.Proofs.Try.func38 (c := Go.Proofs.Try.f38.body.getD .skip) rfl (n := 5) rfl chk_num rs_num (fun _ => by simp) ?_ ?_
  · exact spNum_inj
  · intro n _
    simp only [x_num, rg, go_sem, seval, Prod.fst, T.enc, strs, encL]
noncomputable def spAddI  : Spec := Spec.of (ι := T × T) [false, false] (fun i => [.d (.agg i.1.enc), .d (.agg i.2.enc)]) (fun i => i.1.fit 140737488355328 ∧ i.2.fit 140737488355328) (fun i => [.d (.agg (addT i.1 i.2).enc), .d (.one (.bool (decide (addOk i.1 i.2))))]) (fun _ => [.gone, .gone])
theorem spAddI_inj : ∀ i j : T × T, (fun (i : T × T) => ([.d (.agg i.1.enc), .d (.agg i.2.enc)] : List AV)) i = (fun (i : T × T) => ([.d (.agg i.1.enc), .d (.agg i.2.enc)] : List AV)) j → i = j := by
  rintro ⟨a, b⟩ ⟨a', b'⟩ h
  simp only [Prod.mk.injEq]
  simpa [strs_eq, T.enc_eq, encL_eq, F.enc_eq, encF_eq, Tk.enc_eq, encTk_eq, Gn.enc_eq, ints_eq] using h
theorem spAddI_md  : (spAddI).md = [false, false] := rfl
theorem spAddI_pre  (a : T) (b : T) : (spAddI).pre [.d (.agg a.enc), .d (.agg b.enc)] = (a.fit 140737488355328 ∧ b.fit 140737488355328) := Spec.of_pre' spAddI_inj (a, b)
theorem spAddI_alts  : (spAddI).alts = none := rfl
theorem spAddI_res  (a : T) (b : T) : (spAddI).res [.d (.agg a.enc), .d (.agg b.enc)] = [.d (.agg (addT a b).enc), .d (.one (.bool (decide (addOk a b))))] := Spec.of_res spAddI_inj (a, b)
theorem spAddI_out  (a : T) (b : T) : (spAddI).out [.d (.agg a.enc), .d (.agg b.enc)] = [.gone, .gone] := Spec.of_out spAddI_inj (a, b)
set_option maxHeartbeats 4000000 in
theorem PartAddI_sound : Sound Go.Proofs.Try.prog 13 spAddI := by
  refine sound_fam (GOK.cons (l := [(28, spTold), (38, spNum), (37, spStr), (32, spRow), (39, spConcat), (40, spPut)]) call_ValOkI valOkI_sound (GOK.cons call_told told_sound (GOK.cons call_num num_sound (GOK.cons call_str str_sound (GOK.cons call_row row_sound (GOK.cons call_Concat Concat_sound (GOK.cons call_put put_sound GOK.nil))))))) Go.Proofs.Try.func13 (c := Go.Proofs.Try.f13.body.getD .skip) rfl (n := 102) rfl chk_PartAddI rs_PartAddI (fun _ => by simp) ?_ ?_
  · exact spAddI_inj
  · rintro ⟨a, b⟩ ⟨h1, h2⟩
    simp only at h1 h2
    have fa := T.enc_len a
    have fb := T.enc_len b
    by_cases oa : okT a
    rotate_left
    · have o1 : ((okI a 1 60).1 = true) = False := eq_false (fun h => oa ((okI_iff _).1 h))
      have e := addT_not (a := a) (b := b) (fun h => oa h.1)
      simp only [x_PartAddI, rg, go_sem, seval, Prod.fst, fa, fb, o1, e.1, e.2, T.zero_enc, spValOkI_md, spValOkI_pre, spValOkI_alts, spValOkI_res, spValOkI_out]
      repeat' (first | with_reducible assumption | with_reducible refine And.intro ?_ ?_ | intro _)
      all_goals first | (show _ ≤ (_ : Int); omega) | assumption | skip
    by_cases ob : okT b
    rotate_left
    · have o1 : ((okI a 1 60).1 = true) = True := eq_true ((okI_iff _).2 oa)
      have o2 : ((okI b 1 60).1 = true) = False := eq_false (fun h => ob ((okI_iff _).1 h))
      have e := addT_not (a := a) (b := b) (fun h => ob h.2)
      simp only [x_PartAddI, rg, go_sem, seval, Prod.fst, fa, fb, o1, o2, e.1, e.2, T.zero_enc, spValOkI_md, spValOkI_pre, spValOkI_alts, spValOkI_res, spValOkI_out]
      repeat' (first | with_reducible assumption | with_reducible refine And.intro ?_ ?_ | intro _)
      all_goals first | (show _ ≤ (_ : Int); omega) | assumption | skip
    have o1 : ((okI a 1 60).1 = true) = True := eq_true ((okI_iff _).2 oa)
    have o2 : ((okI b 1 60).1 = true) = True := eq_true ((okI_iff _).2 ob)
    have ga := okT_fit oa
    have gb := okT_fit ob
    have ga2 := T.fit_mono (B := 2000000) (by decide) ga
    have gb2 := T.fit_mono (B := 2000000) (by decide) gb
    obtain ⟨k, n, s, ks, l⟩ := a
    obtain ⟨k', n', s', ks', l'⟩ := b
    have ha := okT_head oa
    have hb := okT_head ob
    have oa' := eq_true oa
    have ob' := eq_true ob
    by_cases c0 : k = 0
    · have e := addT_some oa ob (t := .mk k' n' s' ks' l') (by simp only [addRaw, if_pos c0])
      have z0 : (k = 0) = True := eq_true c0
      simp only [x_PartAddI, rg, go_sem, seval, Prod.fst, T.enc, foldT, foldT0, T.enc_len, o1, o2, z0, e.1, e.2, spValOkI_md, spValOkI_pre, spValOkI_alts, spValOkI_res, spValOkI_out, spTold_md, spTold_pre, spTold_alts, spTold_res, spTold_out]
      repeat' (first | with_reducible assumption | with_reducible refine And.intro ?_ ?_ | intro _)
      all_goals first | (show _ ≤ (_ : Int); omega) | assumption | (unfold lenB; omega) | skip
    have z0 : (k = 0) = False := eq_false c0
    by_cases c1 : k' = 0
    · have e := addT_some oa ob (t := .mk k n s ks l) (by simp only [addRaw, if_neg c0, if_pos c1])
      have z1 : (k' = 0) = True := eq_true c1
      simp only [x_PartAddI, rg, go_sem, seval, Prod.fst, T.enc, foldT, foldT0, T.enc_len, o1, o2, z0, z1, e.1, e.2, spValOkI_md, spValOkI_pre, spValOkI_alts, spValOkI_res, spValOkI_out, spTold_md, spTold_pre, spTold_alts, spTold_res, spTold_out]
      repeat' (first | with_reducible assumption | with_reducible refine And.intro ?_ ?_ | intro _)
      all_goals first | (show _ ≤ (_ : Int); omega) | assumption | (unfold lenB; omega) | skip
    have z1 : (k' = 0) = False := eq_false c1
    by_cases c2 : k = k'
    rotate_left
    · have e := addT_none oa ob (by simp only [addRaw, if_neg c0, if_neg c1, ne_eq, c2, not_false_eq_true, if_true])
      have z2 : (k = k') = False := eq_false c2
      simp only [x_PartAddI, rg, go_sem, seval, Prod.fst, T.enc, foldT, foldT0, T.enc_len, o1, o2, z0, z1, z2, e.1, e.2, T.zero_enc, spValOkI_md, spValOkI_pre, spValOkI_alts, spValOkI_res, spValOkI_out]
      repeat' (first | with_reducible assumption | with_reducible refine And.intro ?_ ?_ | intro _)
      all_goals first | (show _ ≤ (_ : Int); omega) | assumption | (unfold lenB; omega) | skip
    subst c2
    by_cases c3 : k = 3
    · subst c3
      have e := addT_some oa ob (t := .mk 3 (n + n') ⟨#[]⟩ [] []) (by simp [addRaw])
      have g : (T.mk 3 (n + n') ⟨#[]⟩ [] []).fit 2000000 := by
        refine ⟨by unfold i64; omega, by unfold i64; omega, by unfold lenB; decide, ⟨by unfold lenB; decide, by simp⟩, by unfold lenB; decide, trivial⟩
      simp only [x_PartAddI, rg, go_sem, seval, Prod.fst, T.enc, foldT, foldT0, T.enc_len, o1, o2, e.1, e.2, spValOkI_md, spValOkI_pre, spValOkI_alts, spValOkI_res, spValOkI_out, spNum_md, spNum_pre, spNum_alts, spNum_res, spNum_out, spTold_md, spTold_pre, spTold_alts, spTold_res, spTold_out]
      repeat' (first | with_reducible assumption | with_reducible refine And.intro ?_ ?_ | intro _)
      all_goals first | (show _ ≤ (_ : Int); omega) | assumption | (unfold lenB; omega) | skip
    have z3 : (k = 3) = False := eq_false c3
    by_cases c4 : k = 4
    · subst c4
      have e := addT_some oa ob (t := .mk 4 0 (s ++ s') [] []) (by simp [addRaw])
      have g : (T.mk 4 0 (s ++ s') [] []).fit 2000000 := by
        refine ⟨by unfold i64; omega, by unfold i64; omega, by unfold lenB; rw [ByteArray.size_append]; omega, ⟨by unfold lenB; decide, by simp⟩, by unfold lenB; decide, trivial⟩
      simp only [x_PartAddI, rg, go_sem, seval, Prod.fst, T.enc, foldT, foldT0, T.enc_len, o1, o2, e.1, e.2, spValOkI_md, spValOkI_pre, spValOkI_alts, spValOkI_res, spValOkI_out, spStr_md, spStr_pre, spStr_alts, spStr_res, spStr_out, spTold_md, spTold_pre, spTold_alts, spTold_res, spTold_out]
      repeat' (first | with_reducible assumption | with_reducible refine And.intro ?_ ?_ | intro _)
      all_goals first | (show _ ≤ (_ : Int); omega) | assumption | (unfold lenB; omega) | skip
    have z4 : (k = 4) = False := eq_false c4
    by_cases c5 : k = 5
    · subst c5
      have e := addT_some oa ob (t := .mk 5 0 ⟨#[]⟩ [] (l ++ l')) (by simp [addRaw])
      simp only [T.fit] at ga gb
      obtain ⟨_, _, _, _, l1, f1⟩ := ga
      obtain ⟨_, _, _, _, l2, f2⟩ := gb
      unfold lenB at l1 l2
      have g : (T.mk 5 0 ⟨#[]⟩ [] (l ++ l')).fit 2000000 := rowT_fit (by omega) (by unfold lenB; rw [List.length_append]; omega) (fitL_app (fitL_of fun t ht => T.fit_mono (by decide) (fitL_mem f1 t ht)) (fitL_of fun t ht => T.fit_mono (by decide) (fitL_mem f2 t ht)))
      simp only [x_PartAddI, rg, go_sem, seval, Prod.fst, T.enc, foldT, foldT0, T.enc_len, o1, o2, e.1, e.2, spValOkI_md, spValOkI_pre, spValOkI_alts, spValOkI_res, spValOkI_out, spConcat_md, spConcat_pre, spConcat_alts, spConcat_res, spConcat_out, spRow_md, spRow_pre, spRow_alts, spRow_res, spRow_out, spTold_md, spTold_pre, spTold_alts, spTold_res, spTold_out]
      repeat' (first | with_reducible assumption | with_reducible refine And.intro ?_ ?_ | intro _)
      all_goals first | (show _ ≤ (_ : Int); omega) | assumption | (unfold lenB; omega) | skip
    have z5 : (k = 5) = False := eq_false c5
    by_cases c6 : k = 6
    rotate_left
    · have z6 : (k = 6) = False := eq_false c6
      have e := addT_none oa ob (by simp [addRaw, c0, c3, c4, c5, c6])
      simp only [x_PartAddI, rg, go_sem, seval, Prod.fst, T.enc, foldT, foldT0, T.enc_len, o1, o2, z0, z3, z4, z5, z6, e.1, e.2, T.zero_enc, spValOkI_md, spValOkI_pre, spValOkI_alts, spValOkI_res, spValOkI_out]
      repeat' (first | with_reducible assumption | with_reducible refine And.intro ?_ ?_ | intro _)
      all_goals first | (show _ ≤ (_ : Int); omega) | assumption | (unfold lenB; omega) | skip
    subst c6
    obtain ⟨rfl, rfl, e1, _⟩ := okT_map oa rfl
    obtain ⟨rfl, rfl, e2, _⟩ := okT_map ob rfl
    have G0 := good_map oa rfl
    have G1 := good_map ob rfl
    have e := addT_some oa ob (t := .mk 6 0 ⟨#[]⟩ (foldP ks' l' (ks, l)).1 (foldP ks' l' (ks, l)).2) (by simp [addRaw])
    have GF := good_fold G0 (ks := ks') (l := l') G1.ks G1.fit e2
    have few' := G1.few
    simp only at few'
    simp only [x_PartAddI, rg, go_sem, seval, Prod.fst, T.enc, foldT, foldT0, T.enc_len, strs_len, o1, o2, spValOkI_md, spValOkI_pre, spValOkI_alts, spValOkI_res, spValOkI_out]
    repeat' (first | with_reducible assumption | with_reducible refine And.intro ?_ ?_ | intro _)
    all_goals first | (show _ ≤ (_ : Int); omega) | assumption | (unfold lenB; omega) | skip
    refine pw_loop (ι := Nat) (fun i => ks'.length - i) (fun i => i ≤ ks'.length)
      (fun i => ⟨[(3, .q (.box 3 0)), (4, .q (.box 4 0)), (6, .q (.box 6 0)), (81, .q (.c (.row 1 (strs ks')))), (82, .q (.c (.int .i64 ks'.length))), (83, .q (.c (.int .i64 i)))],
        [(3, [.c (.int .i64 6), .c (.int .i64 0), .c (.str ⟨#[]⟩), .c (.row 1 (strs ks')), .c (.row 5 (encL l'))]), (4, [.c (.int .i64 0), .c (.int .i64 0), .c (.str ⟨#[]⟩), .z 1, .z 5]),
          (6, [.c (.int .i64 6), .c (.int .i64 0), .c (.str ⟨#[]⟩), .c (.row 1 (strs (foldP (ks'.take i) (l'.take i) (ks, l)).1)), .c (.row 5 (encL (foldP (ks'.take i) (l'.take i) (ks, l)).2))])], []⟩) 0 (Nat.zero_le _) ?_ ?_
    · refine Le.sub ?_ ?_ ?_ <;> simp [foldP]
    · intro i hi
      have Gi := GF i hi
      rcases Nat.lt_or_ge i ks'.length with hlt | hge
      · obtain ⟨y, hy, _, _⟩ := drop_at hlt
        obtain ⟨t, ht, _, _⟩ := drop_at (l := l') (i := i) (by omega)
        have b1 : ((i : Int) < (ks'.length : Int)) = True := eq_true (by omega)
        have a1 := strs_at hy
        have a2 := encL_at ht
        have es := foldP_succ (ks, l) hy ht
        generalize foldP (ks'.take i) (l'.take i) (ks, l) = p at *
        obtain ⟨p1, p2⟩ := p
        have ep : putT (.mk 6 0 ⟨#[]⟩ p1 p2) y t = .mk 6 0 ⟨#[]⟩ (foldP (ks'.take (i + 1)) (l'.take (i + 1)) (ks, l)).1 (foldP (ks'.take (i + 1)) (l'.take (i + 1)) (ks, l)).2 := by rw [es]; rfl
        have Gf := Gi.few
        simp only at Gf
        have hi2 : i < l'.length := by omega
        simp only [rg, go_sem, seval, Prod.fst, b1, a1, a2, T.enc, foldT, T.enc_len, strs_len, encL_len, ep, spPut_md, spPut_pre, spPut_alts, spPut_res, spPut_out]
        repeat' (first | with_reducible assumption | with_reducible refine And.intro ?_ ?_ | intro _)
        all_goals first | (show _ ≤ (_ : Int); omega) | (show _ < (_ : Int); omega) | (show _ < (_ : Nat); omega) | exact Gi.asc | exact Gi.len | skip
        · show lenB 1000000 p1.length
          unfold lenB; omega
        exact ⟨i + 1, by omega, by omega, Le.refl _⟩
      · obtain rfl : i = ks'.length := by omega
        have b1 : ((ks'.length : Int) < (ks'.length : Int)) = False := eq_false (by omega)
        rw [List.take_length, show l'.take ks'.length = l' by rw [e2, List.take_length]]
        have g1 := GF ks'.length (Nat.le_refl _)
        rw [List.take_length, show l'.take ks'.length = l' by rw [e2, List.take_length]] at g1
        generalize foldP ks' l' (ks, l) = p at *
        obtain ⟨p1, p2⟩ := p
        have Gf := g1.few
        have Gl := g1.len
        simp only at Gf Gl e
        have g : (T.mk 6 0 ⟨#[]⟩ p1 p2).fit 2000000 := ⟨by unfold i64; omega, by unfold i64; omega, by unfold lenB; decide, ⟨by unfold lenB; omega, fun x hx => by have := g1.ks x hx; unfold lenB; omega⟩, by unfold lenB; omega, fitL_of fun t ht => T.fit_mono (by decide) (fitL_in g1.fit t ht)⟩
        simp only [rg, go_sem, seval, Prod.fst, b1, T.enc, foldT, T.enc_len, strs_len, encL_len, e.1, e.2, spTold_md, spTold_pre, spTold_alts, spTold_res, spTold_out]
        repeat' (first | with_reducible assumption | with_reducible refine And.intro ?_ ?_ | intro _)
        all_goals first | (show _ ≤ (_ : Int); omega) | (show _ < (_ : Int); omega) | assumption | skip
end Go.Proofs.Pw
/- A copy is one's own: its rows are nobody else's. -/
set_option linter.unusedSimpArgs false
set_option maxRecDepth 20000
namespace Go.Proofs.Pw
set_option linter.unusedSectionVars false
variable [Globs]
/-- A tree whose keys and parts lie in rows that nobody else holds. -/
def agO : T → List Pt
  | .mk k n s ks l => [.c (.int .i64 k), .c (.int .i64 n), .c (.str s), .o 1 (strs ks), .o 5 (encL l)]
theorem agO_enc (t : T) : (agO t).map Pt.toC = t.enc := by cases t; simp [agO, Pt.toC, T.enc, dtR_plain, plainR_strs, plainR_encL]
theorem Sound.cong {P : Program} {f : FuncId} {sp sp' : Spec} (h : Sound P f sp) (hp : ∀ a, sp'.pre a → sp.pre a) (hm : ∀ a r o, sp'.pre a → sp.may a r o → sp'.may a r o) : Sound P f sp' := by
  intro args hpre w S vs fps hG hS hF ha hA
  refine (h args (hp _ hpre) w S vs fps hG hS hF ha hA).mono ?_
  rintro e w' ⟨r, o, hro, rest⟩
  exact ⟨r, o, hm _ _ _ hpre hro, rest⟩
noncomputable def spCopyA (k:Nat) : Spec := Spec.of (ι := T) [false] (fun i => [.d (.agg i.enc)]) (fun i => (i.fit 2000000) ∧ SizeOf.sizeOf i < k) (fun i => [.ag (agO i)]) (fun _ => [.gone])
theorem spCopyA_inj : ∀ i j : T, (fun (i : T) => ([.d (.agg i.enc)] : List AV)) i = (fun (i : T) => ([.d (.agg i.enc)] : List AV)) j → i = j := by
  intro t t' h
  simpa [strs_eq, T.enc_eq, encL_eq, F.enc_eq, encF_eq, Tk.enc_eq, encTk_eq, Gn.enc_eq, ints_eq] using h
theorem spCopyA_pre (k:Nat) (t : T) : (spCopyA k).pre [.d (.agg t.enc)] = ((t.fit 2000000) ∧ SizeOf.sizeOf t < k) := Spec.of_pre' spCopyA_inj t
theorem spCopyA_res (k:Nat) (t : T) : (spCopyA k).res [.d (.agg t.enc)] = [.ag (agO t)] := Spec.of_res spCopyA_inj t
theorem spCopyA_out (k:Nat) (t : T) : (spCopyA k).out [.d (.agg t.enc)] = [.gone] := Spec.of_out spCopyA_inj t
theorem copyA_plain {k : Nat} (h : Sound Go.Proofs.Try.prog 65 (spCopyA k)) : Sound Go.Proofs.Try.prog 65 (spCopy k) := by
  have hw : Sound Go.Proofs.Try.prog 65 (spCopyA k).weak := h.weak (by
    rintro ds r o ⟨i, rfl, _⟩ ⟨rfl, rfl⟩ x hx
    simp only [spCopyA_res, List.mem_singleton] at hx; subst hx
    obtain ⟨k, n, s, ks, l⟩ := i
    simp [AV.dt, Pt.dt, agO, dtR_plain, plainR_strs, plainR_encL])
  refine hw.cong (fun a ha => ?_) (fun a r o ha hr => ?_)
  · obtain ⟨t, rfl, ht⟩ := ha
    show (spCopyA k).pre _
    rw [spCopyA_pre]; exact ht
  · obtain ⟨t, rfl, ht⟩ := ha
    obtain ⟨h1, h2⟩ := (Spec.may_none (sp := (spCopyA k).weak) rfl).1 hr
    refine (Spec.may_none (spCopy_alts k)).2 ⟨?_, ?_⟩
    · rw [h1, spCopy_res]
      show ((spCopyA k).res _).map AV.weak = _
      rw [spCopyA_res]
      simp only [List.map_cons, List.map_nil, AV.weak, agO_enc]
    · rw [h2, spCopy_out]
      show (spCopyA k).out _ = _
      rw [spCopyA_out]
set_option maxHeartbeats 1000000 in
theorem copyA_sound (k : Nat) (hA : Sound Go.Proofs.Try.prog 65 (spCopyA k)) : Sound Go.Proofs.Try.prog 65 (spCopyA (k + 1)) := by
  have hS := copyA_plain hA
  refine sound_fam (GOK.cons call_l1Copy hS GOK.nil) Go.Proofs.Try.func65 (c := Go.Proofs.Try.f65.body.getD .skip) rfl (n := 35) rfl chk_l1Copy rs_l1Copy (fun _ => by simp) ?_ ?_
  · exact spCopyA_inj
  · rintro t ⟨h1, h4⟩
    obtain ⟨kk, n, s, ks, l⟩ := t
    simp only [T.fit, lenB, strsFit] at h1
    obtain ⟨_, _, f1, ⟨f2, _⟩, f3, f4⟩ := h1
    have e3 : SizeOf.sizeOf l < k := by have e : SizeOf.sizeOf (T.mk kk n s ks l) < k + 1 := h4
                                        rw [T.mk.sizeOf_spec] at e; omega
    simp only [x_l1Copy, T.enc, agO, go_sem, seval, Prod.fst, rg, strs_len, encL_len]
    repeat' (first | with_reducible assumption | with_reducible refine And.intro ?_ ?_ | intro _)
    all_goals first | omega | skip
    refine pw_loop (ι := Nat) (fun i => l.length - i) (fun i => i ≤ l.length)
      (fun i => ⟨[(1, .q (.box 1 0)), (2, .q (.box 2 0)), (3, .q (.box 3 0)), (4, .q (.c (.int .i64 i)))],
        [(1, [.c (.int .i64 kk), .c (.int .i64 n), .c (.str s), .c (.row 1 (strs ks)), .c (.row 5 (encL l))]), (2, [.c (.int .i64 0), .c (.int .i64 0), .c (.str ⟨#[]⟩), .z 1, .z 5]), (3, [.c (.int .i64 kk), .c (.int .i64 n), .c (.str s), .own 14, .own 32])], [(14, 1, strs ks), (32, 5, encL (l.take i))]⟩) 0 (Nat.zero_le _) ?_ ?_
    · refine (Le.ownB (b := 3) (j := 4) (d := 32) (sz := 5) (qs := [.c (.int .i64 kk), .c (.int .i64 n), .c (.str s), .own 14, .z 5]) (by decide) (by simp) rfl (by simp [Q.killO]) (by simp [PV.map, Q.killO])).trans (Le.of_eq ?_)
      simp [upd, del, encL]
    · intro i hi
      rcases Nat.lt_or_ge i l.length with hlt | hge
      · obtain ⟨t, ht, _, hmem⟩ := drop_at hlt
        have a1 := encL_at ht
        have a2 : ((i : Int) < (l.length : Int)) = True := by simp; omega
        have a3 := fitL_mem f4 t hmem
        have a4 := size_mem hmem
        have a6 := T.enc_len t
        have a7 : (l.take i).length = i := by simp; omega
        simp only [go_sem, seval, Prod.fst, rg, a1, a2, a6, a7, encL_len, spCopy_md, spCopy_pre, spCopy_alts, spCopy_res, spCopy_out, spCopy_md, spCopy_pre, spCopy_ne, ↓spCopy_all, spCopy_all]
        repeat' (first | with_reducible assumption | with_reducible refine And.intro ?_ ?_ | intro _)
        all_goals first | omega | skip
        refine ⟨i + 1, by omega, by omega, ?_⟩
        rw [encL_take ht]
        exact Le.sub (by simp) (by simp) (by simp)
      · have a2 : ((i : Int) < (l.length : Int)) = False := by simp; omega
        simp only [go_sem, seval, Prod.fst, rg, a2, List.take_of_length_le hge, Bool.false_or, Bool.or_true, Bool.not_true, Bool.false_eq_true]
theorem copyA_all (k : Nat) : Sound Go.Proofs.Try.prog 65 (spCopyA k) := by
  induction k with
  | zero => exact Sound.none
  | succ k ih => exact copyA_sound k ih
noncomputable def spCopyAT  : Spec := Spec.of (ι := T) [false] (fun i => [.d (.agg i.enc)]) (fun i => i.fit 2000000) (fun i => [.ag (agO i)]) (fun _ => [.gone])
theorem spCopyAT_inj : ∀ i j : T, (fun (i : T) => ([.d (.agg i.enc)] : List AV)) i = (fun (i : T) => ([.d (.agg i.enc)] : List AV)) j → i = j := by
  intro t t' h
  simpa [strs_eq, T.enc_eq, encL_eq, F.enc_eq, encF_eq, Tk.enc_eq, encTk_eq, Gn.enc_eq, ints_eq] using h
theorem spCopyAT_md  : (spCopyAT).md = [false] := rfl
theorem spCopyAT_pre  (t : T) : (spCopyAT).pre [.d (.agg t.enc)] = (t.fit 2000000) := Spec.of_pre' spCopyAT_inj t
theorem spCopyAT_alts  : (spCopyAT).alts = none := rfl
theorem spCopyAT_res  (t : T) : (spCopyAT).res [.d (.agg t.enc)] = [.ag (agO t)] := Spec.of_res spCopyAT_inj t
theorem spCopyAT_out  (t : T) : (spCopyAT).out [.d (.agg t.enc)] = [.gone] := Spec.of_out spCopyAT_inj t
theorem copyAT_sound : Sound Go.Proofs.Try.prog 65 spCopyAT := Sound.all (μ := fun i => SizeOf.sizeOf i) copyA_all
end Go.Proofs.Pw
/- Trees added: the reference's. -/
set_option linter.unusedSimpArgs false
set_option maxRecDepth 20000
namespace Go.Proofs.Pw
set_option linter.unusedSectionVars false
variable [Globs]
noncomputable def spAdd  : Spec := Spec.of (ι := T × T) [false, false] (fun i => [.d (.agg i.1.enc), .d (.agg i.2.enc)]) (fun i => i.1.fit 140737488355328 ∧ i.2.fit 140737488355328 ∧ sizeT i.1 ≤ 1048577 ∧ sizeT i.2 ≤ 1048577) (fun i => [.d (.agg (addT i.1 i.2).enc), .d (.one (.bool (decide (addOk i.1 i.2))))]) (fun _ => [.gone, .gone])
theorem spAdd_inj : ∀ i j : T × T, (fun (i : T × T) => ([.d (.agg i.1.enc), .d (.agg i.2.enc)] : List AV)) i = (fun (i : T × T) => ([.d (.agg i.1.enc), .d (.agg i.2.enc)] : List AV)) j → i = j := by
  rintro ⟨a, b⟩ ⟨a', b'⟩ h
  simp only [Prod.mk.injEq]
  simpa [strs_eq, T.enc_eq, encL_eq, F.enc_eq, encF_eq, Tk.enc_eq, encTk_eq, Gn.enc_eq, ints_eq] using h
theorem spAdd_md  : (spAdd).md = [false, false] := rfl
theorem spAdd_pre  (a : T) (b : T) : (spAdd).pre [.d (.agg a.enc), .d (.agg b.enc)] = (a.fit 140737488355328 ∧ b.fit 140737488355328 ∧ sizeT a ≤ 1048577 ∧ sizeT b ≤ 1048577) := Spec.of_pre' spAdd_inj (a, b)
theorem spAdd_alts  : (spAdd).alts = none := rfl
theorem spAdd_res  (a : T) (b : T) : (spAdd).res [.d (.agg a.enc), .d (.agg b.enc)] = [.d (.agg (addT a b).enc), .d (.one (.bool (decide (addOk a b))))] := Spec.of_res spAdd_inj (a, b)
theorem spAdd_out  (a : T) (b : T) : (spAdd).out [.d (.agg a.enc), .d (.agg b.enc)] = [.gone, .gone] := Spec.of_out spAdd_inj (a, b)
set_option maxHeartbeats 4000000 in
theorem PartAdd_sound : Sound Go.Proofs.Try.prog 30 spAdd := by
  refine sound_fam (GOK.cons (l := [(65, spCopyAT), (31, spL2Told), (45, spL2Put)]) call_ValOk sOkT_sound (GOK.cons call_l1Copy copyAT_sound (GOK.cons call_l2Told l2Told_sound (GOK.cons call_l2Put l2Put_sound GOK.nil)))) Go.Proofs.Try.func30 (c := Go.Proofs.Try.f30.body.getD .skip) rfl (n := 91) rfl chk_PartAdd rs_PartAdd (fun _ => by simp) ?_ ?_
  · exact spAdd_inj
  · rintro ⟨a, b⟩ ⟨h1, h2, h3, h4⟩
    simp only at h1 h2 h3 h4
    have fa := T.enc_len a
    have fb := T.enc_len b
    by_cases oa : okT a
    rotate_left
    · have e := addT_not (a := a) (b := b) (fun h => oa h.1)
      simp only [x_PartAdd, rg, go_sem, seval, Prod.fst, fa, fb, oa, e.1, e.2, T.zero_enc, spOkT_md, spOkT_pre, spOkT_alts, spOkT_res, spOkT_out]
      repeat' (first | with_reducible assumption | with_reducible refine And.intro ?_ ?_ | intro _)
      all_goals first | (show _ ≤ (_ : Int); omega) | (show _ ≤ (_ : Nat); omega) | assumption | (unfold lenB; omega) | skip
    by_cases ob : okT b
    rotate_left
    · have e := addT_not (a := a) (b := b) (fun h => ob h.2)
      simp only [x_PartAdd, rg, go_sem, seval, Prod.fst, fa, fb, oa, ob, e.1, e.2, T.zero_enc, spOkT_md, spOkT_pre, spOkT_alts, spOkT_res, spOkT_out]
      repeat' (first | with_reducible assumption | with_reducible refine And.intro ?_ ?_ | intro _)
      all_goals first | (show _ ≤ (_ : Int); omega) | (show _ ≤ (_ : Nat); omega) | assumption | (unfold lenB; omega) | skip
    have ga := okT_fit oa
    have gb := okT_fit ob
    have sa := okT_size oa
    have sb := okT_size ob
    have ga2 := T.fit_mono (B := 2000000) (by decide) ga
    have gb2 := T.fit_mono (B := 2000000) (by decide) gb
    obtain ⟨k, n, s, ks, l⟩ := a
    obtain ⟨k', n', s', ks', l'⟩ := b
    have ha := okT_head oa
    have hb := okT_head ob
    have oa' := eq_true oa
    have ob' := eq_true ob
    by_cases c0 : k = 0
    · have e := addT_some oa ob (t := .mk k' n' s' ks' l') (by simp only [addRaw, if_pos c0])
      rw [toldT_ok ob] at e
      have z0 : (k = 0) = True := eq_true c0
      simp only [x_PartAdd, rg, go_sem, seval, Prod.fst, T.enc, agO, foldT, foldT0, T.enc_len, oa', ob', z0, e.1, e.2, spOkT_md, spOkT_pre, spOkT_alts, spOkT_res, spOkT_out, spCopyAT_md, spCopyAT_pre, spCopyAT_alts, spCopyAT_res, spCopyAT_out]
      repeat' (first | with_reducible assumption | with_reducible refine And.intro ?_ ?_ | intro _)
      all_goals first | (show _ ≤ (_ : Int); omega) | (show _ ≤ (_ : Nat); omega) | assumption | (unfold lenB; omega) | skip
    have z0 : (k = 0) = False := eq_false c0
    by_cases c1 : k' = 0
    · have e := addT_some oa ob (t := .mk k n s ks l) (by simp only [addRaw, if_neg c0, if_pos c1])
      rw [toldT_ok oa] at e
      have z1 : (k' = 0) = True := eq_true c1
      simp only [x_PartAdd, rg, go_sem, seval, Prod.fst, T.enc, agO, foldT, foldT0, T.enc_len, oa', ob', z0, z1, e.1, e.2, spOkT_md, spOkT_pre, spOkT_alts, spOkT_res, spOkT_out, spCopyAT_md, spCopyAT_pre, spCopyAT_alts, spCopyAT_res, spCopyAT_out]
      repeat' (first | with_reducible assumption | with_reducible refine And.intro ?_ ?_ | intro _)
      all_goals first | (show _ ≤ (_ : Int); omega) | (show _ ≤ (_ : Nat); omega) | assumption | (unfold lenB; omega) | skip
    have z1 : (k' = 0) = False := eq_false c1
    by_cases c2 : k = k'
    rotate_left
    · have e := addT_none oa ob (by simp only [addRaw, if_neg c0, if_neg c1, ne_eq, c2, not_false_eq_true, if_true])
      have z2 : (k = k') = False := eq_false c2
      simp only [x_PartAdd, rg, go_sem, seval, Prod.fst, T.enc, agO, foldT, foldT0, T.enc_len, oa', ob', z0, z1, z2, e.1, e.2, T.zero_enc, spOkT_md, spOkT_pre, spOkT_alts, spOkT_res, spOkT_out, spCopyAT_md, spCopyAT_pre, spCopyAT_alts, spCopyAT_res, spCopyAT_out]
      repeat' (first | with_reducible assumption | with_reducible refine And.intro ?_ ?_ | intro _)
      all_goals first | (show _ ≤ (_ : Int); omega) | (show _ ≤ (_ : Nat); omega) | assumption | (unfold lenB; omega) | skip
    subst c2
    by_cases c3 : k = 3
    · subst c3
      have e := addT_some oa ob (t := .mk 3 (n + n') ⟨#[]⟩ [] []) (by simp [addRaw])
      have g : (T.mk 3 (n + n') ⟨#[]⟩ [] []).fit 2000000 := by
        refine ⟨by unfold i64; omega, by unfold i64; omega, by unfold lenB; decide, ⟨by unfold lenB; decide, by simp⟩, by unfold lenB; decide, trivial⟩
      have gs : sizeT (T.mk 3 (n + n') ⟨#[]⟩ [] []) ≤ 1048577 := by simp only [sizeT, sizeL]; omega
      obtain ⟨rfl, rfl⟩ := okT_leaf oa (by omega)
      obtain rfl := ha.2.1.resolve_left (by omega)
      simp only [x_PartAdd, rg, go_sem, seval, Prod.fst, T.enc, agO, foldT, foldT0, T.enc_len, oa', ob', e.1, e.2, spOkT_md, spOkT_pre, spOkT_alts, spOkT_res, spOkT_out, spCopyAT_md, spCopyAT_pre, spCopyAT_alts, spCopyAT_res, spCopyAT_out, spL2Told_md, spL2Told_pre, spL2Told_alts, spL2Told_res, spL2Told_out]
      repeat' (first | with_reducible assumption | with_reducible refine And.intro ?_ ?_ | intro _)
      all_goals first | (show _ ≤ (_ : Int); omega) | (show _ ≤ (_ : Nat); omega) | assumption | (unfold lenB; omega) | skip
    have z3 : (k = 3) = False := eq_false c3
    by_cases c4 : k = 4
    · subst c4
      have e := addT_some oa ob (t := .mk 4 0 (s ++ s') [] []) (by simp [addRaw])
      have g : (T.mk 4 0 (s ++ s') [] []).fit 2000000 := by
        refine ⟨by unfold i64; omega, by unfold i64; omega, by unfold lenB; rw [ByteArray.size_append]; omega, ⟨by unfold lenB; decide, by simp⟩, by unfold lenB; decide, trivial⟩
      have gs : sizeT (T.mk 4 0 (s ++ s') [] []) ≤ 1048577 := by simp only [sizeT, sizeL]; omega
      obtain ⟨rfl, rfl⟩ := okT_leaf oa (by omega)
      obtain rfl := ha.1.resolve_left (by omega)
      simp only [x_PartAdd, rg, go_sem, seval, Prod.fst, T.enc, agO, foldT, foldT0, T.enc_len, oa', ob', e.1, e.2, spOkT_md, spOkT_pre, spOkT_alts, spOkT_res, spOkT_out, spCopyAT_md, spCopyAT_pre, spCopyAT_alts, spCopyAT_res, spCopyAT_out, spL2Told_md, spL2Told_pre, spL2Told_alts, spL2Told_res, spL2Told_out]
      repeat' (first | with_reducible assumption | with_reducible refine And.intro ?_ ?_ | intro _)
      all_goals first | (show _ ≤ (_ : Int); omega) | (show _ ≤ (_ : Nat); omega) | assumption | (unfold lenB; omega) | skip
    have z4 : (k = 4) = False := eq_false c4
    by_cases c5 : k = 5
    · subst c5
      have e := addT_some oa ob (t := .mk 5 0 ⟨#[]⟩ [] (l ++ l')) (by simp [addRaw])
      simp only [T.fit] at ga gb
      obtain ⟨_, _, _, _, l1, f1⟩ := ga
      obtain ⟨_, _, _, _, l2, f2⟩ := gb
      unfold lenB at l1 l2
      have g : (T.mk 5 0 ⟨#[]⟩ [] (l ++ l')).fit 2000000 := rowT_fit (by omega) (by unfold lenB; rw [List.length_append]; omega) (fitL_app (fitL_of fun t ht => T.fit_mono (by decide) (fitL_mem f1 t ht)) (fitL_of fun t ht => T.fit_mono (by decide) (fitL_mem f2 t ht)))
      simp only [sizeT] at sa sb
      have gs : sizeT (T.mk 5 0 ⟨#[]⟩ [] (l ++ l')) ≤ 1048577 := by simp only [sizeT]; rw [sizeL_app]; omega
      obtain rfl := ha.1.resolve_left (by omega)
      obtain rfl := ha.2.1.resolve_left (by omega)
      obtain rfl := ha.2.2.1.resolve_left (by omega)
      simp only [x_PartAdd, rg, go_sem, seval, Prod.fst, T.enc, agO, foldT, foldT0, T.enc_len, encL_len, encL_appL, oa', ob', e.1, e.2, spOkT_md, spOkT_pre, spOkT_alts, spOkT_res, spOkT_out, spCopyAT_md, spCopyAT_pre, spCopyAT_alts, spCopyAT_res, spCopyAT_out, spL2Told_md, spL2Told_pre, spL2Told_alts, spL2Told_res, spL2Told_out]
      repeat' (first | with_reducible assumption | with_reducible refine And.intro ?_ ?_ | intro _)
      all_goals first | (show _ ≤ (_ : Int); omega) | (show _ ≤ (_ : Nat); omega) | assumption | (unfold lenB; omega) | skip
    have z5 : (k = 5) = False := eq_false c5
    by_cases c6 : k = 6
    rotate_left
    · have z6 : (k = 6) = False := eq_false c6
      have e := addT_none oa ob (by simp [addRaw, c0, c3, c4, c5, c6])
      simp only [x_PartAdd, rg, go_sem, seval, Prod.fst, T.enc, agO, foldT, foldT0, T.enc_len, oa', ob', z0, z3, z4, z5, z6, e.1, e.2, T.zero_enc, spOkT_md, spOkT_pre, spOkT_alts, spOkT_res, spOkT_out, spCopyAT_md, spCopyAT_pre, spCopyAT_alts, spCopyAT_res, spCopyAT_out]
      repeat' (first | with_reducible assumption | with_reducible refine And.intro ?_ ?_ | intro _)
      all_goals first | (show _ ≤ (_ : Int); omega) | (show _ ≤ (_ : Nat); omega) | assumption | (unfold lenB; omega) | skip
    subst c6
    obtain ⟨rfl, rfl, e1, _⟩ := okT_map oa rfl
    obtain ⟨rfl, rfl, e2, _⟩ := okT_map ob rfl
    have G0 := good_map oa rfl
    have G1 := good_map ob rfl
    have e := addT_some oa ob (t := .mk 6 0 ⟨#[]⟩ (foldP ks' l' (ks, l)).1 (foldP ks' l' (ks, l)).2) (by simp [addRaw])
    have GF := good_fold G0 (ks := ks') (l := l') G1.ks G1.fit e2
    have few' := G1.few
    simp only at few'
    simp only [x_PartAdd, rg, go_sem, seval, Prod.fst, T.enc, agO, foldT, foldT0, T.enc_len, strs_len, oa', ob', spOkT_md, spOkT_pre, spOkT_alts, spOkT_res, spOkT_out, spCopyAT_md, spCopyAT_pre, spCopyAT_alts, spCopyAT_res, spCopyAT_out]
    repeat' (first | with_reducible assumption | with_reducible refine And.intro ?_ ?_ | intro _)
    all_goals first | (show _ ≤ (_ : Int); omega) | assumption | (unfold lenB; omega) | skip
    refine pw_loop (ι := Nat) (fun i => ks'.length - i) (fun i => i ≤ ks'.length)
      (fun i => ⟨[(3, .q (.box 3 0)), (4, .q (.box 4 0)), (6, .q (.box 6 0)), (7, .q (.c (.int .i64 i)))],
        [(3, [.c (.int .i64 6), .c (.int .i64 0), .c (.str ⟨#[]⟩), .c (.row 1 (strs ks')), .c (.row 5 (encL l'))]), (4, [.c (.int .i64 0), .c (.int .i64 0), .c (.str ⟨#[]⟩), .z 1, .z 5]),
          (6, [.c (.int .i64 6), .c (.int .i64 0), .c (.str ⟨#[]⟩), .c (.row 1 (strs (foldP (ks'.take i) (l'.take i) (ks, l)).1)), .c (.row 5 (encL (foldP (ks'.take i) (l'.take i) (ks, l)).2))])], []⟩) 0 (Nat.zero_le _) ?_ ?_
    · refine (Le.pub 3900003 _).trans ((Le.pub 3900004 _).trans ?_)
      refine Le.sub ?_ ?_ ?_ <;> simp [foldP, St.pub, St.map, PV.map, Q.pub, get?, del]
    · intro i hi
      have Gi := GF i hi
      rcases Nat.lt_or_ge i ks'.length with hlt | hge
      · obtain ⟨y, hy, _, _⟩ := drop_at hlt
        obtain ⟨t, ht, _, _⟩ := drop_at (l := l') (i := i) (by omega)
        have b1 : ((i : Int) < (ks'.length : Int)) = True := eq_true (by omega)
        have a1 := strs_at hy
        have a2 := encL_at ht
        have es := foldP_succ (ks, l) hy ht
        generalize foldP (ks'.take i) (l'.take i) (ks, l) = p at *
        obtain ⟨p1, p2⟩ := p
        have ep : putT (.mk 6 0 ⟨#[]⟩ p1 p2) y t = .mk 6 0 ⟨#[]⟩ (foldP (ks'.take (i + 1)) (l'.take (i + 1)) (ks, l)).1 (foldP (ks'.take (i + 1)) (l'.take (i + 1)) (ks, l)).2 := by rw [es]; rfl
        have Gf := Gi.few
        have Gl := Gi.len
        simp only at Gf Gl
        have hi2 : i < l'.length := by omega
        have g : (T.mk 6 0 ⟨#[]⟩ p1 p2).fit 140737488355328 := ⟨by unfold i64; omega, by unfold i64; omega, by unfold lenB; decide, ⟨by unfold lenB; omega, fun x hx => by have := Gi.ks x hx; unfold lenB; omega⟩, by unfold lenB; omega, fitL_of fun t ht => T.fit_mono (by decide) (fitL_in Gi.fit t ht)⟩
        have hk1 : lenB 1000000 (T.mk 6 0 ⟨#[]⟩ p1 p2).keys.length := by show lenB 1000000 p1.length; unfold lenB; omega
        have hk2 : (T.mk 6 0 ⟨#[]⟩ p1 p2).keys.length = (T.mk 6 0 ⟨#[]⟩ p1 p2).list.length := Gi.len
        simp only [rg, go_sem, seval, Prod.fst, b1, a1, a2, T.enc, foldT, T.enc_len, strs_len, encL_len, ep, spL2Put_md, spL2Put_pre, spL2Put_alts, spL2Put_res, spL2Put_out]
        repeat' (first | with_reducible assumption | with_reducible refine And.intro ?_ ?_ | intro _)
        all_goals first | (show _ ≤ (_ : Int); omega) | (show _ < (_ : Int); omega) | (show _ < (_ : Nat); omega) | assumption | skip
        exact ⟨i + 1, by omega, by omega, Le.refl _⟩
      · obtain rfl : i = ks'.length := by omega
        have b1 : ((ks'.length : Int) < (ks'.length : Int)) = False := eq_false (by omega)
        rw [List.take_length, show l'.take ks'.length = l' by rw [e2, List.take_length]]
        have g1 := GF ks'.length (Nat.le_refl _)
        rw [List.take_length, show l'.take ks'.length = l' by rw [e2, List.take_length]] at g1
        generalize foldP ks' l' (ks, l) = p at *
        obtain ⟨p1, p2⟩ := p
        have Gf := g1.few
        have Gl := g1.len
        have Gs := g1.size
        simp only at Gf Gl Gs e
        simp only [sizeT] at sb
        have g : (T.mk 6 0 ⟨#[]⟩ p1 p2).fit 2000000 := ⟨by unfold i64; omega, by unfold i64; omega, by unfold lenB; decide, ⟨by unfold lenB; omega, fun x hx => by have := g1.ks x hx; unfold lenB; omega⟩, by unfold lenB; omega, fitL_of fun t ht => T.fit_mono (by decide) (fitL_in g1.fit t ht)⟩
        have gs : sizeT (T.mk 6 0 ⟨#[]⟩ p1 p2) ≤ 1048577 := by simp only [sizeT]; omega
        simp only [rg, go_sem, seval, Prod.fst, b1, T.enc, foldT, T.enc_len, strs_len, encL_len, e.1, e.2, spL2Told_md, spL2Told_pre, spL2Told_alts, spL2Told_res, spL2Told_out]
        repeat' (first | with_reducible assumption | with_reducible refine And.intro ?_ ?_ | intro _)
        all_goals first | (show _ ≤ (_ : Int); omega) | (show _ < (_ : Int); omega) | assumption | skip
end Go.Proofs.Pw
/- Parts under a key; rows grouped by them; rows put together. -/
set_option linter.unusedSimpArgs false
set_option maxRecDepth 20000
namespace Go.Proofs.Pw
set_option linter.unusedSectionVars false
variable [Globs]
end Go.Proofs.Pw
