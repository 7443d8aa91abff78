/- Two parts of a row that are in order, merged in place. -/
import Derived.Test.YtalbhhciphpbeaaPwXSo2
set_option linter.unusedSimpArgs false
set_option linter.unusedVariables false
set_option linter.unusedSimpArgs false
set_option maxRecDepth 20000
namespace Go.Proofs.Pw
set_option linter.unusedSectionVars false
variable [Globs]
def x_symM : X := (.seq (.seq (.reg [⟨some 25, none, .mv (.t 2)⟩, ⟨some 26, none, .mv (.t 1)⟩, ⟨some 27, none, .bin false .sub (.t 25) (.t 26)⟩, ⟨some 28, none, .bin false .eql (.t 27) (.k (.c (.int .i64 1)))⟩] none [0, 1, 2, 3, 4, 28]) (.cond (.t 28) (.seq (.reg [⟨some 29, none, .mv (.t 2)⟩, ⟨some 10, none, .mv (.t 29)⟩] none [0, 1, 3, 4, 10]) (.seq (.reg [⟨some 30, none, .mv (.t 3)⟩, ⟨some 11, none, .mv (.t 30)⟩] none [0, 1, 4, 10, 11]) (.seq (.block 0 (.loop (.seq (.seq (.reg [⟨some 31, none, .mv (.t 10)⟩, ⟨some 32, none, .mv (.t 11)⟩, ⟨some 33, none, .bin false .lss (.t 31) (.t 32)⟩] none [0, 1, 4, 10, 11, 33]) (.cond (.t 33) .skip (.exit 0))) (.block 1 (.seq (.reg [⟨some 34, none, .mv (.t 10)⟩, ⟨some 35, none, .mv (.t 11)⟩, ⟨some 36, none, .bin false .add (.t 34) (.t 35)⟩, ⟨some 37, none, .conv .u64 (.t 36)⟩, ⟨some 38, none, .bin false .shr (.t 37) (.k (.c (.int .u64 1)))⟩, ⟨some 39, none, .conv .i64 (.t 38)⟩, ⟨some 12, none, .mv (.t 39)⟩] none [0, 1, 4, 10, 11, 12]) (.seq (.reg [⟨some 40, none, .mv (.t 4)⟩, ⟨some 41, none, .mv (.t 0)⟩, ⟨some 42, none, .mv (.t 12)⟩, ⟨some 43, none, .ia (.t 41) (.t 42) 5⟩, ⟨some 44, none, .load (.t 43) (some 5)⟩, ⟨some 45, none, .mv (.t 0)⟩, ⟨some 46, none, .mv (.t 1)⟩, ⟨some 47, none, .ia (.t 45) (.t 46) 5⟩, ⟨some 48, none, .load (.t 47) (some 5)⟩, ⟨some 49, none, .calli (.t 40) [(.t 44), (.t 48)]⟩, ⟨some 50, none, .bin false .lss (.t 49) (.k (.c (.int .i64 0)))⟩] (some 9) [0, 1, 4, 10, 11, 12, 50]) (.cond (.t 50) (.reg [⟨some 51, none, .mv (.t 12)⟩, ⟨some 52, none, .bin false .add (.t 51) (.k (.c (.int .i64 1)))⟩, ⟨some 10, none, .mv (.t 52)⟩] none [0, 1, 4, 10, 11]) (.reg [⟨some 53, none, .mv (.t 12)⟩, ⟨some 11, none, .mv (.t 53)⟩] none [0, 1, 4, 10, 11])))))))) (.seq (.seq (.reg [⟨some 54, none, .mv (.t 1)⟩, ⟨some 13, none, .mv (.t 54)⟩] none [0, 10, 13]) (.block 2 (.loop (.seq (.seq (.reg [⟨some 55, none, .mv (.t 13)⟩, ⟨some 56, none, .mv (.t 10)⟩, ⟨some 57, none, .bin false .sub (.t 56) (.k (.c (.int .i64 1)))⟩, ⟨some 58, none, .bin false .lss (.t 55) (.t 57)⟩] none [0, 10, 13, 58]) (.cond (.t 58) .skip (.exit 2))) (.seq (.block 3 (.mix [⟨some 61, none, .mv (.t 0)⟩, ⟨some 62, none, .mv (.t 13)⟩, ⟨some 63, none, .mv (.t 0)⟩, ⟨some 64, none, .mv (.t 13)⟩, ⟨some 65, none, .bin false .add (.t 64) (.k (.c (.int .i64 1)))⟩, ⟨some 66, none, .mv (.t 0)⟩, ⟨some 67, none, .mv (.t 13)⟩, ⟨some 68, none, .bin false .add (.t 67) (.k (.c (.int .i64 1)))⟩, ⟨some 69, none, .ia (.t 66) (.t 68) 5⟩, ⟨some 70, none, .load (.t 69) (some 5)⟩, ⟨some 71, none, .mv (.t 0)⟩, ⟨some 72, none, .mv (.t 13)⟩, ⟨some 73, none, .ia (.t 71) (.t 72) 5⟩, ⟨some 74, none, .load (.t 73) (some 5)⟩, ⟨some 75, none, .ia (.t 61) (.t 62) 5⟩, ⟨none, none, .st (.t 75) (.t 70) (some 5)⟩] [⟨some 76, none, .ia (.t 63) (.t 65) 5⟩, ⟨none, none, .st (.t 76) (.t 74) (some 5)⟩] [[], [], [], [], [], [], [], [], [], [], [], [], [], [], [], []] [0, 10, 13])) (.reg [⟨some 59, none, .mv (.t 13)⟩, ⟨some 60, none, .bin false .add (.t 59) (.k (.c (.int .i64 1)))⟩, ⟨some 13, none, .mv (.t 60)⟩] none [0, 10, 13])))))) .ret)))) .skip)) (.seq (.seq (.reg [⟨some 77, none, .mv (.t 3)⟩, ⟨some 78, none, .mv (.t 2)⟩, ⟨some 79, none, .bin false .sub (.t 77) (.t 78)⟩, ⟨some 80, none, .bin false .eql (.t 79) (.k (.c (.int .i64 1)))⟩] none [0, 1, 2, 3, 4, 80]) (.cond (.t 80) (.seq (.reg [⟨some 81, none, .mv (.t 1)⟩, ⟨some 14, none, .mv (.t 81)⟩] none [0, 2, 4, 14]) (.seq (.reg [⟨some 82, none, .mv (.t 2)⟩, ⟨some 15, none, .mv (.t 82)⟩] none [0, 2, 4, 14, 15]) (.seq (.block 4 (.loop (.seq (.seq (.reg [⟨some 83, none, .mv (.t 14)⟩, ⟨some 84, none, .mv (.t 15)⟩, ⟨some 85, none, .bin false .lss (.t 83) (.t 84)⟩] none [0, 2, 4, 14, 15, 85]) (.cond (.t 85) .skip (.exit 4))) (.block 5 (.seq (.reg [⟨some 86, none, .mv (.t 14)⟩, ⟨some 87, none, .mv (.t 15)⟩, ⟨some 88, none, .bin false .add (.t 86) (.t 87)⟩, ⟨some 89, none, .conv .u64 (.t 88)⟩, ⟨some 90, none, .bin false .shr (.t 89) (.k (.c (.int .u64 1)))⟩, ⟨some 91, none, .conv .i64 (.t 90)⟩, ⟨some 16, none, .mv (.t 91)⟩] none [0, 2, 4, 14, 15, 16]) (.seq (.reg [⟨some 92, none, .mv (.t 4)⟩, ⟨some 93, none, .mv (.t 0)⟩, ⟨some 94, none, .mv (.t 2)⟩, ⟨some 95, none, .ia (.t 93) (.t 94) 5⟩, ⟨some 96, none, .load (.t 95) (some 5)⟩, ⟨some 97, none, .mv (.t 0)⟩, ⟨some 98, none, .mv (.t 16)⟩, ⟨some 99, none, .ia (.t 97) (.t 98) 5⟩, ⟨some 100, none, .load (.t 99) (some 5)⟩, ⟨some 101, none, .calli (.t 92) [(.t 96), (.t 100)]⟩, ⟨some 102, none, .bin false .lss (.t 101) (.k (.c (.int .i64 0)))⟩, ⟨some 103, none, .not (.t 102)⟩] (some 9) [0, 2, 4, 14, 15, 16, 103]) (.cond (.t 103) (.reg [⟨some 104, none, .mv (.t 16)⟩, ⟨some 105, none, .bin false .add (.t 104) (.k (.c (.int .i64 1)))⟩, ⟨some 14, none, .mv (.t 105)⟩] none [0, 2, 4, 14, 15]) (.reg [⟨some 106, none, .mv (.t 16)⟩, ⟨some 15, none, .mv (.t 106)⟩] none [0, 2, 4, 14, 15])))))))) (.seq (.seq (.reg [⟨some 107, none, .mv (.t 2)⟩, ⟨some 17, none, .mv (.t 107)⟩] none [0, 14, 17]) (.block 6 (.loop (.seq (.seq (.reg [⟨some 108, none, .mv (.t 17)⟩, ⟨some 109, none, .mv (.t 14)⟩, ⟨some 110, none, .bin false .gtr (.t 108) (.t 109)⟩] none [0, 14, 17, 110]) (.cond (.t 110) .skip (.exit 6))) (.seq (.block 7 (.mix [⟨some 113, none, .mv (.t 0)⟩, ⟨some 114, none, .mv (.t 17)⟩, ⟨some 115, none, .mv (.t 0)⟩, ⟨some 116, none, .mv (.t 17)⟩, ⟨some 117, none, .bin false .sub (.t 116) (.k (.c (.int .i64 1)))⟩, ⟨some 118, none, .mv (.t 0)⟩, ⟨some 119, none, .mv (.t 17)⟩, ⟨some 120, none, .bin false .sub (.t 119) (.k (.c (.int .i64 1)))⟩, ⟨some 121, none, .ia (.t 118) (.t 120) 5⟩, ⟨some 122, none, .load (.t 121) (some 5)⟩, ⟨some 123, none, .mv (.t 0)⟩, ⟨some 124, none, .mv (.t 17)⟩, ⟨some 125, none, .ia (.t 123) (.t 124) 5⟩, ⟨some 126, none, .load (.t 125) (some 5)⟩, ⟨some 127, none, .ia (.t 113) (.t 114) 5⟩, ⟨none, none, .st (.t 127) (.t 122) (some 5)⟩] [⟨some 128, none, .ia (.t 115) (.t 117) 5⟩, ⟨none, none, .st (.t 128) (.t 126) (some 5)⟩] [[], [], [], [], [], [], [], [], [], [], [], [], [], [], [], []] [0, 14, 17])) (.reg [⟨some 111, none, .mv (.t 17)⟩, ⟨some 112, none, .bin false .sub (.t 111) (.k (.c (.int .i64 1)))⟩, ⟨some 17, none, .mv (.t 112)⟩] none [0, 14, 17])))))) .ret)))) .skip)) (.seq (.reg [⟨some 129, none, .mv (.t 1)⟩, ⟨some 130, none, .mv (.t 3)⟩, ⟨some 131, none, .bin false .add (.t 129) (.t 130)⟩, ⟨some 132, none, .conv .u64 (.t 131)⟩, ⟨some 133, none, .bin false .shr (.t 132) (.k (.c (.int .u64 1)))⟩, ⟨some 134, none, .conv .i64 (.t 133)⟩, ⟨some 18, none, .mv (.t 134)⟩] none [0, 1, 2, 3, 4, 18]) (.seq (.reg [⟨some 135, none, .mv (.t 18)⟩, ⟨some 136, none, .mv (.t 2)⟩, ⟨some 137, none, .bin false .add (.t 135) (.t 136)⟩, ⟨some 19, none, .mv (.t 137)⟩] none [0, 1, 2, 3, 4, 18, 19]) (.seq (.reg [⟨some 20, none, .mv (.k (.c (.int .i64 0)))⟩, ⟨some 21, none, .mv (.k (.c (.int .i64 0)))⟩] none [0, 1, 2, 3, 4, 18, 19]) (.seq (.seq (.reg [⟨some 138, none, .mv (.t 2)⟩, ⟨some 139, none, .mv (.t 18)⟩, ⟨some 140, none, .bin false .gtr (.t 138) (.t 139)⟩] none [0, 1, 2, 3, 4, 18, 19, 140]) (.cond (.t 140) (.seq (.reg [⟨some 141, none, .mv (.t 19)⟩, ⟨some 142, none, .mv (.t 3)⟩, ⟨some 143, none, .bin false .sub (.t 141) (.t 142)⟩, ⟨some 20, none, .mv (.t 143)⟩] none [0, 1, 2, 3, 4, 18, 19, 20]) (.reg [⟨some 144, none, .mv (.t 18)⟩, ⟨some 21, none, .mv (.t 144)⟩] none [0, 1, 2, 3, 4, 18, 19, 20, 21])) (.seq (.reg [⟨some 145, none, .mv (.t 1)⟩, ⟨some 20, none, .mv (.t 145)⟩] none [0, 1, 2, 3, 4, 18, 19, 20]) (.reg [⟨some 146, none, .mv (.t 2)⟩, ⟨some 21, none, .mv (.t 146)⟩] none [0, 1, 2, 3, 4, 18, 19, 20, 21])))) (.seq (.reg [⟨some 147, none, .mv (.t 19)⟩, ⟨some 148, none, .bin false .sub (.t 147) (.k (.c (.int .i64 1)))⟩, ⟨some 22, none, .mv (.t 148)⟩] none [0, 1, 2, 3, 4, 18, 19, 20, 21, 22]) (.seq (.block 8 (.loop (.seq (.seq (.reg [⟨some 149, none, .mv (.t 20)⟩, ⟨some 150, none, .mv (.t 21)⟩, ⟨some 151, none, .bin false .lss (.t 149) (.t 150)⟩] none [0, 1, 2, 3, 4, 18, 19, 20, 21, 22, 151]) (.cond (.t 151) .skip (.exit 8))) (.block 9 (.seq (.reg [⟨some 152, none, .mv (.t 20)⟩, ⟨some 153, none, .mv (.t 21)⟩, ⟨some 154, none, .bin false .add (.t 152) (.t 153)⟩, ⟨some 155, none, .conv .u64 (.t 154)⟩, ⟨some 156, none, .bin false .shr (.t 155) (.k (.c (.int .u64 1)))⟩, ⟨some 157, none, .conv .i64 (.t 156)⟩, ⟨some 23, none, .mv (.t 157)⟩] none [0, 1, 2, 3, 4, 18, 19, 20, 21, 22, 23]) (.seq (.reg [⟨some 158, none, .mv (.t 4)⟩, ⟨some 159, none, .mv (.t 0)⟩, ⟨some 160, none, .mv (.t 22)⟩, ⟨some 161, none, .mv (.t 23)⟩, ⟨some 162, none, .bin false .sub (.t 160) (.t 161)⟩, ⟨some 163, none, .ia (.t 159) (.t 162) 5⟩, ⟨some 164, none, .load (.t 163) (some 5)⟩, ⟨some 165, none, .mv (.t 0)⟩, ⟨some 166, none, .mv (.t 23)⟩, ⟨some 167, none, .ia (.t 165) (.t 166) 5⟩, ⟨some 168, none, .load (.t 167) (some 5)⟩, ⟨some 169, none, .calli (.t 158) [(.t 164), (.t 168)]⟩, ⟨some 170, none, .bin false .lss (.t 169) (.k (.c (.int .i64 0)))⟩, ⟨some 171, none, .not (.t 170)⟩] (some 11) [0, 1, 2, 3, 4, 18, 19, 20, 21, 22, 23, 171]) (.cond (.t 171) (.reg [⟨some 172, none, .mv (.t 23)⟩, ⟨some 173, none, .bin false .add (.t 172) (.k (.c (.int .i64 1)))⟩, ⟨some 20, none, .mv (.t 173)⟩] none [0, 1, 2, 3, 4, 18, 19, 20, 21, 22]) (.reg [⟨some 174, none, .mv (.t 23)⟩, ⟨some 21, none, .mv (.t 174)⟩] none [0, 1, 2, 3, 4, 18, 19, 20, 21, 22])))))))) (.seq (.reg [⟨some 175, none, .mv (.t 19)⟩, ⟨some 176, none, .mv (.t 20)⟩, ⟨some 177, none, .bin false .sub (.t 175) (.t 176)⟩, ⟨some 24, none, .mv (.t 177)⟩] none [0, 1, 2, 3, 4, 18, 20, 24]) (.seq (.seq (.reg [⟨some 178, none, .mv (.t 20)⟩, ⟨some 179, none, .mv (.t 2)⟩, ⟨some 180, none, .bin false .lss (.t 178) (.t 179)⟩, ⟨some 181, none, .mv (.t 180)⟩, ⟨some 182, some (181, true), .mv (.t 2)⟩, ⟨some 183, some (181, true), .mv (.t 24)⟩, ⟨some 184, some (181, true), .bin false .lss (.t 182) (.t 183)⟩, ⟨some 185, none, .pick (.t 181) (.t 184) (.k (.c (.bool false)))⟩] none [0, 1, 2, 3, 4, 18, 20, 24, 185]) (.cond (.t 185) (.reg [⟨some 186, none, .mv (.t 0)⟩, ⟨some 187, none, .mv (.t 20)⟩, ⟨some 188, none, .mv (.t 2)⟩, ⟨some 189, none, .mv (.t 24)⟩, ⟨some 190, none, .mv (.t 4)⟩, ⟨some 191, none, .call 80 [(.t 186), (.t 187), (.t 188), (.t 189), (.t 190)]⟩] none [0, 1, 3, 4, 18, 20, 24]) .skip)) (.seq (.seq (.reg [⟨some 192, none, .mv (.t 1)⟩, ⟨some 193, none, .mv (.t 20)⟩, ⟨some 194, none, .bin false .lss (.t 192) (.t 193)⟩, ⟨some 195, none, .mv (.t 194)⟩, ⟨some 196, some (195, true), .mv (.t 20)⟩, ⟨some 197, some (195, true), .mv (.t 18)⟩, ⟨some 198, some (195, true), .bin false .lss (.t 196) (.t 197)⟩, ⟨some 199, none, .pick (.t 195) (.t 198) (.k (.c (.bool false)))⟩] none [0, 1, 3, 4, 18, 20, 24, 199]) (.cond (.t 199) (.reg [⟨some 200, none, .mv (.t 0)⟩, ⟨some 201, none, .mv (.t 1)⟩, ⟨some 202, none, .mv (.t 20)⟩, ⟨some 203, none, .mv (.t 18)⟩, ⟨some 204, none, .mv (.t 4)⟩, ⟨some 205, none, .call 75 [(.t 200), (.t 201), (.t 202), (.t 203), (.t 204)]⟩] none [0, 3, 4, 18, 24]) .skip)) (.seq (.reg [⟨some 206, none, .mv (.t 18)⟩, ⟨some 207, none, .mv (.t 24)⟩, ⟨some 208, none, .bin false .lss (.t 206) (.t 207)⟩, ⟨some 209, none, .mv (.t 208)⟩, ⟨some 210, some (209, true), .mv (.t 24)⟩, ⟨some 211, some (209, true), .mv (.t 3)⟩, ⟨some 212, some (209, true), .bin false .lss (.t 210) (.t 211)⟩, ⟨some 213, none, .pick (.t 209) (.t 212) (.k (.c (.bool false)))⟩] none [0, 3, 4, 18, 24, 213]) (.cond (.t 213) (.reg [⟨some 214, none, .mv (.t 0)⟩, ⟨some 215, none, .mv (.t 18)⟩, ⟨some 216, none, .mv (.t 24)⟩, ⟨some 217, none, .mv (.t 3)⟩, ⟨some 218, none, .mv (.t 4)⟩, ⟨some 219, none, .call 75 [(.t 214), (.t 215), (.t 216), (.t 217), (.t 218)]⟩] none []) .skip)))))))))))))
theorem chk_symM : chkX Go.Proofs.Try.prog 220 (Go.Proofs.Try.f75.body.getD .skip) x_symM = true := by kernel_rfl
theorem rs_symM : okRs Go.Proofs.Try.prog Go.Proofs.Try.f75.results.toList [] = true := by kernel_rfl
theorem call_symM : okCallee Go.Proofs.Try.prog 75 = true := by kernel_rfl
noncomputable def spSymM (k:Nat) : Spec := Spec.of (ι := (List T) × Int × Int × Int) [true, false, false, false, false] (fun i => [.own 5 (encL i.1), .d (.one (.int .i64 i.2.1)), .d (.one (.int .i64 i.2.2.1)), .d (.one (.int .i64 i.2.2.2)), .d (.one (.fn 53))]) (fun i => (lenB 1000000 i.1.length ∧ fitL 140737488355328 i.1 ∧ 0 ≤ i.2.1 ∧ i.2.1 < i.2.2.1 ∧ i.2.2.1 < i.2.2.2 ∧ i.2.2.2 ≤ i.1.length ∧ Srt cmpT ((i.1.drop i.2.1.toNat).take (i.2.2.1.toNat - i.2.1.toNat)) ∧ Srt cmpT ((i.1.drop i.2.2.1.toNat).take (i.2.2.2.toNat - i.2.2.1.toNat))) ∧ (i.2.2.2 - i.2.1).toNat < k) (fun _ => []) (fun i => [.own 5 (encL (srtSeg i.1 i.2.1.toNat i.2.2.2.toNat)), .gone, .gone, .gone, .gone])
theorem spSymM_inj : ∀ i j : (List T) × Int × Int × Int, (fun (i : (List T) × Int × Int × Int) => ([.own 5 (encL i.1), .d (.one (.int .i64 i.2.1)), .d (.one (.int .i64 i.2.2.1)), .d (.one (.int .i64 i.2.2.2)), .d (.one (.fn 53))] : List AV)) i = (fun (i : (List T) × Int × Int × Int) => ([.own 5 (encL i.1), .d (.one (.int .i64 i.2.1)), .d (.one (.int .i64 i.2.2.1)), .d (.one (.int .i64 i.2.2.2)), .d (.one (.fn 53))] : List AV)) j → i = j := by
  rintro ⟨l, a, m, b⟩ ⟨l', a', m', b'⟩ h
  simp only [Prod.mk.injEq]
  simpa [strs_eq, T.enc_eq, encL_eq, F.enc_eq, encF_eq, Tk.enc_eq, encTk_eq, Gn.enc_eq, ints_eq] using h
theorem spSymM_md (k:Nat) : (spSymM k).md = [true, false, false, false, false] := rfl
theorem spSymM_pre (k:Nat) (l : List T) (a : Int) (m : Int) (b : Int) : (spSymM k).pre [.own 5 (encL l), .d (.one (.int .i64 a)), .d (.one (.int .i64 m)), .d (.one (.int .i64 b)), .d (.one (.fn 53))] = ((lenB 1000000 l.length ∧ fitL 140737488355328 l ∧ 0 ≤ a ∧ a < m ∧ m < b ∧ b ≤ l.length ∧ Srt cmpT ((l.drop a.toNat).take (m.toNat - a.toNat)) ∧ Srt cmpT ((l.drop m.toNat).take (b.toNat - m.toNat))) ∧ (b - a).toNat < k) := Spec.of_pre' spSymM_inj (l, a, m, b)
theorem spSymM_alts (k:Nat) : (spSymM k).alts = none := rfl
theorem spSymM_res (k:Nat) (l : List T) (a : Int) (m : Int) (b : Int) : (spSymM k).res [.own 5 (encL l), .d (.one (.int .i64 a)), .d (.one (.int .i64 m)), .d (.one (.int .i64 b)), .d (.one (.fn 53))] = [] := Spec.of_res spSymM_inj (l, a, m, b)
theorem spSymM_out (k:Nat) (l : List T) (a : Int) (m : Int) (b : Int) : (spSymM k).out [.own 5 (encL l), .d (.one (.int .i64 a)), .d (.one (.int .i64 m)), .d (.one (.int .i64 b)), .d (.one (.fn 53))] = [.own 5 (encL (srtSeg l a.toNat b.toNat)), .gone, .gone, .gone, .gone] := Spec.of_out spSymM_inj (l, a, m, b)
theorem srt_mono {Y : List T} {x : T} (hY : Srt cmpT Y) {r : Nat} {y : T} (hr : Y[r]? = some y) (h : cmpT y x ≤ 0) : ∀ z ∈ Y.take (r + 1), cmpT z x ≤ 0 := by
  intro z hz
  obtain ⟨k, hk, rfl⟩ := List.mem_iff_getElem.1 hz
  simp only [List.length_take] at hk
  rw [List.getElem_take]
  exact cmpT_is.le_trans (srt_get hY (List.getElem?_eq_getElem (by omega)) hr (by omega)) h
theorem srt_mono' {Y : List T} {x : T} (hY : Srt cmpT Y) {r : Nat} {y : T} (hr : Y[r]? = some y) (h : cmpT x y ≤ 0) : ∀ z ∈ Y.drop r, cmpT x z ≤ 0 := by
  intro z hz
  obtain ⟨k, hk, rfl⟩ := List.mem_iff_getElem.1 hz
  simp only [List.length_drop] at hk
  rw [List.getElem_drop]
  exact cmpT_is.le_trans h (srt_get hY hr (List.getElem?_eq_getElem (by omega)) (by omega))
theorem cmp_le {x y : T} (h : ¬ cmpT x y < 0) : cmpT y x ≤ 0 := by have := cmpT_is.anti x y; omega
theorem mid_get {A X C : List T} {i : Nat} (h : i < X.length) : (A ++ X ++ C)[A.length + i]? = X[i]? := by
  rw [List.append_assoc, List.getElem?_append_right (by omega), List.getElem?_append_left (by omega)]; congr 1; omega
set_option maxHeartbeats 16000000 in
theorem symM_1 (k : Nat) (l : List T) (a m b : Nat) (h1 : (l.length : Int) ≤ 1000000) (h2 : fitL 140737488355328 l) (hm : (a : Int) < (m : Int)) (hb : (m : Int) < (b : Int)) (h3 : (b : Int) ≤ (l.length : Int)) (hk : ((b : Int) - (a : Int)).toNat < k + 1) (sX : Srt cmpT ((l.drop a).take (m - a))) (sY : Srt cmpT ((l.drop m).take (b - m))) (c1 : m = a + 1) :
    pw (Gam [(53, spOrdIV), (80, spRot), (75, spSymM k)]) x_symM (endQ (finX 220 (Spec.at [] [.own 5 (encL (srtSeg l a b)), .gone, .gone, .gone, .gone]) [.own 5 (encL l), .d (.one (.int .i64 a)), .d (.one (.int .i64 m)), .d (.one (.int .i64 b)), .d (.one (.fn 53))] [])) (initX 0 220 [.own 5 (encL l), .d (.one (.int .i64 a)), .d (.one (.int .i64 m)), .d (.one (.int .i64 b)), .d (.one (.fn 53))]) := by
  have hfit : ∀ t ∈ l, t.fit 140737488355328 := fitL_mem h2
  obtain ⟨AX, Y, C, hl, k1, k2⟩ := split3 (l := l) (a := m) (b := b) (by omega) (by omega)
  obtain ⟨A, X, rfl, k3⟩ := split_at (l := AX) (a := a) (by omega)
  rw [List.length_append] at k1 k2
  have eX : (l.drop a).take (m - a) = X := by
    rw [hl, show A ++ X ++ Y ++ C = A ++ (X ++ (Y ++ C)) by simp, ← k3, List.drop_left, show m - A.length = X.length by omega, List.take_left]
  have eY : (l.drop m).take (b - m) = Y := by
    rw [hl, show A ++ X ++ Y ++ C = (A ++ X) ++ (Y ++ C) by simp, show m = (A ++ X).length by simp; omega, List.drop_left, show b - (A ++ X).length = Y.length by simp; omega, List.take_left]
  rw [eX] at sX
  rw [eY] at sY
  have ht : srtSeg l a b = A ++ sortC cmpT (X ++ Y) ++ C := by
    rw [hl, show A ++ X ++ Y ++ C = A ++ (X ++ Y) ++ C by simp]
    exact srtSeg_at k3 (by simp; omega)
  have hlen : l.length = A.length + X.length + Y.length + C.length := by rw [hl]; simp; omega
  have gX : ∀ i, i < X.length → l[a + i]? = X[i]? := fun i hi => by
    rw [hl, show A ++ X ++ Y ++ C = A ++ X ++ (Y ++ C) by simp, ← k3]; exact mid_get hi
  have gY : ∀ i, i < Y.length → l[m + i]? = Y[i]? := fun i hi => by
    rw [hl, show m = (A ++ X).length by simp; omega]; exact mid_get hi
  obtain ⟨X', x, rfl, k4⟩ := snoc_of (X := X) (n := 0) (by omega)
  have := List.eq_nil_of_length_eq_zero k4
  subst this
  simp only [List.nil_append, List.length_singleton] at *
  have d1 : ((m : Int) - (a : Int) = 1) = True := eq_true (by omega)
  have hx : l[a]? = some x := by have := gX 0 (by omega); simpa using this
  have ax := encL_at hx
  have fx := T.enc_len x
  have ffx := hfit x (List.mem_of_getElem? hx)
  simp only [x_symM, rg, go_sem, seval, Prod.fst, d1, Int.toNat_natCast, ht]
  repeat' (first | with_reducible assumption | with_reducible refine And.intro ?_ ?_ | intro _)
  all_goals first | omega | skip
  refine pw_loop (ι := Nat × Nat) (fun z => z.2 - z.1) (fun z => z.1 ≤ z.2 ∧ z.2 ≤ Y.length ∧ (∀ y ∈ Y.take z.1, cmpT y x ≤ 0) ∧ ∀ y ∈ Y.drop z.2, cmpT x y ≤ 0)
    (fun z => ⟨[(0, .q (.own 1000000220)), (1, .q (.c (.int .i64 a))), (4, .q (.c (.fn 53))), (10, .q (.c (.int .i64 (m + z.1)))), (11, .q (.c (.int .i64 (m + z.2))))], [], [(1000000220, 5, encL l)]⟩) (0, Y.length) ⟨Nat.zero_le _, Nat.le_refl _, by simp, by simp⟩ (Le.of_eq (by simp; omega)) ?_
  rintro ⟨p, q⟩ ⟨g1, g2, g3, g4⟩
  simp only at g1 g2 g3 g4
  rcases Nat.lt_or_ge p q with hlt | hge
  · have b1 : ((m : Int) + (p : Int) < (m : Int) + (q : Int)) = True := eq_true (by omega)
    have b2 : ((m : Int) + (p : Int) + ((m : Int) + (q : Int))) / 2 = (m : Int) + (((p + q) / 2 : Nat) : Int) := by omega
    obtain ⟨r, hr⟩ : ∃ r, r = (p + q) / 2 := ⟨_, rfl⟩
    rw [← hr] at b2
    have e1 : ((m : Int) + (r : Int)).toNat = m + r := by omega
    obtain ⟨y, hy⟩ : ∃ y, Y[r]? = some y := ⟨_, List.getElem?_eq_getElem (by omega)⟩
    have hy' : l[m + r]? = some y := by rw [gY r (by omega)]; exact hy
    have ay := encL_at hy'
    have fy := T.enc_len y
    have ffy := hfit y (List.mem_of_getElem? hy')
    simp only [rg, go_sem, seval, Prod.fst, b1, b2, e1, ax, ay, fx, fy, encL_len, Int.toNat_natCast, spOrdIV_md, spOrdIV_pre, spOrdIV_alts, spOrdIV_res, spOrdIV_out]
    repeat' (first | with_reducible assumption | with_reducible refine And.intro ?_ ?_ | intro _)
    all_goals first | omega | assumption | skip
    · rename_i hc
      refine ⟨(r + 1, q), ⟨by show r + 1 ≤ q; omega, g2, srt_mono sY hy (by omega), g4⟩, by show q - (r + 1) < q - p; omega, Le.of_eq (by simp; omega)⟩
    · rename_i hc
      refine ⟨(p, r), ⟨by show p ≤ r; omega, by show r ≤ Y.length; omega, g3, srt_mono' sY hy (cmp_le (by simpa using hc))⟩, by show r - p < q - p; omega, Le.of_eq (by simp)⟩
  · obtain rfl : p = q := by omega
    have b1 : ((m : Int) + (p : Int) < (m : Int) + (p : Int)) = False := eq_false (by omega)
    simp only [rg, go_sem, seval, Prod.fst, b1]
    repeat' (first | with_reducible assumption | with_reducible refine And.intro ?_ ?_ | intro _)
    all_goals first | omega | skip
    refine pw_loop (ι := Nat) (fun i => p - i) (fun i => i ≤ p)
      (fun i => ⟨[(0, .q (.own 1000000220)), (10, .q (.c (.int .i64 (m + p)))), (13, .q (.c (.int .i64 (a + i))))], [], [(1000000220, 5, encL (A ++ Y.take i ++ x :: Y.drop i ++ C))]⟩) 0 (Nat.zero_le _) (Le.of_eq (by rw [hl]; simp)) ?_
    intro i hi
    rcases Nat.lt_or_ge i p with hlt | hge
    · have b2 : ((a : Int) + (i : Int) < (m : Int) + (p : Int) - 1) = True := eq_true (by omega)
      have e1 : ((a : Int) + (i : Int)).toNat = a + i := by omega
      have e2 : ((a : Int) + (i : Int) + 1).toNat = a + i + 1 := by omega
      obtain ⟨y, hy, hdy, _⟩ := drop_at (l := Y) (i := i) (by omega)
      have tl : (A ++ Y.take i).length = a + i := by simp; omega
      have f1 : (A ++ Y.take i ++ x :: y :: Y.drop (i + 1) ++ C)[a + i]? = some x := by rw [List.append_assoc, List.getElem?_append_right (by omega), tl]; simp
      have f2 : (A ++ Y.take i ++ x :: y :: Y.drop (i + 1) ++ C)[a + i + 1]? = some y := by rw [List.append_assoc, List.getElem?_append_right (by omega), tl]; simp
      have f3 : ((A ++ Y.take i ++ x :: y :: Y.drop (i + 1) ++ C).set (a + i) y)[a + i + 1]? = some y := by rw [List.getElem?_set_ne (by omega)]; exact f2
      have f5 : ((A ++ Y.take i ++ x :: y :: Y.drop (i + 1) ++ C).set (a + i) y).set (a + i + 1) x = A ++ Y.take (i + 1) ++ x :: Y.drop (i + 1) ++ C := by
        have := swp_at (A := A ++ Y.take i) (B := []) (C := Y.drop (i + 1) ++ C) (x := x) (y := y) (i := a + i) (j := a + i + 1) tl (by simp; omega)
        simp only [swp] at this
        have e6 : A ++ Y.take i ++ x :: [] ++ y :: (Y.drop (i + 1) ++ C) = A ++ Y.take i ++ x :: y :: Y.drop (i + 1) ++ C := by simp
        rw [e6, f1, f2] at this
        simp only at this
        rw [this, List.take_add_one, hy]; simp
      have a1 := encL_at f1
      have a2 := encL_at f2
      have a3 := encL_at f3
      have ey := T.enc_len y
      have hl2 : (A ++ Y.take i ++ x :: y :: Y.drop (i + 1) ++ C).length = l.length := by simp; omega
      rw [hdy]
      simp only [rg, go_sem, seval, Prod.fst, b2, e1, e2, a1, a2, a3, fx, ey, encL_set, T.enc_drop5, encL_len, hl2, List.length_set, f5]
      repeat' (first | with_reducible assumption | with_reducible refine And.intro ?_ ?_ | intro _)
      all_goals first | omega | skip
      exact ⟨i + 1, by omega, by omega, Le.of_eq (by simp; omega)⟩
    · obtain rfl : i = p := by omega
      have b2 : ((a : Int) + (i : Int) < (m : Int) + (i : Int) - 1) = False := eq_false (by omega)
      have e6 := srt_one sY g3 g4 (l := [x] ++ Y) (List.Perm.refl _)
      have e7 : A ++ Y.take i ++ x :: Y.drop i ++ C = A ++ sortC cmpT ([x] ++ Y) ++ C := by rw [← e6]; simp
      simp only [rg, go_sem, seval, Prod.fst, b2, e7]
      repeat' (first | with_reducible assumption | with_reducible refine And.intro ?_ ?_ | intro _)
      all_goals first | omega | skip
set_option maxHeartbeats 16000000 in
theorem symM_2 (k : Nat) (l : List T) (a m b : Nat) (h1 : (l.length : Int) ≤ 1000000) (h2 : fitL 140737488355328 l) (hm : (a : Int) < (m : Int)) (hb : (m : Int) < (b : Int)) (h3 : (b : Int) ≤ (l.length : Int)) (hk : ((b : Int) - (a : Int)).toNat < k + 1) (sX : Srt cmpT ((l.drop a).take (m - a))) (sY : Srt cmpT ((l.drop m).take (b - m))) (c1 : ¬ m = a + 1) (c2 : b = m + 1) :
    pw (Gam [(53, spOrdIV), (80, spRot), (75, spSymM k)]) x_symM (endQ (finX 220 (Spec.at [] [.own 5 (encL (srtSeg l a b)), .gone, .gone, .gone, .gone]) [.own 5 (encL l), .d (.one (.int .i64 a)), .d (.one (.int .i64 m)), .d (.one (.int .i64 b)), .d (.one (.fn 53))] [])) (initX 0 220 [.own 5 (encL l), .d (.one (.int .i64 a)), .d (.one (.int .i64 m)), .d (.one (.int .i64 b)), .d (.one (.fn 53))]) := by
  have hfit : ∀ t ∈ l, t.fit 140737488355328 := fitL_mem h2
  obtain ⟨AX, Y, C, hl, k1, k2⟩ := split3 (l := l) (a := m) (b := b) (by omega) (by omega)
  obtain ⟨A, X, rfl, k3⟩ := split_at (l := AX) (a := a) (by omega)
  rw [List.length_append] at k1 k2
  have eX : (l.drop a).take (m - a) = X := by
    rw [hl, show A ++ X ++ Y ++ C = A ++ (X ++ (Y ++ C)) by simp, ← k3, List.drop_left, show m - A.length = X.length by omega, List.take_left]
  have eY : (l.drop m).take (b - m) = Y := by
    rw [hl, show A ++ X ++ Y ++ C = (A ++ X) ++ (Y ++ C) by simp, show m = (A ++ X).length by simp; omega, List.drop_left, show b - (A ++ X).length = Y.length by simp; omega, List.take_left]
  rw [eX] at sX
  rw [eY] at sY
  have ht : srtSeg l a b = A ++ sortC cmpT (X ++ Y) ++ C := by
    rw [hl, show A ++ X ++ Y ++ C = A ++ (X ++ Y) ++ C by simp]
    exact srtSeg_at k3 (by simp; omega)
  have hlen : l.length = A.length + X.length + Y.length + C.length := by rw [hl]; simp; omega
  have gX : ∀ i, i < X.length → l[a + i]? = X[i]? := fun i hi => by
    rw [hl, show A ++ X ++ Y ++ C = A ++ X ++ (Y ++ C) by simp, ← k3]; exact mid_get hi
  have gY : ∀ i, i < Y.length → l[m + i]? = Y[i]? := fun i hi => by
    rw [hl, show m = (A ++ X).length by simp; omega]; exact mid_get hi
  have d1 : ((m : Int) - (a : Int) = 1) = False := eq_false (by omega)
  obtain ⟨Y', y, rfl, k4⟩ := snoc_of (X := Y) (n := 0) (by omega)
  have := List.eq_nil_of_length_eq_zero k4
  subst this
  simp only [List.nil_append, List.length_singleton] at *
  have d2 : ((b : Int) - (m : Int) = 1) = True := eq_true (by omega)
  have hy : l[m]? = some y := by have := gY 0 (by omega); simpa using this
  have ay := encL_at hy
  have fy := T.enc_len y
  have ffy := hfit y (List.mem_of_getElem? hy)
  simp only [x_symM, rg, go_sem, seval, Prod.fst, d1, d2, Int.toNat_natCast, ht]
  repeat' (first | with_reducible assumption | with_reducible refine And.intro ?_ ?_ | intro _)
  all_goals first | omega | skip
  refine pw_loop (ι := Nat × Nat) (fun z => z.2 - z.1) (fun z => z.1 ≤ z.2 ∧ z.2 ≤ X.length ∧ (∀ x ∈ X.take z.1, cmpT x y ≤ 0) ∧ ∀ x ∈ X.drop z.2, cmpT y x ≤ 0)
    (fun z => ⟨[(0, .q (.own 1000000220)), (2, .q (.c (.int .i64 m))), (4, .q (.c (.fn 53))), (14, .q (.c (.int .i64 (a + z.1)))), (15, .q (.c (.int .i64 (a + z.2))))], [], [(1000000220, 5, encL l)]⟩) (0, X.length) ⟨Nat.zero_le _, Nat.le_refl _, by simp, by simp⟩ (Le.of_eq (by simp; omega)) ?_
  rintro ⟨p, q⟩ ⟨g1, g2, g3, g4⟩
  simp only at g1 g2 g3 g4
  rcases Nat.lt_or_ge p q with hlt | hge
  · have b1 : ((a : Int) + (p : Int) < (a : Int) + (q : Int)) = True := eq_true (by omega)
    have b2 : ((a : Int) + (p : Int) + ((a : Int) + (q : Int))) / 2 = (a : Int) + (((p + q) / 2 : Nat) : Int) := by omega
    obtain ⟨r, hr⟩ : ∃ r, r = (p + q) / 2 := ⟨_, rfl⟩
    rw [← hr] at b2
    have e1 : ((a : Int) + (r : Int)).toNat = a + r := by omega
    obtain ⟨x, hx⟩ : ∃ x, X[r]? = some x := ⟨_, List.getElem?_eq_getElem (by omega)⟩
    have hx' : l[a + r]? = some x := by rw [gX r (by omega)]; exact hx
    have ax := encL_at hx'
    have fx := T.enc_len x
    have ffx := hfit x (List.mem_of_getElem? hx')
    simp only [rg, go_sem, seval, Prod.fst, b1, b2, e1, ax, ay, fx, fy, encL_len, Int.toNat_natCast, spOrdIV_md, spOrdIV_pre, spOrdIV_alts, spOrdIV_res, spOrdIV_out]
    repeat' (first | with_reducible assumption | with_reducible refine And.intro ?_ ?_ | intro _)
    all_goals first | omega | assumption | skip
    · rename_i hc _
      refine ⟨(r + 1, q), ⟨by show r + 1 ≤ q; omega, g2, srt_mono sX hx (cmp_le (by simpa using hc)), g4⟩, by show q - (r + 1) < q - p; omega, Le.of_eq (by simp; omega)⟩
    · rename_i hc
      refine ⟨(p, r), ⟨by show p ≤ r; omega, by show r ≤ X.length; omega, g3, srt_mono' sX hx (by simp at hc; omega)⟩, by show r - p < q - p; omega, Le.of_eq (by simp)⟩
  · obtain rfl : p = q := by omega
    have b1 : ((a : Int) + (p : Int) < (a : Int) + (p : Int)) = False := eq_false (by omega)
    simp only [rg, go_sem, seval, Prod.fst, b1]
    repeat' (first | with_reducible assumption | with_reducible refine And.intro ?_ ?_ | intro _)
    all_goals first | omega | skip
    refine pw_loop (ι := Nat) (fun i => i) (fun i => p ≤ i ∧ i ≤ X.length)
      (fun i => ⟨[(0, .q (.own 1000000220)), (14, .q (.c (.int .i64 (a + p)))), (17, .q (.c (.int .i64 (a + i))))], [], [(1000000220, 5, encL (A ++ X.take i ++ y :: X.drop i ++ C))]⟩) X.length ⟨g2, Nat.le_refl _⟩ (Le.of_eq (by rw [hl]; simp; omega)) ?_
    rintro i ⟨hi1, hi⟩
    rcases Nat.lt_or_ge p i with hlt | hge
    · have b2 : ((a : Int) + (p : Int) < (a : Int) + (i : Int)) = True := eq_true (by omega)
      obtain ⟨i, rfl⟩ : ∃ j, i = j + 1 := ⟨i - 1, by omega⟩
      have e1 : ((a : Int) + ((i + 1 : Nat) : Int)).toNat = a + i + 1 := by omega
      have e2 : ((a : Int) + ((i + 1 : Nat) : Int) - 1).toNat = a + i := by omega
      obtain ⟨x, hx, hdx, _⟩ := drop_at (l := X) (i := i) (by omega)
      have tl : (A ++ X.take i).length = a + i := by simp; omega
      have e8 : A ++ X.take (i + 1) ++ y :: X.drop (i + 1) ++ C = A ++ X.take i ++ x :: y :: X.drop (i + 1) ++ C := by rw [List.take_add_one, hx]; simp
      have f1 : (A ++ X.take i ++ x :: y :: X.drop (i + 1) ++ C)[a + i]? = some x := by rw [List.append_assoc, List.getElem?_append_right (by omega), tl]; simp
      have f2 : (A ++ X.take i ++ x :: y :: X.drop (i + 1) ++ C)[a + i + 1]? = some y := by rw [List.append_assoc, List.getElem?_append_right (by omega), tl]; simp
      have f3 : ((A ++ X.take i ++ x :: y :: X.drop (i + 1) ++ C).set (a + i + 1) x)[a + i]? = some x := by rw [List.getElem?_set_ne (by omega)]; exact f1
      have f5 : ((A ++ X.take i ++ x :: y :: X.drop (i + 1) ++ C).set (a + i + 1) x).set (a + i) y = A ++ X.take i ++ y :: X.drop i ++ C := by
        have := swp_at (A := A ++ X.take i) (B := []) (C := X.drop (i + 1) ++ C) (x := x) (y := y) (i := a + i) (j := a + i + 1) tl (by simp; omega)
        simp only [swp] at this
        have e6 : A ++ X.take i ++ x :: [] ++ y :: (X.drop (i + 1) ++ C) = A ++ X.take i ++ x :: y :: X.drop (i + 1) ++ C := by simp
        rw [e6, f1, f2] at this
        simp only at this
        rw [List.set_comm _ _ (by omega), this, hdx]; simp
      have a1 := encL_at f1
      have a2 := encL_at f2
      have a3 := encL_at f3
      have ex := T.enc_len x
      have hl2 : (A ++ X.take i ++ x :: y :: X.drop (i + 1) ++ C).length = l.length := by simp; omega
      rw [e8]
      simp only [rg, go_sem, seval, Prod.fst, b2, e1, e2, a1, a2, a3, fy, ex, encL_set, T.enc_drop5, encL_len, hl2, List.length_set, f5]
      repeat' (first | with_reducible assumption | with_reducible refine And.intro ?_ ?_ | intro _)
      all_goals first | omega | skip
      exact ⟨i, ⟨by omega, by omega⟩, by omega, Le.of_eq (by simp; omega)⟩
    · obtain rfl : i = p := by omega
      have b2 : ((a : Int) + (i : Int) < (a : Int) + (i : Int)) = False := eq_false (by omega)
      have e6 := srt_one sX g3 g4 (l := X ++ [y]) (List.perm_append_comm (l₁ := X) (l₂ := [y]))
      have e7 : A ++ X.take i ++ y :: X.drop i ++ C = A ++ sortC cmpT (X ++ [y]) ++ C := by rw [← e6]; simp
      simp only [rg, go_sem, seval, Prod.fst, b2, e7]
set_option maxHeartbeats 16000000 in
theorem symM_3 (k : Nat) (l : List T) (a m b : Nat) (h1 : (l.length : Int) ≤ 1000000) (h2 : fitL 140737488355328 l) (hm : (a : Int) < (m : Int)) (hb : (m : Int) < (b : Int)) (h3 : (b : Int) ≤ (l.length : Int)) (hk : ((b : Int) - (a : Int)).toNat < k + 1) (sX : Srt cmpT ((l.drop a).take (m - a))) (sY : Srt cmpT ((l.drop m).take (b - m))) (c1 : ¬ m = a + 1) (c2 : ¬ b = m + 1) (c3 : (a + b) / 2 < m) :
    pw (Gam [(53, spOrdIV), (80, spRot), (75, spSymM k)]) x_symM (endQ (finX 220 (Spec.at [] [.own 5 (encL (srtSeg l a b)), .gone, .gone, .gone, .gone]) [.own 5 (encL l), .d (.one (.int .i64 a)), .d (.one (.int .i64 m)), .d (.one (.int .i64 b)), .d (.one (.fn 53))] [])) (initX 0 220 [.own 5 (encL l), .d (.one (.int .i64 a)), .d (.one (.int .i64 m)), .d (.one (.int .i64 b)), .d (.one (.fn 53))]) := by
  have hfit : ∀ t ∈ l, t.fit 140737488355328 := fitL_mem h2
  obtain ⟨AX, Y, C, hl, k1, k2⟩ := split3 (l := l) (a := m) (b := b) (by omega) (by omega)
  obtain ⟨A, X, rfl, k3⟩ := split_at (l := AX) (a := a) (by omega)
  rw [List.length_append] at k1 k2
  have eX : (l.drop a).take (m - a) = X := by
    rw [hl, show A ++ X ++ Y ++ C = A ++ (X ++ (Y ++ C)) by simp, ← k3, List.drop_left, show m - A.length = X.length by omega, List.take_left]
  have eY : (l.drop m).take (b - m) = Y := by
    rw [hl, show A ++ X ++ Y ++ C = (A ++ X) ++ (Y ++ C) by simp, show m = (A ++ X).length by simp; omega, List.drop_left, show b - (A ++ X).length = Y.length by simp; omega, List.take_left]
  rw [eX] at sX
  rw [eY] at sY
  have ht : srtSeg l a b = A ++ sortC cmpT (X ++ Y) ++ C := by
    rw [hl, show A ++ X ++ Y ++ C = A ++ (X ++ Y) ++ C by simp]
    exact srtSeg_at k3 (by simp; omega)
  have hlen : l.length = A.length + X.length + Y.length + C.length := by rw [hl]; simp; omega
  have gX : ∀ i, i < X.length → l[a + i]? = X[i]? := fun i hi => by
    rw [hl, show A ++ X ++ Y ++ C = A ++ X ++ (Y ++ C) by simp, ← k3]; exact mid_get hi
  have gY : ∀ i, i < Y.length → l[m + i]? = Y[i]? := fun i hi => by
    rw [hl, show m = (A ++ X).length by simp; omega]; exact mid_get hi
  have d1 : ((m : Int) - (a : Int) = 1) = False := eq_false (by omega)
  have d2 : ((b : Int) - (m : Int) = 1) = False := eq_false (by omega)
  obtain ⟨mid, hmid⟩ : ∃ mid, mid = (a + b) / 2 := ⟨_, rfl⟩
  have d3 : ((a : Int) + (b : Int)) / 2 = (mid : Int) := by omega
  have lXY : A.length = a ∧ A.length + X.length = m ∧ A.length + X.length + Y.length = b := ⟨k3, k1, k2⟩
  obtain ⟨s0, hs0⟩ : ∃ s0, s0 = mid + m - b := ⟨_, rfl⟩
  obtain ⟨r0, hr0⟩ : ∃ r0, r0 = mid := ⟨_, rfl⟩
  have q1 : a ≤ s0 ∧ s0 ≤ r0 ∧ r0 ≤ m ∧ r0 ≤ mid ∧ mid + m ≤ s0 + b := by omega
  obtain ⟨q1, q2, q3, q4, q5⟩ := q1
  have d4 : ((mid : Int) < (m : Int)) = True := eq_true (by omega)
  simp only [x_symM, rg, go_sem, seval, Prod.fst, d1, d2, d3, d4, Int.toNat_natCast, ht]
  repeat' (first | with_reducible assumption | with_reducible refine And.intro ?_ ?_ | intro _)
  all_goals first | omega | skip
  refine pw_loop (ι := Nat × Nat) (fun z => z.2 - z.1) (fun z => s0 ≤ z.1 ∧ z.1 ≤ z.2 ∧ z.2 ≤ r0 ∧ (∀ x y, l[z.1 - 1]? = some x → l[mid + m - z.1]? = some y → s0 < z.1 → cmpT x y ≤ 0) ∧ (∀ x y, l[mid + m - 1 - z.2]? = some y → l[z.2]? = some x → z.2 < r0 → cmpT y x ≤ 0))
    (fun z => ⟨[(0, .q (.own 1000000220)), (1, .q (.c (.int .i64 a))), (2, .q (.c (.int .i64 m))), (3, .q (.c (.int .i64 b))), (4, .q (.c (.fn 53))), (18, .q (.c (.int .i64 mid))), (19, .q (.c (.int .i64 (mid + m)))), (20, .q (.c (.int .i64 z.1))), (21, .q (.c (.int .i64 z.2))), (22, .q (.c (.int .i64 (mid + m - 1))))], [], [(1000000220, 5, encL l)]⟩)
    (s0, r0) ⟨Nat.le_refl _, q2, Nat.le_refl _, fun _ _ _ _ h => absurd h (Nat.lt_irrefl _), fun _ _ _ _ h => absurd h (Nat.lt_irrefl _)⟩ (Le.of_eq (by simp; omega)) ?_
  rintro ⟨s, r⟩ ⟨g1, g2, g3, g4, g5⟩
  simp only at g1 g2 g3 g4 g5
  rcases Nat.lt_or_ge s r with hlt | hge
  · have b1 : ((s : Int) < (r : Int)) = True := eq_true (by omega)
    obtain ⟨c, hc⟩ : ∃ c, c = (s + r) / 2 := ⟨_, rfl⟩
    have b2 : ((s : Int) + (r : Int)) / 2 = (c : Int) := by omega
    have e1 : ((mid : Int) + (m : Int) - 1 - (c : Int)).toNat = mid + m - 1 - c := by omega
    obtain ⟨x, hx⟩ : ∃ x, l[c]? = some x := ⟨_, List.getElem?_eq_getElem (by omega)⟩
    obtain ⟨y, hy⟩ : ∃ y, l[mid + m - 1 - c]? = some y := ⟨_, List.getElem?_eq_getElem (by omega)⟩
    have ax := encL_at hx
    have ay := encL_at hy
    have fx := T.enc_len x
    have fy := T.enc_len y
    have ffx := hfit x (List.mem_of_getElem? hx)
    have ffy := hfit y (List.mem_of_getElem? hy)
    simp only [rg, go_sem, seval, Prod.fst, b1, b2, e1, ax, ay, fx, fy, encL_len, Int.toNat_natCast, spOrdIV_md, spOrdIV_pre, spOrdIV_alts, spOrdIV_res, spOrdIV_out]
    repeat' (first | with_reducible assumption | with_reducible refine And.intro ?_ ?_ | intro _)
    all_goals first | omega | assumption | skip
    · rename_i hn _
      refine ⟨(c + 1, r), ⟨by show s0 ≤ c + 1; omega, by show c + 1 ≤ r; omega, g3, fun x' y' hx' hy' _ => ?_, g5⟩, by show r - (c + 1) < r - s; omega, Le.of_eq (by simp)⟩
      simp only [Nat.add_sub_cancel] at hx'
      rw [show mid + m - (c + 1) = mid + m - 1 - c by omega] at hy'
      rw [hx] at hx'
      rw [hy] at hy'
      cases hx'; cases hy'
      exact cmp_le (by simpa using hn)
    · rename_i hn
      refine ⟨(s, c), ⟨g1, by show s ≤ c; omega, by show c ≤ r0; omega, g4, fun x' y' hy' hx' _ => ?_⟩, by show c - s < r - s; omega, Le.of_eq (by simp)⟩
      simp only at hx' hy'
      rw [hx] at hx'
      rw [hy] at hy'
      cases hx'; cases hy'
      simp at hn; omega
  · obtain rfl : s = r := by omega
    have b1 : ((s : Int) < (s : Int)) = False := eq_false (by omega)
    obtain ⟨e, he⟩ : ∃ e, e = mid + m - s := ⟨_, rfl⟩
    have d6 : (mid : Int) + (m : Int) - (s : Int) = (e : Int) := by omega
    obtain ⟨L1, L2, n1, n2, pl1, pl2, hrot, z1, hs1, z2, hs2, z3, w1, w2, w3, w4⟩ := symm_facts hl k3 k1 k2 sX sY (s := s) (mid := mid) (e := e) (by omega) (by omega) (by omega) he (by omega) (by omega) (by omega) (fun x y hx hy h0 => by
        have hj' := (List.getElem?_eq_some_iff.1 hy).1
        refine g4 x y ?_ ?_ (by omega)
        · rw [← hx, ← gX (s - a - 1) (by omega)]; congr 1; omega
        · rw [← hy, ← gY (e - m) hj']; congr 1; omega) (fun y x hy hx h0 => by
        have hi' := (List.getElem?_eq_some_iff.1 hx).1
        refine g5 x y ?_ ?_ (by omega)
        · rw [← hy, ← gY (e - m - 1) (by omega)]; congr 1; omega
        · rw [← hx, ← gX (s - a) hi']; congr 1; omega)
    have t1 : fitL 140737488355328 L1 := fitL_perm h2 pl1
    have t2 : fitL 140737488355328 L2 := fitL_perm h2 pl2
    clear hl g4 g5 gX gY eX eY ht hfit pl1 pl2
    by_cases c1 : s < m ∧ m < e
    · by_cases c2' : a < s ∧ s < mid
      · by_cases c3' : mid < e ∧ e < b
        · have b3 : ((s : Int) < (m : Int) ∧ (m : Int) < (e : Int)) = True := eq_true (by omega)
          have b4 : ((a : Int) < (s : Int) ∧ (s : Int) < (mid : Int)) = True := eq_true (by omega)
          have b5 : ((mid : Int) < (e : Int) ∧ (e : Int) < (b : Int)) = True := eq_true (by omega)
          simp only [rg, go_sem, seval, Prod.fst, pick_and, b1, b3, b4, b5, d6, hrot, hs1, hs2, Int.toNat_natCast, spRot_md, spRot_pre, spRot_alts, spRot_res, spRot_out, spSymM_md, spSymM_pre, spSymM_alts, spSymM_res, spSymM_out, lenB]
          repeat' (first | with_reducible assumption | with_reducible refine And.intro ?_ ?_ | intro _)
          all_goals first | omega | assumption | skip
        · have b3 : ((s : Int) < (m : Int) ∧ (m : Int) < (e : Int)) = True := eq_true (by omega)
          have b4 : ((a : Int) < (s : Int) ∧ (s : Int) < (mid : Int)) = True := eq_true (by omega)
          have b5 : ((mid : Int) < (e : Int) ∧ (e : Int) < (b : Int)) = False := eq_false (by omega)
          have y3 : encL L2 = encL (A ++ sortC cmpT (X ++ Y) ++ C) := by rw [z3 c3']
          simp only [rg, go_sem, seval, Prod.fst, pick_and, b1, b3, b4, b5, d6, hrot, hs1, hs2, y3, Int.toNat_natCast, spRot_md, spRot_pre, spRot_alts, spRot_res, spRot_out, spSymM_md, spSymM_pre, spSymM_alts, spSymM_res, spSymM_out, lenB]
          repeat' (first | with_reducible assumption | with_reducible refine And.intro ?_ ?_ | intro _)
          all_goals first | omega | assumption | skip
      · by_cases c3' : mid < e ∧ e < b
        · have b3 : ((s : Int) < (m : Int) ∧ (m : Int) < (e : Int)) = True := eq_true (by omega)
          have b4 : ((a : Int) < (s : Int) ∧ (s : Int) < (mid : Int)) = False := eq_false (by omega)
          have b5 : ((mid : Int) < (e : Int) ∧ (e : Int) < (b : Int)) = True := eq_true (by omega)
          have y2 : encL L1 = encL L2 := by rw [z2 c2']
          simp only [rg, go_sem, seval, Prod.fst, pick_and, b1, b3, b4, b5, d6, hrot, hs1, hs2, y2, Int.toNat_natCast, spRot_md, spRot_pre, spRot_alts, spRot_res, spRot_out, spSymM_md, spSymM_pre, spSymM_alts, spSymM_res, spSymM_out, lenB]
          repeat' (first | with_reducible assumption | with_reducible refine And.intro ?_ ?_ | intro _)
          all_goals first | omega | assumption | skip
        · have b3 : ((s : Int) < (m : Int) ∧ (m : Int) < (e : Int)) = True := eq_true (by omega)
          have b4 : ((a : Int) < (s : Int) ∧ (s : Int) < (mid : Int)) = False := eq_false (by omega)
          have b5 : ((mid : Int) < (e : Int) ∧ (e : Int) < (b : Int)) = False := eq_false (by omega)
          have y2 : encL L1 = encL L2 := by rw [z2 c2']
          have y3 : encL L2 = encL (A ++ sortC cmpT (X ++ Y) ++ C) := by rw [z3 c3']
          simp only [rg, go_sem, seval, Prod.fst, pick_and, b1, b3, b4, b5, d6, hrot, hs1, hs2, y2, y3, Int.toNat_natCast, spRot_md, spRot_pre, spRot_alts, spRot_res, spRot_out, spSymM_md, spSymM_pre, spSymM_alts, spSymM_res, spSymM_out, lenB]
          repeat' (first | with_reducible assumption | with_reducible refine And.intro ?_ ?_ | intro _)
          all_goals first | omega | assumption | skip
    · by_cases c2' : a < s ∧ s < mid
      · by_cases c3' : mid < e ∧ e < b
        · have b3 : ((s : Int) < (m : Int) ∧ (m : Int) < (e : Int)) = False := eq_false (by omega)
          have b4 : ((a : Int) < (s : Int) ∧ (s : Int) < (mid : Int)) = True := eq_true (by omega)
          have b5 : ((mid : Int) < (e : Int) ∧ (e : Int) < (b : Int)) = True := eq_true (by omega)
          have y1 : encL l = encL L1 := by rw [z1 c1]
          simp only [rg, go_sem, seval, Prod.fst, pick_and, b1, b3, b4, b5, d6, hrot, hs1, hs2, y1, Int.toNat_natCast, spRot_md, spRot_pre, spRot_alts, spRot_res, spRot_out, spSymM_md, spSymM_pre, spSymM_alts, spSymM_res, spSymM_out, lenB]
          repeat' (first | with_reducible assumption | with_reducible refine And.intro ?_ ?_ | intro _)
          all_goals first | omega | assumption | skip
        · have b3 : ((s : Int) < (m : Int) ∧ (m : Int) < (e : Int)) = False := eq_false (by omega)
          have b4 : ((a : Int) < (s : Int) ∧ (s : Int) < (mid : Int)) = True := eq_true (by omega)
          have b5 : ((mid : Int) < (e : Int) ∧ (e : Int) < (b : Int)) = False := eq_false (by omega)
          have y1 : encL l = encL L1 := by rw [z1 c1]
          have y3 : encL L2 = encL (A ++ sortC cmpT (X ++ Y) ++ C) := by rw [z3 c3']
          simp only [rg, go_sem, seval, Prod.fst, pick_and, b1, b3, b4, b5, d6, hrot, hs1, hs2, y1, y3, Int.toNat_natCast, spRot_md, spRot_pre, spRot_alts, spRot_res, spRot_out, spSymM_md, spSymM_pre, spSymM_alts, spSymM_res, spSymM_out, lenB]
          repeat' (first | with_reducible assumption | with_reducible refine And.intro ?_ ?_ | intro _)
          all_goals first | omega | assumption | skip
      · by_cases c3' : mid < e ∧ e < b
        · have b3 : ((s : Int) < (m : Int) ∧ (m : Int) < (e : Int)) = False := eq_false (by omega)
          have b4 : ((a : Int) < (s : Int) ∧ (s : Int) < (mid : Int)) = False := eq_false (by omega)
          have b5 : ((mid : Int) < (e : Int) ∧ (e : Int) < (b : Int)) = True := eq_true (by omega)
          have y1 : encL l = encL L1 := by rw [z1 c1]
          have y2 : encL L1 = encL L2 := by rw [z2 c2']
          simp only [rg, go_sem, seval, Prod.fst, pick_and, b1, b3, b4, b5, d6, hrot, hs1, hs2, y1, y2, Int.toNat_natCast, spRot_md, spRot_pre, spRot_alts, spRot_res, spRot_out, spSymM_md, spSymM_pre, spSymM_alts, spSymM_res, spSymM_out, lenB]
          repeat' (first | with_reducible assumption | with_reducible refine And.intro ?_ ?_ | intro _)
          all_goals first | omega | assumption | skip
        · have b3 : ((s : Int) < (m : Int) ∧ (m : Int) < (e : Int)) = False := eq_false (by omega)
          have b4 : ((a : Int) < (s : Int) ∧ (s : Int) < (mid : Int)) = False := eq_false (by omega)
          have b5 : ((mid : Int) < (e : Int) ∧ (e : Int) < (b : Int)) = False := eq_false (by omega)
          have y1 : encL l = encL L1 := by rw [z1 c1]
          have y2 : encL L1 = encL L2 := by rw [z2 c2']
          have y3 : encL L2 = encL (A ++ sortC cmpT (X ++ Y) ++ C) := by rw [z3 c3']
          simp only [rg, go_sem, seval, Prod.fst, pick_and, b1, b3, b4, b5, d6, hrot, hs1, hs2, y1, y2, y3, Int.toNat_natCast, spRot_md, spRot_pre, spRot_alts, spRot_res, spRot_out, spSymM_md, spSymM_pre, spSymM_alts, spSymM_res, spSymM_out, lenB]
          repeat' (first | with_reducible assumption | with_reducible refine And.intro ?_ ?_ | intro _)
          all_goals first | omega | assumption | skip
set_option maxHeartbeats 16000000 in
theorem symM_4 (k : Nat) (l : List T) (a m b : Nat) (h1 : (l.length : Int) ≤ 1000000) (h2 : fitL 140737488355328 l) (hm : (a : Int) < (m : Int)) (hb : (m : Int) < (b : Int)) (h3 : (b : Int) ≤ (l.length : Int)) (hk : ((b : Int) - (a : Int)).toNat < k + 1) (sX : Srt cmpT ((l.drop a).take (m - a))) (sY : Srt cmpT ((l.drop m).take (b - m))) (c1 : ¬ m = a + 1) (c2 : ¬ b = m + 1) (c3 : ¬ (a + b) / 2 < m) :
    pw (Gam [(53, spOrdIV), (80, spRot), (75, spSymM k)]) x_symM (endQ (finX 220 (Spec.at [] [.own 5 (encL (srtSeg l a b)), .gone, .gone, .gone, .gone]) [.own 5 (encL l), .d (.one (.int .i64 a)), .d (.one (.int .i64 m)), .d (.one (.int .i64 b)), .d (.one (.fn 53))] [])) (initX 0 220 [.own 5 (encL l), .d (.one (.int .i64 a)), .d (.one (.int .i64 m)), .d (.one (.int .i64 b)), .d (.one (.fn 53))]) := by
  have hfit : ∀ t ∈ l, t.fit 140737488355328 := fitL_mem h2
  obtain ⟨AX, Y, C, hl, k1, k2⟩ := split3 (l := l) (a := m) (b := b) (by omega) (by omega)
  obtain ⟨A, X, rfl, k3⟩ := split_at (l := AX) (a := a) (by omega)
  rw [List.length_append] at k1 k2
  have eX : (l.drop a).take (m - a) = X := by
    rw [hl, show A ++ X ++ Y ++ C = A ++ (X ++ (Y ++ C)) by simp, ← k3, List.drop_left, show m - A.length = X.length by omega, List.take_left]
  have eY : (l.drop m).take (b - m) = Y := by
    rw [hl, show A ++ X ++ Y ++ C = (A ++ X) ++ (Y ++ C) by simp, show m = (A ++ X).length by simp; omega, List.drop_left, show b - (A ++ X).length = Y.length by simp; omega, List.take_left]
  rw [eX] at sX
  rw [eY] at sY
  have ht : srtSeg l a b = A ++ sortC cmpT (X ++ Y) ++ C := by
    rw [hl, show A ++ X ++ Y ++ C = A ++ (X ++ Y) ++ C by simp]
    exact srtSeg_at k3 (by simp; omega)
  have hlen : l.length = A.length + X.length + Y.length + C.length := by rw [hl]; simp; omega
  have gX : ∀ i, i < X.length → l[a + i]? = X[i]? := fun i hi => by
    rw [hl, show A ++ X ++ Y ++ C = A ++ X ++ (Y ++ C) by simp, ← k3]; exact mid_get hi
  have gY : ∀ i, i < Y.length → l[m + i]? = Y[i]? := fun i hi => by
    rw [hl, show m = (A ++ X).length by simp; omega]; exact mid_get hi
  have d1 : ((m : Int) - (a : Int) = 1) = False := eq_false (by omega)
  have d2 : ((b : Int) - (m : Int) = 1) = False := eq_false (by omega)
  obtain ⟨mid, hmid⟩ : ∃ mid, mid = (a + b) / 2 := ⟨_, rfl⟩
  have d3 : ((a : Int) + (b : Int)) / 2 = (mid : Int) := by omega
  have lXY : A.length = a ∧ A.length + X.length = m ∧ A.length + X.length + Y.length = b := ⟨k3, k1, k2⟩
  obtain ⟨s0, hs0⟩ : ∃ s0, s0 = a := ⟨_, rfl⟩
  obtain ⟨r0, hr0⟩ : ∃ r0, r0 = m := ⟨_, rfl⟩
  have q1 : a ≤ s0 ∧ s0 ≤ r0 ∧ r0 ≤ m ∧ r0 ≤ mid ∧ mid + m ≤ s0 + b := by omega
  obtain ⟨q1, q2, q3, q4, q5⟩ := q1
  have d4 : ((mid : Int) < (m : Int)) = False := eq_false (by omega)
  simp only [x_symM, rg, go_sem, seval, Prod.fst, d1, d2, d3, d4, Int.toNat_natCast, ht]
  repeat' (first | with_reducible assumption | with_reducible refine And.intro ?_ ?_ | intro _)
  all_goals first | omega | skip
  refine pw_loop (ι := Nat × Nat) (fun z => z.2 - z.1) (fun z => s0 ≤ z.1 ∧ z.1 ≤ z.2 ∧ z.2 ≤ r0 ∧ (∀ x y, l[z.1 - 1]? = some x → l[mid + m - z.1]? = some y → s0 < z.1 → cmpT x y ≤ 0) ∧ (∀ x y, l[mid + m - 1 - z.2]? = some y → l[z.2]? = some x → z.2 < r0 → cmpT y x ≤ 0))
    (fun z => ⟨[(0, .q (.own 1000000220)), (1, .q (.c (.int .i64 a))), (2, .q (.c (.int .i64 m))), (3, .q (.c (.int .i64 b))), (4, .q (.c (.fn 53))), (18, .q (.c (.int .i64 mid))), (19, .q (.c (.int .i64 (mid + m)))), (20, .q (.c (.int .i64 z.1))), (21, .q (.c (.int .i64 z.2))), (22, .q (.c (.int .i64 (mid + m - 1))))], [], [(1000000220, 5, encL l)]⟩)
    (s0, r0) ⟨Nat.le_refl _, q2, Nat.le_refl _, fun _ _ _ _ h => absurd h (Nat.lt_irrefl _), fun _ _ _ _ h => absurd h (Nat.lt_irrefl _)⟩ (Le.of_eq (by simp; omega)) ?_
  rintro ⟨s, r⟩ ⟨g1, g2, g3, g4, g5⟩
  simp only at g1 g2 g3 g4 g5
  rcases Nat.lt_or_ge s r with hlt | hge
  · have b1 : ((s : Int) < (r : Int)) = True := eq_true (by omega)
    obtain ⟨c, hc⟩ : ∃ c, c = (s + r) / 2 := ⟨_, rfl⟩
    have b2 : ((s : Int) + (r : Int)) / 2 = (c : Int) := by omega
    have e1 : ((mid : Int) + (m : Int) - 1 - (c : Int)).toNat = mid + m - 1 - c := by omega
    obtain ⟨x, hx⟩ : ∃ x, l[c]? = some x := ⟨_, List.getElem?_eq_getElem (by omega)⟩
    obtain ⟨y, hy⟩ : ∃ y, l[mid + m - 1 - c]? = some y := ⟨_, List.getElem?_eq_getElem (by omega)⟩
    have ax := encL_at hx
    have ay := encL_at hy
    have fx := T.enc_len x
    have fy := T.enc_len y
    have ffx := hfit x (List.mem_of_getElem? hx)
    have ffy := hfit y (List.mem_of_getElem? hy)
    simp only [rg, go_sem, seval, Prod.fst, b1, b2, e1, ax, ay, fx, fy, encL_len, Int.toNat_natCast, spOrdIV_md, spOrdIV_pre, spOrdIV_alts, spOrdIV_res, spOrdIV_out]
    repeat' (first | with_reducible assumption | with_reducible refine And.intro ?_ ?_ | intro _)
    all_goals first | omega | assumption | skip
    · rename_i hn _
      refine ⟨(c + 1, r), ⟨by show s0 ≤ c + 1; omega, by show c + 1 ≤ r; omega, g3, fun x' y' hx' hy' _ => ?_, g5⟩, by show r - (c + 1) < r - s; omega, Le.of_eq (by simp)⟩
      simp only [Nat.add_sub_cancel] at hx'
      rw [show mid + m - (c + 1) = mid + m - 1 - c by omega] at hy'
      rw [hx] at hx'
      rw [hy] at hy'
      cases hx'; cases hy'
      exact cmp_le (by simpa using hn)
    · rename_i hn
      refine ⟨(s, c), ⟨g1, by show s ≤ c; omega, by show c ≤ r0; omega, g4, fun x' y' hy' hx' _ => ?_⟩, by show c - s < r - s; omega, Le.of_eq (by simp)⟩
      simp only at hx' hy'
      rw [hx] at hx'
      rw [hy] at hy'
      cases hx'; cases hy'
      simp at hn; omega
  · obtain rfl : s = r := by omega
    have b1 : ((s : Int) < (s : Int)) = False := eq_false (by omega)
    obtain ⟨e, he⟩ : ∃ e, e = mid + m - s := ⟨_, rfl⟩
    have d6 : (mid : Int) + (m : Int) - (s : Int) = (e : Int) := by omega
    obtain ⟨L1, L2, n1, n2, pl1, pl2, hrot, z1, hs1, z2, hs2, z3, w1, w2, w3, w4⟩ := symm_facts hl k3 k1 k2 sX sY (s := s) (mid := mid) (e := e) (by omega) (by omega) (by omega) he (by omega) (by omega) (by omega) (fun x y hx hy h0 => by
        have hj' := (List.getElem?_eq_some_iff.1 hy).1
        refine g4 x y ?_ ?_ (by omega)
        · rw [← hx, ← gX (s - a - 1) (by omega)]; congr 1; omega
        · rw [← hy, ← gY (e - m) hj']; congr 1; omega) (fun y x hy hx h0 => by
        have hi' := (List.getElem?_eq_some_iff.1 hx).1
        refine g5 x y ?_ ?_ (by omega)
        · rw [← hy, ← gY (e - m - 1) (by omega)]; congr 1; omega
        · rw [← hx, ← gX (s - a) hi']; congr 1; omega)
    have t1 : fitL 140737488355328 L1 := fitL_perm h2 pl1
    have t2 : fitL 140737488355328 L2 := fitL_perm h2 pl2
    clear hl g4 g5 gX gY eX eY ht hfit pl1 pl2
    by_cases c1 : s < m ∧ m < e
    · by_cases c2' : a < s ∧ s < mid
      · by_cases c3' : mid < e ∧ e < b
        · have b3 : ((s : Int) < (m : Int) ∧ (m : Int) < (e : Int)) = True := eq_true (by omega)
          have b4 : ((a : Int) < (s : Int) ∧ (s : Int) < (mid : Int)) = True := eq_true (by omega)
          have b5 : ((mid : Int) < (e : Int) ∧ (e : Int) < (b : Int)) = True := eq_true (by omega)
          simp only [rg, go_sem, seval, Prod.fst, pick_and, b1, b3, b4, b5, d6, hrot, hs1, hs2, Int.toNat_natCast, spRot_md, spRot_pre, spRot_alts, spRot_res, spRot_out, spSymM_md, spSymM_pre, spSymM_alts, spSymM_res, spSymM_out, lenB]
          repeat' (first | with_reducible assumption | with_reducible refine And.intro ?_ ?_ | intro _)
          all_goals first | omega | assumption | skip
        · have b3 : ((s : Int) < (m : Int) ∧ (m : Int) < (e : Int)) = True := eq_true (by omega)
          have b4 : ((a : Int) < (s : Int) ∧ (s : Int) < (mid : Int)) = True := eq_true (by omega)
          have b5 : ((mid : Int) < (e : Int) ∧ (e : Int) < (b : Int)) = False := eq_false (by omega)
          have y3 : encL L2 = encL (A ++ sortC cmpT (X ++ Y) ++ C) := by rw [z3 c3']
          simp only [rg, go_sem, seval, Prod.fst, pick_and, b1, b3, b4, b5, d6, hrot, hs1, hs2, y3, Int.toNat_natCast, spRot_md, spRot_pre, spRot_alts, spRot_res, spRot_out, spSymM_md, spSymM_pre, spSymM_alts, spSymM_res, spSymM_out, lenB]
          repeat' (first | with_reducible assumption | with_reducible refine And.intro ?_ ?_ | intro _)
          all_goals first | omega | assumption | skip
      · by_cases c3' : mid < e ∧ e < b
        · have b3 : ((s : Int) < (m : Int) ∧ (m : Int) < (e : Int)) = True := eq_true (by omega)
          have b4 : ((a : Int) < (s : Int) ∧ (s : Int) < (mid : Int)) = False := eq_false (by omega)
          have b5 : ((mid : Int) < (e : Int) ∧ (e : Int) < (b : Int)) = True := eq_true (by omega)
          have y2 : encL L1 = encL L2 := by rw [z2 c2']
          simp only [rg, go_sem, seval, Prod.fst, pick_and, b1, b3, b4, b5, d6, hrot, hs1, hs2, y2, Int.toNat_natCast, spRot_md, spRot_pre, spRot_alts, spRot_res, spRot_out, spSymM_md, spSymM_pre, spSymM_alts, spSymM_res, spSymM_out, lenB]
          repeat' (first | with_reducible assumption | with_reducible refine And.intro ?_ ?_ | intro _)
          all_goals first | omega | assumption | skip
        · have b3 : ((s : Int) < (m : Int) ∧ (m : Int) < (e : Int)) = True := eq_true (by omega)
          have b4 : ((a : Int) < (s : Int) ∧ (s : Int) < (mid : Int)) = False := eq_false (by omega)
          have b5 : ((mid : Int) < (e : Int) ∧ (e : Int) < (b : Int)) = False := eq_false (by omega)
          have y2 : encL L1 = encL L2 := by rw [z2 c2']
          have y3 : encL L2 = encL (A ++ sortC cmpT (X ++ Y) ++ C) := by rw [z3 c3']
          simp only [rg, go_sem, seval, Prod.fst, pick_and, b1, b3, b4, b5, d6, hrot, hs1, hs2, y2, y3, Int.toNat_natCast, spRot_md, spRot_pre, spRot_alts, spRot_res, spRot_out, spSymM_md, spSymM_pre, spSymM_alts, spSymM_res, spSymM_out, lenB]
          repeat' (first | with_reducible assumption | with_reducible refine And.intro ?_ ?_ | intro _)
          all_goals first | omega | assumption | skip
    · by_cases c2' : a < s ∧ s < mid
      · by_cases c3' : mid < e ∧ e < b
        · have b3 : ((s : Int) < (m : Int) ∧ (m : Int) < (e : Int)) = False := eq_false (by omega)
          have b4 : ((a : Int) < (s : Int) ∧ (s : Int) < (mid : Int)) = True := eq_true (by omega)
          have b5 : ((mid : Int) < (e : Int) ∧ (e : Int) < (b : Int)) = True := eq_true (by omega)
          have y1 : encL l = encL L1 := by rw [z1 c1]
          simp only [rg, go_sem, seval, Prod.fst, pick_and, b1, b3, b4, b5, d6, hrot, hs1, hs2, y1, Int.toNat_natCast, spRot_md, spRot_pre, spRot_alts, spRot_res, spRot_out, spSymM_md, spSymM_pre, spSymM_alts, spSymM_res, spSymM_out, lenB]
          repeat' (first | with_reducible assumption | with_reducible refine And.intro ?_ ?_ | intro _)
          all_goals first | omega | assumption | skip
        · have b3 : ((s : Int) < (m : Int) ∧ (m : Int) < (e : Int)) = False := eq_false (by omega)
          have b4 : ((a : Int) < (s : Int) ∧ (s : Int) < (mid : Int)) = True := eq_true (by omega)
          have b5 : ((mid : Int) < (e : Int) ∧ (e : Int) < (b : Int)) = False := eq_false (by omega)
          have y1 : encL l = encL L1 := by rw [z1 c1]
          have y3 : encL L2 = encL (A ++ sortC cmpT (X ++ Y) ++ C) := by rw [z3 c3']
          simp only [rg, go_sem, seval, Prod.fst, pick_and, b1, b3, b4, b5, d6, hrot, hs1, hs2, y1, y3, Int.toNat_natCast, spRot_md, spRot_pre, spRot_alts, spRot_res, spRot_out, spSymM_md, spSymM_pre, spSymM_alts, spSymM_res, spSymM_out, lenB]
          repeat' (first | with_reducible assumption | with_reducible refine And.intro ?_ ?_ | intro _)
          all_goals first | omega | assumption | skip
      · by_cases c3' : mid < e ∧ e < b
        · have b3 : ((s : Int) < (m : Int) ∧ (m : Int) < (e : Int)) = False := eq_false (by omega)
          have b4 : ((a : Int) < (s : Int) ∧ (s : Int) < (mid : Int)) = False := eq_false (by omega)
          have b5 : ((mid : Int) < (e : Int) ∧ (e : Int) < (b : Int)) = True := eq_true (by omega)
          have y1 : encL l = encL L1 := by rw [z1 c1]
          have y2 : encL L1 = encL L2 := by rw [z2 c2']
          simp only [rg, go_sem, seval, Prod.fst, pick_and, b1, b3, b4, b5, d6, hrot, hs1, hs2, y1, y2, Int.toNat_natCast, spRot_md, spRot_pre, spRot_alts, spRot_res, spRot_out, spSymM_md, spSymM_pre, spSymM_alts, spSymM_res, spSymM_out, lenB]
          repeat' (first | with_reducible assumption | with_reducible refine And.intro ?_ ?_ | intro _)
          all_goals first | omega | assumption | skip
        · have b3 : ((s : Int) < (m : Int) ∧ (m : Int) < (e : Int)) = False := eq_false (by omega)
          have b4 : ((a : Int) < (s : Int) ∧ (s : Int) < (mid : Int)) = False := eq_false (by omega)
          have b5 : ((mid : Int) < (e : Int) ∧ (e : Int) < (b : Int)) = False := eq_false (by omega)
          have y1 : encL l = encL L1 := by rw [z1 c1]
          have y2 : encL L1 = encL L2 := by rw [z2 c2']
          have y3 : encL L2 = encL (A ++ sortC cmpT (X ++ Y) ++ C) := by rw [z3 c3']
          simp only [rg, go_sem, seval, Prod.fst, pick_and, b1, b3, b4, b5, d6, hrot, hs1, hs2, y1, y2, y3, Int.toNat_natCast, spRot_md, spRot_pre, spRot_alts, spRot_res, spRot_out, spSymM_md, spSymM_pre, spSymM_alts, spSymM_res, spSymM_out, lenB]
          repeat' (first | with_reducible assumption | with_reducible refine And.intro ?_ ?_ | intro _)
          all_goals first | omega | assumption | skip
theorem symM_step (k : Nat) (hS : Sound Go.Proofs.Try.prog 75 (spSymM k)) : Sound Go.Proofs.Try.prog 75 (spSymM (k + 1)) := by
  refine sound_fam (GOK.cons (l := [(80, spRot), (75, spSymM k)]) call_ValOrderI ordIV_sound (GOK.cons (l := [(75, spSymM k)]) call_rot rot_sound (GOK.cons call_symM hS GOK.nil))) Go.Proofs.Try.func75 (c := Go.Proofs.Try.f75.body.getD .skip) rfl (n := 220) rfl chk_symM rs_symM (fun _ => by simp) ?_ ?_
  · exact spSymM_inj
  · rintro ⟨l, a, m, b⟩ ⟨⟨h1, h2, ha, hm, hb, h3, sX, sY⟩, hk⟩
    simp only [lenB] at h1 h2 ha hm hb h3 hk sX sY
    obtain ⟨a, rfl⟩ := Int.eq_ofNat_of_zero_le ha
    obtain ⟨m, rfl⟩ := Int.eq_ofNat_of_zero_le (a := m) (by omega)
    obtain ⟨b, rfl⟩ := Int.eq_ofNat_of_zero_le (a := b) (by omega)
    by_cases c1 : m = a + 1
    · exact symM_1 k l a m b h1 h2 hm hb h3 hk sX sY c1
    by_cases c2 : b = m + 1
    · exact symM_2 k l a m b h1 h2 hm hb h3 hk sX sY c1 c2
    by_cases c3 : (a + b) / 2 < m
    · exact symM_3 k l a m b h1 h2 hm hb h3 hk sX sY c1 c2 c3
    · exact symM_4 k l a m b h1 h2 hm hb h3 hk sX sY c1 c2 c3
theorem symM_all (k : Nat) : Sound Go.Proofs.Try.prog 75 (spSymM k) := by
  induction k with
  | zero => exact Sound.none
  | succ k ih => exact symM_step k ih
noncomputable def spSymG  : Spec := Spec.of (ι := (List T) × Int × Int × Int) [true, false, false, false, false] (fun i => [.own 5 (encL i.1), .d (.one (.int .i64 i.2.1)), .d (.one (.int .i64 i.2.2.1)), .d (.one (.int .i64 i.2.2.2)), .d (.one (.fn 53))]) (fun i => lenB 1000000 i.1.length ∧ fitL 140737488355328 i.1 ∧ 0 ≤ i.2.1 ∧ i.2.1 < i.2.2.1 ∧ i.2.2.1 < i.2.2.2 ∧ i.2.2.2 ≤ i.1.length ∧ Srt cmpT ((i.1.drop i.2.1.toNat).take (i.2.2.1.toNat - i.2.1.toNat)) ∧ Srt cmpT ((i.1.drop i.2.2.1.toNat).take (i.2.2.2.toNat - i.2.2.1.toNat))) (fun _ => []) (fun i => [.own 5 (encL (srtSeg i.1 i.2.1.toNat i.2.2.2.toNat)), .gone, .gone, .gone, .gone])
theorem spSymG_inj : ∀ i j : (List T) × Int × Int × Int, (fun (i : (List T) × Int × Int × Int) => ([.own 5 (encL i.1), .d (.one (.int .i64 i.2.1)), .d (.one (.int .i64 i.2.2.1)), .d (.one (.int .i64 i.2.2.2)), .d (.one (.fn 53))] : List AV)) i = (fun (i : (List T) × Int × Int × Int) => ([.own 5 (encL i.1), .d (.one (.int .i64 i.2.1)), .d (.one (.int .i64 i.2.2.1)), .d (.one (.int .i64 i.2.2.2)), .d (.one (.fn 53))] : List AV)) j → i = j := by
  rintro ⟨l, a, m, b⟩ ⟨l', a', m', b'⟩ h
  simp only [Prod.mk.injEq]
  simpa [strs_eq, T.enc_eq, encL_eq, F.enc_eq, encF_eq, Tk.enc_eq, encTk_eq, Gn.enc_eq, ints_eq] using h
theorem spSymG_md  : (spSymG).md = [true, false, false, false, false] := rfl
theorem spSymG_pre  (l : List T) (a : Int) (m : Int) (b : Int) : (spSymG).pre [.own 5 (encL l), .d (.one (.int .i64 a)), .d (.one (.int .i64 m)), .d (.one (.int .i64 b)), .d (.one (.fn 53))] = (lenB 1000000 l.length ∧ fitL 140737488355328 l ∧ 0 ≤ a ∧ a < m ∧ m < b ∧ b ≤ l.length ∧ Srt cmpT ((l.drop a.toNat).take (m.toNat - a.toNat)) ∧ Srt cmpT ((l.drop m.toNat).take (b.toNat - m.toNat))) := Spec.of_pre' spSymG_inj (l, a, m, b)
theorem spSymG_alts  : (spSymG).alts = none := rfl
theorem spSymG_res  (l : List T) (a : Int) (m : Int) (b : Int) : (spSymG).res [.own 5 (encL l), .d (.one (.int .i64 a)), .d (.one (.int .i64 m)), .d (.one (.int .i64 b)), .d (.one (.fn 53))] = [] := Spec.of_res spSymG_inj (l, a, m, b)
theorem spSymG_out  (l : List T) (a : Int) (m : Int) (b : Int) : (spSymG).out [.own 5 (encL l), .d (.one (.int .i64 a)), .d (.one (.int .i64 m)), .d (.one (.int .i64 b)), .d (.one (.fn 53))] = [.own 5 (encL (srtSeg l a.toNat b.toNat)), .gone, .gone, .gone, .gone] := Spec.of_out spSymG_inj (l, a, m, b)
theorem symG_sound : Sound Go.Proofs.Try.prog 75 spSymG := Sound.all (μ := fun i => (i.2.2.2 - i.2.1).toNat) symM_all
end Go.Proofs.Pw
