/- The reference's reader of trees: its small functions. -/
import Derived.Test.YtgpjodcopajlkaaDoorPwT15
import Derived.Test.YtgpjodcopajlkaaDoorPwT10
set_option linter.unusedSimpArgs false
set_option linter.unusedVariables false
set_option linter.unusedSectionVars false
set_option maxRecDepth 20000
namespace Go.Proofs.Pw
variable [Globs]
def x_l1At : X := (.seq (.reg [⟨some 6, none, .mv (.k (.c (.bool false)))⟩] none [0, 1, 2]) (.seq (.reg [⟨some 7, none, .mv (.t 1)⟩, ⟨some 8, none, .bin false .geq (.t 7) (.k (.c (.int .i64 0)))⟩, ⟨some 9, none, .mv (.t 8)⟩, ⟨some 10, some (9, true), .mv (.t 1)⟩, ⟨some 11, some (9, true), .mv (.t 0)⟩, ⟨some 12, some (9, true), .len (.t 11) true⟩, ⟨some 13, some (9, true), .bin false .lss (.t 10) (.t 12)⟩, ⟨some 14, none, .pick (.t 9) (.t 13) (.k (.c (.bool false)))⟩, ⟨some 15, none, .mv (.t 14)⟩, ⟨some 16, some (15, true), .mv (.t 0)⟩, ⟨some 17, some (15, true), .mv (.t 1)⟩, ⟨some 18, some (15, true), .idx (.t 16) (.t 17)⟩, ⟨some 19, some (15, true), .mv (.t 2)⟩, ⟨some 20, some (15, true), .bin false .eql (.t 18) (.t 19)⟩, ⟨some 21, none, .pick (.t 15) (.t 20) (.k (.c (.bool false)))⟩, ⟨some 6, none, .mv (.t 21)⟩] none [6]) .ret))
theorem chk_l1At : chkX Tryd.prog 22 (Tryd.f61.body.getD .skip) x_l1At = true := by kernel_rfl
theorem rs_l1At : okRs Tryd.prog Tryd.f61.results.toList [.tmp 6] = true := by kernel_rfl
theorem call_l1At : okCallee Tryd.prog 61 = true := by kernel_rfl
def x_l1Letters : X := (.seq (.reg [⟨some 4, none, .mv (.k (.c (.int .i64 0)))⟩] none [0, 1]) (.seq (.block 0 (.loop (.seq (.seq (.reg [⟨some 5, none, .mv (.t 1)⟩, ⟨some 6, none, .mv (.t 0)⟩, ⟨some 7, none, .len (.t 6) true⟩, ⟨some 8, none, .bin false .lss (.t 5) (.t 7)⟩, ⟨some 9, none, .mv (.t 8)⟩, ⟨some 10, some (9, true), .mv (.t 0)⟩, ⟨some 11, some (9, true), .mv (.t 1)⟩, ⟨some 12, some (9, true), .idx (.t 10) (.t 11)⟩, ⟨some 13, some (9, true), .bin false .geq (.t 12) (.k (.c (.int .u8 97)))⟩, ⟨some 14, none, .pick (.t 9) (.t 13) (.k (.c (.bool false)))⟩, ⟨some 15, none, .mv (.t 14)⟩, ⟨some 16, some (15, true), .mv (.t 0)⟩, ⟨some 17, some (15, true), .mv (.t 1)⟩, ⟨some 18, some (15, true), .idx (.t 16) (.t 17)⟩, ⟨some 19, some (15, true), .bin false .leq (.t 18) (.k (.c (.int .u8 122)))⟩, ⟨some 20, none, .pick (.t 15) (.t 19) (.k (.c (.bool false)))⟩] none [0, 1, 20]) (.cond (.t 20) .skip (.exit 0))) (.block 1 (.reg [⟨some 21, none, .mv (.t 1)⟩, ⟨some 22, none, .bin false .add (.t 21) (.k (.c (.int .i64 1)))⟩, ⟨some 1, none, .mv (.t 22)⟩] none [0, 1]))))) (.seq (.reg [⟨some 23, none, .mv (.t 1)⟩, ⟨some 4, none, .mv (.t 23)⟩] none [4]) .ret)))
theorem chk_l1Letters : chkX Tryd.prog 24 (Tryd.f73.body.getD .skip) x_l1Letters = true := by kernel_rfl
theorem rs_l1Letters : okRs Tryd.prog Tryd.f73.results.toList [.tmp 4] = true := by kernel_rfl
theorem call_l1Letters : okCallee Tryd.prog 73 = true := by kernel_rfl
def x_l11Num : X := (.seq (.reg [⟨some 2, none, .mv (.k (.c (.int .i64 0)))⟩, ⟨some 3, none, .mv (.k (.c (.bool false)))⟩] none [0]) (.seq (.reg [⟨some 7, none, .mv (.t 0)⟩, ⟨some 8, none, .len (.t 7) true⟩, ⟨some 9, none, .bin false .gtr (.t 8) (.k (.c (.int .i64 0)))⟩, ⟨some 10, none, .mv (.t 9)⟩, ⟨some 11, some (10, true), .mv (.t 0)⟩, ⟨some 12, some (10, true), .idx (.t 11) (.k (.c (.int .i64 0)))⟩, ⟨some 13, some (10, true), .bin false .eql (.t 12) (.k (.c (.int .u8 45)))⟩, ⟨some 14, none, .pick (.t 10) (.t 13) (.k (.c (.bool false)))⟩, ⟨some 4, none, .mv (.t 14)⟩] none [0, 4]) (.seq (.seq (.reg [⟨some 15, none, .mv (.t 4)⟩] none [0, 4, 15]) (.cond (.t 15) (.reg [⟨some 16, none, .mv (.t 0)⟩, ⟨some 17, none, .sub (.t 16) (some (.k (.c (.int .i64 1)))) none 0⟩, ⟨some 0, none, .mv (.t 17)⟩] none [0, 4]) .skip)) (.seq (.seq (.reg [⟨some 18, none, .mv (.t 0)⟩, ⟨some 19, none, .len (.t 18) true⟩, ⟨some 20, none, .bin false .eql (.t 19) (.k (.c (.int .i64 0)))⟩, ⟨some 21, none, .mv (.t 20)⟩, ⟨some 22, some (21, false), .mv (.t 0)⟩, ⟨some 23, some (21, false), .len (.t 22) true⟩, ⟨some 24, some (21, false), .bin false .gtr (.t 23) (.k (.c (.int .i64 17)))⟩, ⟨some 25, none, .pick (.t 21) (.k (.c (.bool true))) (.t 24)⟩, ⟨some 26, none, .mv (.t 25)⟩, ⟨some 27, some (26, false), .mv (.t 0)⟩, ⟨some 28, some (26, false), .idx (.t 27) (.k (.c (.int .i64 0)))⟩, ⟨some 29, some (26, false), .bin false .eql (.t 28) (.k (.c (.int .u8 48)))⟩, ⟨some 30, some (26, false), .mv (.t 29)⟩, ⟨some 31, some (30, true), .mv (.t 0)⟩, ⟨some 32, some (30, true), .len (.t 31) true⟩, ⟨some 33, some (30, true), .bin false .gtr (.t 32) (.k (.c (.int .i64 1)))⟩, ⟨some 34, some (30, true), .mv (.t 33)⟩, ⟨some 35, some (34, false), .mv (.t 4)⟩, ⟨some 36, some (30, true), .pick (.t 34) (.k (.c (.bool true))) (.t 35)⟩, ⟨some 37, some (26, false), .pick (.t 30) (.t 36) (.k (.c (.bool false)))⟩, ⟨some 38, none, .pick (.t 26) (.k (.c (.bool true))) (.t 37)⟩] none [0, 4, 38]) (.cond (.t 38) (.seq (.reg [⟨some 2, none, .mv (.k (.c (.int .i64 0)))⟩, ⟨some 3, none, .mv (.k (.c (.bool false)))⟩] none [2, 3]) .ret) .skip)) (.seq (.reg [⟨some 5, none, .mv (.k (.c (.int .i64 0)))⟩] none [0, 4, 5]) (.seq (.seq (.reg [⟨some 6, none, .mv (.k (.c (.int .i64 0)))⟩] none [0, 4, 5, 6]) (.block 0 (.loop (.seq (.seq (.reg [⟨some 39, none, .mv (.t 6)⟩, ⟨some 40, none, .mv (.t 0)⟩, ⟨some 41, none, .len (.t 40) true⟩, ⟨some 42, none, .bin false .lss (.t 39) (.t 41)⟩] none [0, 4, 5, 6, 42]) (.cond (.t 42) .skip (.exit 0))) (.seq (.block 1 (.seq (.seq (.reg [⟨some 45, none, .mv (.t 0)⟩, ⟨some 46, none, .mv (.t 6)⟩, ⟨some 47, none, .idx (.t 45) (.t 46)⟩, ⟨some 48, none, .bin false .lss (.t 47) (.k (.c (.int .u8 48)))⟩, ⟨some 49, none, .mv (.t 48)⟩, ⟨some 50, some (49, false), .mv (.t 0)⟩, ⟨some 51, some (49, false), .mv (.t 6)⟩, ⟨some 52, some (49, false), .idx (.t 50) (.t 51)⟩, ⟨some 53, some (49, false), .bin false .gtr (.t 52) (.k (.c (.int .u8 57)))⟩, ⟨some 54, none, .pick (.t 49) (.k (.c (.bool true))) (.t 53)⟩] none [0, 4, 5, 6, 54]) (.cond (.t 54) (.seq (.reg [⟨some 2, none, .mv (.k (.c (.int .i64 0)))⟩, ⟨some 3, none, .mv (.k (.c (.bool false)))⟩] none [2, 3]) .ret) .skip)) (.reg [⟨some 55, none, .mv (.t 5)⟩, ⟨some 56, none, .bin false .mul (.t 55) (.k (.c (.int .i64 10)))⟩, ⟨some 57, none, .mv (.t 0)⟩, ⟨some 58, none, .mv (.t 6)⟩, ⟨some 59, none, .idx (.t 57) (.t 58)⟩, ⟨some 60, none, .bin false .sub (.t 59) (.k (.c (.int .u8 48)))⟩, ⟨some 61, none, .conv .i64 (.t 60)⟩, ⟨some 62, none, .bin false .add (.t 56) (.t 61)⟩, ⟨some 5, none, .mv (.t 62)⟩] none [0, 4, 5, 6]))) (.reg [⟨some 43, none, .mv (.t 6)⟩, ⟨some 44, none, .bin false .add (.t 43) (.k (.c (.int .i64 1)))⟩, ⟨some 6, none, .mv (.t 44)⟩] none [0, 4, 5, 6])))))) (.seq (.seq (.reg [⟨some 63, none, .mv (.t 4)⟩] none [5, 63]) (.cond (.t 63) (.reg [⟨some 64, none, .mv (.t 5)⟩, ⟨some 65, none, .bin false .sub (.k (.c (.int .i64 0))) (.t 64)⟩, ⟨some 5, none, .mv (.t 65)⟩] none [5]) .skip)) (.seq (.reg [⟨some 66, none, .mv (.t 5)⟩, ⟨some 2, none, .mv (.t 66)⟩, ⟨some 3, none, .mv (.k (.c (.bool true)))⟩] none [2, 3]) .ret))))))))
theorem chk_l11Num : chkX Tryd.prog 67 (Tryd.f91.body.getD .skip) x_l11Num = true := by kernel_rfl
theorem rs_l11Num : okRs Tryd.prog Tryd.f91.results.toList [.tmp 2, .tmp 3] = true := by kernel_rfl
theorem call_l11Num : okCallee Tryd.prog 91 = true := by kernel_rfl
def x_l1Word : X := (.seq (.reg [⟨some 4, none, .alloc [(.c (.int .i64 0)), (.c (.int .i64 0)), (.c (.str ⟨#[]⟩)), (.z 1), (.z 5)]⟩, ⟨some 5, none, .mv (.k (.c (.int .i64 0)))⟩] none [0, 1, 4]) (.seq (.reg [⟨some 7, none, .mv (.t 0)⟩, ⟨some 8, none, .mv (.t 1)⟩, ⟨some 9, none, .call 73 [(.t 7), (.t 8)]⟩, ⟨some 6, none, .mv (.t 9)⟩] none [0, 1, 4, 6]) (.seq (.seq (.reg [⟨some 10, none, .mv (.t 0)⟩, ⟨some 11, none, .mv (.t 1)⟩, ⟨some 12, none, .mv (.t 6)⟩, ⟨some 13, none, .sub (.t 10) (some (.t 11)) (some (.t 12)) 0⟩] none [4, 6, 13]) (.block 0 (.seq (.reg [⟨some 15, none, .bin false .eql (.t 13) (.k (.c (.str ⟨#[110, 117, 108, 108]⟩)))⟩, ⟨some 14, none, .mv (.t 15)⟩] none [4, 6, 13, 14]) (.cond (.t 14) (.seq (.reg [⟨some 16, none, .build [(.c (.int .i64 0)), (.c (.int .i64 0)), (.c (.str ⟨#[]⟩)), (.z 1), (.z 5)] []⟩, ⟨some 17, none, .mv (.t 6)⟩, ⟨none, none, .st (.t 4) (.t 16) (some 5)⟩, ⟨some 5, none, .mv (.t 17)⟩] none [4, 5]) .ret) (.seq (.reg [⟨some 19, none, .bin false .eql (.t 13) (.k (.c (.str ⟨#[102, 97, 108, 115, 101]⟩)))⟩, ⟨some 18, none, .mv (.t 19)⟩] none [4, 6, 13, 18]) (.cond (.t 18) (.seq (.reg [⟨some 20, none, .build [(.c (.int .i64 0)), (.c (.int .i64 0)), (.c (.str ⟨#[]⟩)), (.z 1), (.z 5)] [(0, (.k (.c (.int .i64 1))), none)]⟩, ⟨some 21, none, .mv (.t 6)⟩, ⟨none, none, .st (.t 4) (.t 20) (some 5)⟩, ⟨some 5, none, .mv (.t 21)⟩] none [4, 5]) .ret) (.seq (.reg [⟨some 23, none, .bin false .eql (.t 13) (.k (.c (.str ⟨#[116, 114, 117, 101]⟩)))⟩, ⟨some 22, none, .mv (.t 23)⟩] none [4, 6, 22]) (.cond (.t 22) (.seq (.reg [⟨some 24, none, .build [(.c (.int .i64 0)), (.c (.int .i64 0)), (.c (.str ⟨#[]⟩)), (.z 1), (.z 5)] [(0, (.k (.c (.int .i64 2))), none)]⟩, ⟨some 25, none, .mv (.t 6)⟩, ⟨none, none, .st (.t 4) (.t 24) (some 5)⟩, ⟨some 5, none, .mv (.t 25)⟩] none [4, 5]) .ret) .skip)))))))) (.seq (.reg [⟨some 26, none, .build [(.c (.int .i64 0)), (.c (.int .i64 0)), (.c (.str ⟨#[]⟩)), (.z 1), (.z 5)] []⟩, ⟨none, none, .st (.t 4) (.t 26) (some 5)⟩, ⟨some 5, none, .mv (.k (.c (.int .i64 (-1))))⟩] none [4, 5]) .ret))))
theorem chk_l1Word : chkX Tryd.prog 27 (Tryd.f74.body.getD .skip) x_l1Word = true := by kernel_rfl
theorem rs_l1Word : okRs Tryd.prog Tryd.f74.results.toList [.cell 4 (some 5), .tmp 5] = true := by kernel_rfl
theorem call_l1Word : okCallee Tryd.prog 74 = true := by kernel_rfl
def x_l1Num : X := (.seq (.reg [⟨some 4, none, .alloc [(.c (.int .i64 0)), (.c (.int .i64 0)), (.c (.str ⟨#[]⟩)), (.z 1), (.z 5)]⟩, ⟨some 5, none, .mv (.k (.c (.int .i64 0)))⟩] none [0, 1, 4]) (.seq (.reg [⟨some 9, none, .mv (.t 1)⟩, ⟨some 6, none, .mv (.t 9)⟩] none [0, 1, 4, 6]) (.seq (.seq (.reg [⟨some 10, none, .mv (.t 0)⟩, ⟨some 11, none, .mv (.t 6)⟩, ⟨some 12, none, .call 61 [(.t 10), (.t 11), (.k (.c (.int .u8 45)))]⟩] none [0, 1, 4, 6, 12]) (.cond (.t 12) (.reg [⟨some 13, none, .mv (.t 6)⟩, ⟨some 14, none, .bin false .add (.t 13) (.k (.c (.int .i64 1)))⟩, ⟨some 6, none, .mv (.t 14)⟩] none [0, 1, 4, 6]) .skip)) (.seq (.block 0 (.loop (.seq (.seq (.reg [⟨some 15, none, .mv (.t 6)⟩, ⟨some 16, none, .mv (.t 0)⟩, ⟨some 17, none, .len (.t 16) true⟩, ⟨some 18, none, .bin false .lss (.t 15) (.t 17)⟩, ⟨some 19, none, .mv (.t 18)⟩, ⟨some 20, some (19, true), .mv (.t 0)⟩, ⟨some 21, some (19, true), .mv (.t 6)⟩, ⟨some 22, some (19, true), .idx (.t 20) (.t 21)⟩, ⟨some 23, some (19, true), .bin false .geq (.t 22) (.k (.c (.int .u8 48)))⟩, ⟨some 24, none, .pick (.t 19) (.t 23) (.k (.c (.bool false)))⟩, ⟨some 25, none, .mv (.t 24)⟩, ⟨some 26, some (25, true), .mv (.t 0)⟩, ⟨some 27, some (25, true), .mv (.t 6)⟩, ⟨some 28, some (25, true), .idx (.t 26) (.t 27)⟩, ⟨some 29, some (25, true), .bin false .leq (.t 28) (.k (.c (.int .u8 57)))⟩, ⟨some 30, none, .pick (.t 25) (.t 29) (.k (.c (.bool false)))⟩] none [0, 1, 4, 6, 30]) (.cond (.t 30) .skip (.exit 0))) (.block 1 (.reg [⟨some 31, none, .mv (.t 6)⟩, ⟨some 32, none, .bin false .add (.t 31) (.k (.c (.int .i64 1)))⟩, ⟨some 6, none, .mv (.t 32)⟩] none [0, 1, 4, 6]))))) (.seq (.reg [⟨some 34, none, .mv (.t 0)⟩, ⟨some 35, none, .mv (.t 1)⟩, ⟨some 36, none, .mv (.t 6)⟩, ⟨some 37, none, .sub (.t 34) (some (.t 35)) (some (.t 36)) 0⟩, ⟨some 38, none, .call 91 [(.t 37)]⟩, ⟨some 33, none, .mv (.t 38)⟩, ⟨some 39, none, .ext (.t 33) 0⟩, ⟨some 40, none, .ext (.t 33) 1⟩, ⟨some 7, none, .mv (.t 39)⟩, ⟨some 8, none, .mv (.t 40)⟩] none [4, 6, 7, 8]) (.seq (.seq (.reg [⟨some 41, none, .mv (.t 8)⟩, ⟨some 42, none, .not (.t 41)⟩] none [4, 6, 7, 42]) (.cond (.t 42) (.seq (.reg [⟨some 43, none, .build [(.c (.int .i64 0)), (.c (.int .i64 0)), (.c (.str ⟨#[]⟩)), (.z 1), (.z 5)] []⟩, ⟨none, none, .st (.t 4) (.t 43) (some 5)⟩, ⟨some 5, none, .mv (.k (.c (.int .i64 (-1))))⟩] none [4, 5]) .ret) .skip)) (.seq (.reg [⟨some 44, none, .mv (.t 7)⟩, ⟨some 45, none, .build [(.c (.int .i64 0)), (.c (.int .i64 0)), (.c (.str ⟨#[]⟩)), (.z 1), (.z 5)] [(0, (.k (.c (.int .i64 3))), none), (1, (.t 44), none)]⟩, ⟨some 46, none, .mv (.t 6)⟩, ⟨none, none, .st (.t 4) (.t 45) (some 5)⟩, ⟨some 5, none, .mv (.t 46)⟩] none [4, 5]) .ret)))))))
theorem chk_l1Num : chkX Tryd.prog 47 (Tryd.f75.body.getD .skip) x_l1Num = true := by kernel_rfl
theorem rs_l1Num : okRs Tryd.prog Tryd.f75.results.toList [.cell 4 (some 5), .tmp 5] = true := by kernel_rfl
theorem call_l1Num : okCallee Tryd.prog 75 = true := by kernel_rfl
theorem atB_yes {l : List UInt8} {a : Nat} {c x : UInt8} (h : l[a]? = some x) : atB l a c = decide (x = c) := by
 unfold atB; rw [h]
 by_cases e : x = c
 ·subst e; simp
 ·simp [e]
theorem atB_past {l : List UInt8} {a : Nat} {c : UInt8} (h : l.length <= a) : atB l a c = false := by
 unfold atB; rw [List.getElem?_eq_none h]; rfl
theorem u8_eq (x : UInt8) (c : Int) (h : 0 <= c /\ c <= 255) : ((x.toNat : Int) = c) = (x = c.toNat.toUInt8) := propext (by
 constructor
 ·intro e
  have : c.toNat = x.toNat := by omega
  rw [this]; simp
 ·intro e
  have h2 : (c.toNat.toUInt8).toNat = c.toNat := by
   rw [Nat.toUInt8, UInt8.toNat_ofNat']
   omega
  rw [e, h2]; omega)
noncomputable def spAtB  : Spec := Spec.of (ι := ByteArray × Int × Int) [false, false, false] (fun i => [.d (.one (.str i.1)), .d (.one (.int .i64 i.2.1)), .d (.one (.int .u8 i.2.2))]) (fun i => lenB 1000000 i.1.size /\ 0 <= i.2.1 /\ 0 <= i.2.2 /\ i.2.2 <= 255) (fun i => [.d (.one (.bool (atB (tL i.1) i.2.1.toNat i.2.2.toNat.toUInt8)))]) (fun _ => [.gone, .gone, .gone])
theorem spAtB_inj : ∀ i j : ByteArray × Int × Int, (fun (i : ByteArray × Int × Int) => ([.d (.one (.str i.1)), .d (.one (.int .i64 i.2.1)), .d (.one (.int .u8 i.2.2))] : List AV)) i = (fun (i : ByteArray × Int × Int) => ([.d (.one (.str i.1)), .d (.one (.int .i64 i.2.1)), .d (.one (.int .u8 i.2.2))] : List AV)) j -> i = j := by
 rintro ⟨s, a, c⟩ ⟨s', a', c'⟩ h
 simp only [Prod.mk.injEq]
 simpa [strs_eq, T.enc_eq, encL_eq, F.enc_eq, encF_eq, Tk.enc_eq, encTk_eq, Gn.enc_eq, ints_eq, Int.natCast_inj] using h
theorem spAtB_md  : (spAtB).md = [false, false, false] := rfl
theorem spAtB_pre  (s : ByteArray) (a : Int) (c : Int) : (spAtB).pre [.d (.one (.str s)), .d (.one (.int .i64 a)), .d (.one (.int .u8 c))] = (lenB 1000000 s.size /\ 0 <= a /\ 0 <= c /\ c <= 255) := Spec.of_pre' spAtB_inj (s, a, c)
theorem spAtB_alts  : (spAtB).alts = none := rfl
theorem spAtB_res  (s : ByteArray) (a : Int) (c : Int) : (spAtB).res [.d (.one (.str s)), .d (.one (.int .i64 a)), .d (.one (.int .u8 c))] = [.d (.one (.bool (atB (tL s) a.toNat c.toNat.toUInt8)))] := Spec.of_res spAtB_inj (s, a, c)
theorem spAtB_out  (s : ByteArray) (a : Int) (c : Int) : (spAtB).out [.d (.one (.str s)), .d (.one (.int .i64 a)), .d (.one (.int .u8 c))] = [.gone, .gone, .gone] := Spec.of_out spAtB_inj (s, a, c)
theorem atB_sound : Sound Tryd.prog 61 spAtB := by
 refine sound_fam GOK.nil Tryd.func61 (c := Tryd.f61.body.getD .skip) rfl (n := 22) rfl chk_l1At rs_l1At (fun _ => by simp) ?_ ?_
 ·exact spAtB_inj
 ·rintro ⟨s, a, c⟩ ⟨h1, h2, h3, h4⟩
  simp only [lenB] at h1 h2 h3 h4
  have a0 : (0 <= a) = True := eq_true h2
  rcases Nat.lt_or_ge a.toNat s.size with hlt | hge
  ·obtain ⟨x, b1, b2, _, _⟩ := tL_at hlt
   have a1 : (a < (s.size : Int)) = True := eq_true (by omega)
   have b3 := atB_yes (c := c.toNat.toUInt8) b1
   have b4 := u8_eq x c ⟨h3, h4⟩
   simp only [x_l1At, rg, go_sem, seval, Prod.fst, a0, a1, b2, b3, b4]
   repeat' (first | with_reducible assumption | with_reducible refine And.intro ?_ ?_ | intro _)
   all_goals first | omega | skip
  ·have a1 : (a < (s.size : Int)) = False := eq_false (by omega)
   have b3 := atB_past (l := tL s) (a := a.toNat) (c := c.toNat.toUInt8) (by rw [tL_len]; exact hge)
   simp only [x_l1At, rg, go_sem, seval, Prod.fst, a0, a1, b3]
   repeat' (first | with_reducible assumption | with_reducible refine And.intro ?_ ?_ | intro _)
   all_goals first | omega | skip
theorem spanE_stop {p : UInt8 -> Bool} {l : List UInt8} {a : Nat} (h : l.length <= a \/ ∃ c r, l.drop a = c :: r /\ p c = false) : spanE p l a = a := by
 unfold spanE
 rcases h with h | ⟨c, r, h1, h2⟩
 ·rw [List.drop_eq_nil_of_le h]; rfl
 ·rw [h1, List.takeWhile_cons_of_neg (by rw [h2]; simp)]; rfl
theorem spanE_go {p : UInt8 -> Bool} {l : List UInt8} {a : Nat} {c : UInt8} (h1 : l.drop a = c :: l.drop (a + 1)) (h2 : p c = true) : spanE p l a = spanE p l (a + 1) := by
 unfold spanE
 rw [h1, List.takeWhile_cons_of_pos h2, List.length_cons]; omega
noncomputable def spLetters  : Spec := Spec.of (ι := ByteArray × Nat) [false, false] (fun i => [.d (.one (.str i.1)), .d (.one (.int .i64 (i.2 : Int)))]) (fun i => lenB 1000000 i.1.size /\ i.2 <= i.1.size) (fun i => [.d (.one (.int .i64 (spanE ltrB (tL i.1) i.2 : Int)))]) (fun _ => [.gone, .gone])
theorem spLetters_inj : ∀ i j : ByteArray × Nat, (fun (i : ByteArray × Nat) => ([.d (.one (.str i.1)), .d (.one (.int .i64 (i.2 : Int)))] : List AV)) i = (fun (i : ByteArray × Nat) => ([.d (.one (.str i.1)), .d (.one (.int .i64 (i.2 : Int)))] : List AV)) j -> i = j := by
 rintro ⟨s, a⟩ ⟨s', a'⟩ h
 simp only [Prod.mk.injEq]
 simpa [strs_eq, T.enc_eq, encL_eq, F.enc_eq, encF_eq, Tk.enc_eq, encTk_eq, Gn.enc_eq, ints_eq, Int.natCast_inj] using h
theorem spLetters_md  : (spLetters).md = [false, false] := rfl
theorem spLetters_pre  (s : ByteArray) (a : Nat) : (spLetters).pre [.d (.one (.str s)), .d (.one (.int .i64 (a : Int)))] = (lenB 1000000 s.size /\ a <= s.size) := Spec.of_pre' spLetters_inj (s, a)
theorem spLetters_alts  : (spLetters).alts = none := rfl
theorem spLetters_res  (s : ByteArray) (a : Nat) : (spLetters).res [.d (.one (.str s)), .d (.one (.int .i64 (a : Int)))] = [.d (.one (.int .i64 (spanE ltrB (tL s) a : Int)))] := Spec.of_res spLetters_inj (s, a)
theorem spLetters_out  (s : ByteArray) (a : Nat) : (spLetters).out [.d (.one (.str s)), .d (.one (.int .i64 (a : Int)))] = [.gone, .gone] := Spec.of_out spLetters_inj (s, a)
theorem letters_sound : Sound Tryd.prog 73 spLetters := by
 refine sound_fam GOK.nil Tryd.func73 (c := Tryd.f73.body.getD .skip) rfl (n := 24) rfl chk_l1Letters rs_l1Letters (fun _ => by simp) ?_ ?_
 ·exact spLetters_inj
 ·rintro ⟨s, a⟩ ⟨h1, h2⟩
  simp only [lenB] at h1 h2
  have hl := tL_len s
  simp only [x_l1Letters, rg, go_sem, seval, Prod.fst]
  repeat' (first | with_reducible assumption | with_reducible refine And.intro ?_ ?_ | intro _)
  all_goals first | omega | skip
  refine pw_loop (ι := Nat) (fun i => s.size - i) (fun i => i <= s.size /\ spanE ltrB (tL s) i = spanE ltrB (tL s) a)
   (fun i => ⟨[(0, .q (.c (.str s))), (1, .q (.c (.int .i64 (i : Int))))], [], []⟩) a ⟨h2, rfl⟩ (Le.sub (by simp) (by simp) (by simp)) ?_
  rintro i ⟨g1, g2⟩
  rcases Nat.lt_or_ge i s.size with hlt | hge
  ·obtain ⟨x, b1, b2, _, b4⟩ := tL_at hlt
   have a1 : ((i : Int) < (s.size : Int)) = True := eq_true (by omega)
   by_cases hx : ltrB x = true
   ·have hx' := hx
    unfold ltrB at hx'
    simp only [decide_eq_true_eq] at hx'
    have a2 : ((97 : Int) <= x.toNat) = True := eq_true (by omega)
    have a3 : ((x.toNat : Int) <= 122) = True := eq_true (by omega)
    simp only [rg, go_sem, seval, Prod.fst, a1, b2, a2, a3, Int.toNat_natCast]
    repeat' (first | with_reducible assumption | with_reducible refine And.intro ?_ ?_ | intro _)
    all_goals first | omega | skip
    exact ⟨i + 1, ⟨by omega, by rw [<- spanE_go b4 hx]; exact g2⟩, by omega, Le.sub (by simp) (by simp) (by simp)⟩
   ·have hx' : ltrB x = false := by simpa using hx
    have a5 := spanE_stop (p := ltrB) (l := tL s) (a := i) (.inr ⟨x, _, b4, hx'⟩)
    rw [g2] at a5
    unfold ltrB at hx'
    simp only [decide_eq_false_iff_not] at hx'
    by_cases hx2 : 97 <= x.toNat
    ·have a2 : ((97 : Int) <= x.toNat) = True := eq_true (by omega)
     have a3 : ((x.toNat : Int) <= 122) = False := eq_false (by omega)
     simp only [rg, go_sem, seval, Prod.fst, a1, b2, a2, a3, a5, Int.toNat_natCast]
     repeat' (first | with_reducible assumption | with_reducible refine And.intro ?_ ?_ | intro _)
     all_goals first | omega | skip
    ·have a2 : ((97 : Int) <= x.toNat) = False := eq_false (by omega)
     simp only [rg, go_sem, seval, Prod.fst, a1, b2, a2, a5, Int.toNat_natCast]
     repeat' (first | with_reducible assumption | with_reducible refine And.intro ?_ ?_ | intro _)
     all_goals first | omega | skip
  ·have a1 : ((i : Int) < (s.size : Int)) = False := eq_false (by omega)
   have a5 := spanE_stop (p := ltrB) (l := tL s) (a := i) (.inl (by omega))
   rw [g2] at a5
   simp only [rg, go_sem, seval, Prod.fst, a1, a5, Int.toNat_natCast]
   repeat' (first | with_reducible assumption | with_reducible refine And.intro ?_ ?_ | intro _)
   all_goals first | omega | skip
theorem dv_take {m : List UInt8} {i : Nat} {x : UInt8} (h : m[i]? = some x) : dv (m.take (i + 1)) = dv (m.take i) * 10 + (x.toNat - 48) := by
 rw [List.take_add_one, h]
 exact dv_snoc _ _
theorem dig_mem {m : List UInt8} {i : Nat} {x : UInt8} (h : m[i]? = some x) : x ∈ m := List.mem_of_getElem? h
theorem numR_neg {s : List UInt8} (h : s.head? = some 45) : numR s = if numOk true s.tail then some (-(dv s.tail : Int)) else none := by
 unfold numR; rw [if_pos h]
theorem numR_pos {s : List UInt8} (h : s.head? ≠ some 45) : numR s = if numOk false s then some (dv s : Int) else none := by
 unfold numR; rw [if_neg h]
theorem head_at {l : List UInt8} {x : UInt8} (h : l[0]? = some x) : l.head? = some x := by rw [List.head?_eq_getElem?]; exact h
noncomputable def spNum11  : Spec := Spec.of (ι := ByteArray) [false] (fun i => [.d (.one (.str i))]) (fun i => lenB 1000000 i.size) (fun i => [.d (.one (.int .i64 ((numR (tL i)).getD 0))), .d (.one (.bool (numR (tL i)).isSome))]) (fun _ => [.gone])
theorem spNum11_inj : ∀ i j : ByteArray, (fun (i : ByteArray) => ([.d (.one (.str i))] : List AV)) i = (fun (i : ByteArray) => ([.d (.one (.str i))] : List AV)) j -> i = j := by
 intro s s' h
 simpa [strs_eq, T.enc_eq, encL_eq, F.enc_eq, encF_eq, Tk.enc_eq, encTk_eq, Gn.enc_eq, ints_eq, Int.natCast_inj] using h
theorem spNum11_md  : (spNum11).md = [false] := rfl
theorem spNum11_pre  (s : ByteArray) : (spNum11).pre [.d (.one (.str s))] = (lenB 1000000 s.size) := Spec.of_pre' spNum11_inj s
theorem spNum11_alts  : (spNum11).alts = none := rfl
theorem spNum11_res  (s : ByteArray) : (spNum11).res [.d (.one (.str s))] = [.d (.one (.int .i64 ((numR (tL s)).getD 0))), .d (.one (.bool (numR (tL s)).isSome))] := Spec.of_res spNum11_inj s
theorem spNum11_out  (s : ByteArray) : (spNum11).out [.d (.one (.str s))] = [.gone] := Spec.of_out spNum11_inj s
set_option maxHeartbeats 2000000 in
theorem num11_sound : Sound Tryd.prog 91 spNum11 := by
 refine sound_fam GOK.nil Tryd.func91 (c := Tryd.f91.body.getD .skip) rfl (n := 67) rfl chk_l11Num rs_l11Num (fun _ => by simp) ?_ ?_
 ·exact spNum11_inj
 ·intro s h1
  simp only [lenB] at h1
  have hl := tL_len s
  rcases Nat.eq_zero_or_pos s.size with h0 | hpos
  ·have a0 : ((0 : Int) < (s.size : Int)) = False := eq_false (by omega)
   have a1 : ((s.size : Int) = 0) = True := eq_true (by omega)
   have hs : tL s = [] := List.eq_nil_of_length_eq_zero (by omega)
   have e : numR (tL s) = none := by
    rw [hs, numR_pos (by simp), if_neg (fun k => k.1 rfl)]
   simp only [x_l11Num, rg, go_sem, seval, Prod.fst, a0, a1, e, Option.getD_none, Option.isSome_none]
   repeat' (first | with_reducible assumption | with_reducible refine And.intro ?_ ?_ | intro _)
   all_goals first | omega | skip
  have a0 : ((0 : Int) < (s.size : Int)) = True := eq_true (by omega)
  obtain ⟨x, b1, b2, _, b4⟩ := tL_at hpos
  have hh := head_at b1
  by_cases c0 : x = 45
  ·subst c0
   have d1 : ((45 : UInt8).toNat : Int) = 45 := rfl
   have hR := numR_neg hh
   have hm : tL (s.extract 1 s.size) = (tL s).tail := by rw [ext_tl]; simp
   have hz : (s.extract 1 s.size).size = s.size - 1 := by rw [<- tL_len, hm, List.length_tail, hl]
   have hmin : Min.min s.size s.size - 1 = s.size - 1 := by omega
   generalize hg : s.extract 1 s.size = m at *
   rw [<- hm] at hR
   have hlm := tL_len m
   rw [hz] at hlm
   by_cases c1 : s.size - 1 = 0
   ·have a1 : ((m.size : Int) = 0) = True := eq_true (by omega)
    have hn : tL m = [] := List.eq_nil_of_length_eq_zero (by omega)
    rw [if_neg (fun k => k.1 hn)] at hR
    simp only [x_l11Num, rg, go_sem, seval, Prod.fst, a0, b2, d1, hg, a1, hR, Option.getD_none, Option.isSome_none]
    repeat' (first | with_reducible assumption | with_reducible refine And.intro ?_ ?_ | intro _)
    all_goals first | omega | skip
   have a1 : ((m.size : Int) = 0) = False := eq_false (by omega)
   by_cases c2 : 17 < s.size - 1
   ·have a2 : ((17 : Int) < (m.size : Int)) = True := eq_true (by omega)
    rw [if_neg (fun k => by have := k.2.1; omega)] at hR
    simp only [x_l11Num, rg, go_sem, seval, Prod.fst, a0, b2, d1, hg, a1, a2, hR, Option.getD_none, Option.isSome_none]
    repeat' (first | with_reducible assumption | with_reducible refine And.intro ?_ ?_ | intro _)
    all_goals first | omega | skip
   have a2 : ((17 : Int) < (m.size : Int)) = False := eq_false (by omega)
   obtain ⟨y, e1, e2, _, e4⟩ := tL_at (s := m) (i := 0) (by omega)
   by_cases c3 : y = 48
   ·subst c3
    have d2 : ((48 : UInt8).toNat : Int) = 48 := rfl
    rw [if_neg (fun k => k.2.2.1 ⟨head_at e1, .inr rfl⟩)] at hR
    by_cases c4 : 1 < s.size - 1
    ·have a3 : ((1 : Int) < (m.size : Int)) = True := eq_true (by omega)
     simp only [x_l11Num, rg, go_sem, seval, Prod.fst, a0, b2, d1, hg, a1, a2, e2, d2, a3, hR, Option.getD_none, Option.isSome_none]
     repeat' (first | with_reducible assumption | with_reducible refine And.intro ?_ ?_ | intro _)
     all_goals first | omega | skip
    ·have a3 : ((1 : Int) < (m.size : Int)) = False := eq_false (by omega)
     simp only [x_l11Num, rg, go_sem, seval, Prod.fst, a0, b2, d1, hg, a1, a2, e2, d2, a3, hR, Option.getD_none, Option.isSome_none]
     repeat' (first | with_reducible assumption | with_reducible refine And.intro ?_ ?_ | intro _)
     all_goals first | omega | skip
   have a4 : ((y.toNat : Int) = 48) = False := eq_false (fun e => c3 (UInt8.toNat_inj.1 (by have : (48 : UInt8).toNat = 48 := rfl; omega)))
   have hN : (∀ b ∈ tL m, dgtB b = true) -> numOk true (tL m) := fun k => ⟨fun e => by rw [e] at hlm; simp at hlm; omega, by omega, fun k => by rw [head_at e1] at k; exact c3 (Option.some.inj k.1), k⟩
   simp only [x_l11Num, rg, go_sem, seval, Prod.fst, a0, b2, d1, hg, a1, a2, e2, a4]
   repeat' (first | with_reducible assumption | with_reducible refine And.intro ?_ ?_ | intro _)
   all_goals first | omega | skip
   refine pw_loop (ι := Nat) (fun i => m.size - i) (fun i => i <= m.size /\ ∀ b ∈ (tL m).take i, dgtB b = true)
    (fun i => ⟨[(0, .q (.c (.str m))), (4, .q (.c (.bool true))), (5, .q (.c (.int .i64 (dv ((tL m).take i) : Int)))), (6, .q (.c (.int .i64 (i : Int))))], [], []⟩) 0 ⟨Nat.zero_le _, by simp⟩ (Le.sub (by simp [dv]) (by simp) (by simp)) ?_
   rintro i ⟨g1, g2⟩
   have hd := dv_lt ((tL m).take i) g2
   have hp : 10 ^ ((tL m).take i).length <= 10 ^ 17 := Nat.pow_le_pow_right (by omega) (by rw [List.length_take]; omega)
   rcases Nat.lt_or_ge i m.size with hlt | hge
   ·obtain ⟨z, k1, k2, _, k4⟩ := tL_at hlt
    have a5 : ((i : Int) < (m.size : Int)) = True := eq_true (by omega)
    have hz2 : z.toNat < 256 := UInt8.toNat_lt z
    have k5 := dv_take k1
    have hp2 : i < 17 -> 10 ^ ((tL m).take i).length <= 10 ^ 16 := fun hi => Nat.pow_le_pow_right (by omega) (by rw [List.length_take]; omega)
    have hp3 := hp2 (by omega)
    by_cases c5 : z.toNat < 48
    ·have a6 : ((z.toNat : Int) < 48) = True := eq_true (by omega)
     rw [if_neg (fun k => by have := k.2.2.2 z (dig_mem k1); unfold dgtB at this; simp at this; omega)] at hR
     simp only [rg, go_sem, seval, Prod.fst, a5, k2, a6, hR, Int.toNat_natCast, Option.getD_none, Option.isSome_none]
     repeat' (first | with_reducible assumption | with_reducible refine And.intro ?_ ?_ | intro _)
     all_goals first | omega | skip
    have a6 : ((z.toNat : Int) < 48) = False := eq_false (by omega)
    by_cases c6 : 57 < z.toNat
    ·have a7 : ((57 : Int) < (z.toNat : Int)) = True := eq_true (by omega)
     rw [if_neg (fun k => by have := k.2.2.2 z (dig_mem k1); unfold dgtB at this; simp at this; omega)] at hR
     simp only [rg, go_sem, seval, Prod.fst, a5, k2, a6, a7, hR, Int.toNat_natCast, Option.getD_none, Option.isSome_none]
     repeat' (first | with_reducible assumption | with_reducible refine And.intro ?_ ?_ | intro _)
     all_goals first | omega | skip
    have a7 : ((57 : Int) < (z.toNat : Int)) = False := eq_false (by omega)
    simp only [rg, go_sem, seval, Prod.fst, a5, k2, a6, a7, Int.toNat_natCast]
    repeat' (first | with_reducible assumption | with_reducible refine And.intro ?_ ?_ | intro _)
    all_goals first | omega | skip
    refine ⟨i + 1, ⟨by omega, fun b hb => ?_⟩, by omega, Le.sub (by
     have k6 : ((dv ((tL m).take (i + 1)) : Nat) : Int) = (dv ((tL m).take i) : Int) * 10 + ((z.toNat : Int) - 48) := by rw [k5]; omega
     simp [k6]) (by simp) (by simp)⟩
    rw [List.take_add_one, k1] at hb
    rcases List.mem_append.1 hb with hb | hb
    ·exact g2 b hb
    ·simp only [Option.toList_some, List.mem_singleton] at hb
     subst hb; unfold dgtB; simp; omega
   ·have a5 : ((i : Int) < (m.size : Int)) = False := eq_false (by omega)
    have k0 : (tL m).take i = tL m := List.take_of_length_le (by omega)
    rw [k0] at g2 hd hp
    rw [if_pos (hN g2)] at hR
    simp only [rg, go_sem, seval, Prod.fst, a5, k0, hR, Option.getD_some, Option.isSome_some]
    repeat' (first | with_reducible assumption | with_reducible refine And.intro ?_ ?_ | intro _)
    all_goals first | omega | skip
  ·have d1 : ((x.toNat : Int) = 45) = False := eq_false (fun e => c0 (UInt8.toNat_inj.1 (by have : (45 : UInt8).toNat = 45 := rfl; omega)))
   have hR := numR_pos (s := tL s) (by rw [hh]; intro e; exact c0 (Option.some.inj e))
   have a1 : ((s.size : Int) = 0) = False := eq_false (by omega)
   by_cases c2 : 17 < s.size
   ·have a2 : ((17 : Int) < (s.size : Int)) = True := eq_true (by omega)
    rw [if_neg (fun k => by have := k.2.1; omega)] at hR
    simp only [x_l11Num, rg, go_sem, seval, Prod.fst, a0, b2, d1, a1, a2, hR, Option.getD_none, Option.isSome_none]
    repeat' (first | with_reducible assumption | with_reducible refine And.intro ?_ ?_ | intro _)
    all_goals first | omega | skip
   have a2 : ((17 : Int) < (s.size : Int)) = False := eq_false (by omega)
   by_cases c3 : x = 48 /\ 1 < s.size
   ·obtain ⟨rfl, c4⟩ := c3
    have d2 : ((48 : UInt8).toNat : Int) = 48 := rfl
    have d3 : ((48 : Int) = 45) = False := eq_false (by omega)
    rw [if_neg (fun k => k.2.2.1 ⟨hh, .inl (by omega)⟩)] at hR
    have a3 : ((1 : Int) < (s.size : Int)) = True := eq_true (by omega)
    simp only [x_l11Num, rg, go_sem, seval, Prod.fst, a0, b2, d2, d3, a1, a2, a3, hR, Option.getD_none, Option.isSome_none]
    repeat' (first | with_reducible assumption | with_reducible refine And.intro ?_ ?_ | intro _)
    all_goals first | omega | skip
   have hN0 : ¬ ((tL s).head? = some 48 /\ (1 < (tL s).length \/ false = true)) := fun k => by
    rw [hh] at k
    rcases k.2 with k2 | k2
    ·exact c3 ⟨Option.some.inj k.1, by omega⟩
    ·cases k2
   have hN : (∀ b ∈ tL s, dgtB b = true) -> numOk false (tL s) := fun k => ⟨fun e => by rw [e] at hl; simp at hl; omega, by omega, hN0, k⟩
   have key : ∀ i, i <= s.size -> (∀ b ∈ (tL s).take i, dgtB b = true) -> dv ((tL s).take i) < 100000000000000000 /\ (i < s.size -> dv ((tL s).take i) < 10000000000000000) := fun i hi k => by
    have hd := dv_lt ((tL s).take i) k
    have hp : 10 ^ ((tL s).take i).length <= 10 ^ 17 := Nat.pow_le_pow_right (by omega) (by rw [List.length_take]; omega)
    refine ⟨by omega, fun hlt => ?_⟩
    have hp : 10 ^ ((tL s).take i).length <= 10 ^ 16 := Nat.pow_le_pow_right (by omega) (by rw [List.length_take]; omega)
    omega
   by_cases c4 : x = 48
   ·have c5 : ¬ 1 < s.size := fun k => c3 ⟨c4, k⟩
    subst c4
    have d2 : ((48 : UInt8).toNat : Int) = 48 := rfl
    have d3 : ((48 : Int) = 45) = False := eq_false (by omega)
    have a3 : ((1 : Int) < (s.size : Int)) = False := eq_false (by omega)
    have hs : tL s = [48] := by
     have e5 : (tL s).length = 1 := by omega
     match ht : tL s, e5 with
     | [w], _ => rw [ht] at b1; simp at b1; rw [b1]
    have hR2 : numR (tL s) = some 0 := by
     rw [hR, if_pos (hN (by rw [hs]; intro b hb; simp at hb; subst hb; rfl)), hs]; rfl
    simp only [x_l11Num, rg, go_sem, seval, Prod.fst, a0, b2, d2, d3, a1, a2, a3, hR2]
    repeat' (first | with_reducible assumption | with_reducible refine And.intro ?_ ?_ | intro _)
    all_goals first | omega | skip
    refine pw_loop (ι := Nat) (fun i => 1 - i) (fun i => i <= 1)
     (fun i => ⟨[(0, .q (.c (.str s))), (4, .q (.c (.bool false))), (5, .q (.c (.int .i64 0))), (6, .q (.c (.int .i64 (i : Int))))], [], []⟩) 0 (by omega) (Le.sub (by simp) (by simp) (by simp)) ?_
    intro i hi
    rcases Nat.lt_or_ge i 1 with hlt | hge
    ·have : i = 0 := by omega
     subst this
     have a5 : ((0 : Int) < (s.size : Int)) = True := eq_true (by omega)
     simp only [rg, go_sem, seval, Prod.fst, a5, b2, d2, Int.toNat_natCast]
     repeat' (first | with_reducible assumption | with_reducible refine And.intro ?_ ?_ | intro _)
     all_goals first | omega | skip
     exact ⟨1, by omega, by omega, Le.sub (by simp) (by simp) (by simp)⟩
    ·have a5 : ((i : Int) < (s.size : Int)) = False := eq_false (by omega)
     simp only [rg, go_sem, seval, Prod.fst, a5, Option.getD_some, Option.isSome_some]
     repeat' (first | with_reducible assumption | with_reducible refine And.intro ?_ ?_ | intro _)
     all_goals first | omega | skip
   have a4 : ((x.toNat : Int) = 48) = False := eq_false (fun e => c4 (UInt8.toNat_inj.1 (by have : (48 : UInt8).toNat = 48 := rfl; omega)))
   simp only [x_l11Num, rg, go_sem, seval, Prod.fst, a0, b2, d1, a1, a2, a4]
   repeat' (first | with_reducible assumption | with_reducible refine And.intro ?_ ?_ | intro _)
   all_goals first | omega | skip
   refine pw_loop (ι := Nat) (fun i => s.size - i) (fun i => i <= s.size /\ ∀ b ∈ (tL s).take i, dgtB b = true)
    (fun i => ⟨[(0, .q (.c (.str s))), (4, .q (.c (.bool false))), (5, .q (.c (.int .i64 (dv ((tL s).take i) : Int)))), (6, .q (.c (.int .i64 (i : Int))))], [], []⟩) 0 ⟨Nat.zero_le _, by simp⟩ (Le.sub (by simp [dv]) (by simp) (by simp)) ?_
   rintro i ⟨g1, g2⟩
   obtain ⟨hd, hd2⟩ := key i g1 g2
   rcases Nat.lt_or_ge i s.size with hlt | hge
   ·obtain ⟨z, k1, k2, _, k4⟩ := tL_at hlt
    have a5 : ((i : Int) < (s.size : Int)) = True := eq_true (by omega)
    have hz2 : z.toNat < 256 := UInt8.toNat_lt z
    have k5 := dv_take k1
    have hd3 := hd2 hlt
    by_cases c5 : z.toNat < 48
    ·have a6 : ((z.toNat : Int) < 48) = True := eq_true (by omega)
     rw [if_neg (fun k => by have := k.2.2.2 z (dig_mem k1); unfold dgtB at this; simp at this; omega)] at hR
     simp only [rg, go_sem, seval, Prod.fst, a5, k2, a6, hR, Int.toNat_natCast, Option.getD_none, Option.isSome_none]
     repeat' (first | with_reducible assumption | with_reducible refine And.intro ?_ ?_ | intro _)
     all_goals first | omega | skip
    have a6 : ((z.toNat : Int) < 48) = False := eq_false (by omega)
    by_cases c6 : 57 < z.toNat
    ·have a7 : ((57 : Int) < (z.toNat : Int)) = True := eq_true (by omega)
     rw [if_neg (fun k => by have := k.2.2.2 z (dig_mem k1); unfold dgtB at this; simp at this; omega)] at hR
     simp only [rg, go_sem, seval, Prod.fst, a5, k2, a6, a7, hR, Int.toNat_natCast, Option.getD_none, Option.isSome_none]
     repeat' (first | with_reducible assumption | with_reducible refine And.intro ?_ ?_ | intro _)
     all_goals first | omega | skip
    have a7 : ((57 : Int) < (z.toNat : Int)) = False := eq_false (by omega)
    simp only [rg, go_sem, seval, Prod.fst, a5, k2, a6, a7, Int.toNat_natCast]
    repeat' (first | with_reducible assumption | with_reducible refine And.intro ?_ ?_ | intro _)
    all_goals first | omega | skip
    refine ⟨i + 1, ⟨by omega, fun b hb => ?_⟩, by omega, Le.sub (by
     have k6 : ((dv ((tL s).take (i + 1)) : Nat) : Int) = (dv ((tL s).take i) : Int) * 10 + ((z.toNat : Int) - 48) := by rw [k5]; omega
     simp [k6]) (by simp) (by simp)⟩
    rw [List.take_add_one, k1] at hb
    rcases List.mem_append.1 hb with hb | hb
    ·exact g2 b hb
    ·simp only [Option.toList_some, List.mem_singleton] at hb
     subst hb; unfold dgtB; simp; omega
   ·have a5 : ((i : Int) < (s.size : Int)) = False := eq_false (by omega)
    have k0 : (tL s).take i = tL s := List.take_of_length_le (by omega)
    rw [k0] at g2 hd
    rw [if_pos (hN g2)] at hR
    simp only [rg, go_sem, seval, Prod.fst, a5, k0, hR, Option.getD_some, Option.isSome_some]
    repeat' (first | with_reducible assumption | with_reducible refine And.intro ?_ ?_ | intro _)
    all_goals first | omega | skip
end Go.Proofs.Pw
namespace Go.Proofs.Pw
variable [Globs]
def x_l1Inner : X := (.seq (.reg [⟨some 10, none, .alloc [(.c (.int .i64 0)), (.c (.int .i64 0)), (.c (.str ⟨#[]⟩)), (.z 1), (.z 5)]⟩, ⟨some 11, none, .mv (.k (.c (.int .i64 0)))⟩] none [0, 1, 2, 3, 4, 10]) (.seq (.reg [⟨some 16, none, .mv (.t 2)⟩, ⟨some 17, none, .build [(.c (.int .i64 0)), (.c (.int .i64 0)), (.c (.str ⟨#[]⟩)), (.z 1), (.z 5)] [(0, (.t 16), none)]⟩, ⟨some 12, none, .alloc [(.c (.int .i64 0)), (.c (.int .i64 0)), (.c (.str ⟨#[]⟩)), (.z 1), (.z 5)]⟩, ⟨none, none, .st (.t 12) (.t 17) (some 5)⟩] none [0, 1, 2, 3, 4, 10, 12]) (.seq (.seq (.reg [⟨some 18, none, .mv (.t 0)⟩, ⟨some 19, none, .mv (.t 1)⟩, ⟨some 20, none, .mv (.t 3)⟩, ⟨some 21, none, .call 61 [(.t 18), (.t 19), (.t 20)]⟩] none [0, 1, 2, 3, 4, 10, 12, 21]) (.cond (.t 21) (.seq (.reg [⟨some 22, none, .load (.t 12) (some 5)⟩, ⟨some 23, none, .mv (.t 1)⟩, ⟨some 24, none, .bin false .add (.t 23) (.k (.c (.int .i64 1)))⟩, ⟨none, none, .st (.t 10) (.t 22) (some 5)⟩, ⟨some 11, none, .mv (.t 24)⟩] none [10, 11]) .ret) .skip)) (.seq (.block 0 (.loop (.seq (.seq (.reg [⟨some 25, none, .fa (.t 12) 4⟩, ⟨some 26, none, .load (.t 25) none⟩, ⟨some 27, none, .len (.t 26) false⟩, ⟨some 28, none, .bin false .leq (.t 27) (.k (.c (.int .i64 60)))⟩] none [0, 1, 2, 3, 4, 10, 12, 28]) (.cond (.t 28) .skip (.exit 0))) (.block 1 (.seq (.seq (.reg [⟨some 29, none, .mv (.t 2)⟩, ⟨some 30, none, .bin false .eql (.t 29) (.k (.c (.int .i64 6)))⟩] none [0, 1, 2, 3, 4, 10, 12, 30]) (.cond (.t 30) (.seq (.reg [⟨some 31, none, .mv (.t 0)⟩, ⟨some 32, none, .mv (.t 1)⟩, ⟨some 33, none, .call 73 [(.t 31), (.t 32)]⟩, ⟨some 13, none, .mv (.t 33)⟩] none [0, 1, 2, 3, 4, 10, 12, 13]) (.seq (.seq (.reg [⟨some 34, none, .mv (.t 0)⟩, ⟨some 35, none, .mv (.t 13)⟩, ⟨some 36, none, .call 61 [(.t 34), (.t 35), (.k (.c (.int .u8 58)))]⟩, ⟨some 37, none, .not (.t 36)⟩] none [0, 1, 2, 3, 4, 10, 12, 13, 37]) (.cond (.t 37) (.seq (.reg [⟨some 38, none, .load (.t 12) (some 5)⟩, ⟨none, none, .st (.t 10) (.t 38) (some 5)⟩, ⟨some 11, none, .mv (.k (.c (.int .i64 (-1))))⟩] none [10, 11]) .ret) .skip)) (.seq (.reg [⟨some 39, none, .fa (.t 12) 3⟩, ⟨some 40, none, .load (.t 39) none⟩, ⟨some 41, none, .mv (.t 0)⟩, ⟨some 42, none, .mv (.t 1)⟩, ⟨some 43, none, .mv (.t 13)⟩, ⟨some 44, none, .sub (.t 41) (some (.t 42)) (some (.t 43)) 0⟩, ⟨some 45, none, .bsl 1 [((.t 44), none)]⟩, ⟨some 46, none, .app (.t 40) (.t 45) 1 16 []⟩, ⟨some 47, none, .fa (.t 12) 3⟩, ⟨none, none, .st (.t 47) (.t 46) none⟩] (some 7) [0, 2, 3, 4, 10, 12, 13]) (.reg [⟨some 48, none, .mv (.t 13)⟩, ⟨some 49, none, .bin false .add (.t 48) (.k (.c (.int .i64 1)))⟩, ⟨some 1, none, .mv (.t 49)⟩] none [0, 1, 2, 3, 4, 10, 12])))) .skip)) (.seq (.reg [⟨some 51, none, .mv (.t 0)⟩, ⟨some 52, none, .mv (.t 1)⟩, ⟨some 53, none, .mv (.t 4)⟩, ⟨some 54, none, .call 41 [(.t 51), (.t 52), (.t 53)]⟩, ⟨some 50, none, .mv (.t 54)⟩, ⟨some 55, none, .ext (.t 50) 0⟩, ⟨some 56, none, .ext (.t 50) 1⟩, ⟨some 14, none, .alloc [(.c (.int .i64 0)), (.c (.int .i64 0)), (.c (.str ⟨#[]⟩)), (.z 1), (.z 5)]⟩, ⟨none, none, .st (.t 14) (.t 55) (some 5)⟩, ⟨some 15, none, .mv (.t 56)⟩] none [0, 2, 3, 4, 10, 12, 14, 15]) (.seq (.seq (.reg [⟨some 57, none, .mv (.t 15)⟩, ⟨some 58, none, .bin false .lss (.t 57) (.k (.c (.int .i64 0)))⟩] none [0, 2, 3, 4, 10, 12, 14, 15, 58]) (.cond (.t 58) (.seq (.reg [⟨some 59, none, .load (.t 12) (some 5)⟩, ⟨none, none, .st (.t 10) (.t 59) (some 5)⟩, ⟨some 11, none, .mv (.k (.c (.int .i64 (-1))))⟩] none [10, 11]) .ret) .skip)) (.seq (.reg [⟨some 60, none, .fa (.t 12) 4⟩, ⟨some 61, none, .load (.t 60) none⟩, ⟨some 62, none, .load (.t 14) (some 5)⟩, ⟨some 63, none, .bsl 5 [((.t 62), (some 5))]⟩, ⟨some 64, none, .app (.t 61) (.t 63) 5 80 []⟩, ⟨some 65, none, .fa (.t 12) 4⟩, ⟨none, none, .st (.t 65) (.t 64) none⟩] none [0, 2, 3, 4, 10, 12, 15]) (.seq (.seq (.reg [⟨some 66, none, .mv (.t 0)⟩, ⟨some 67, none, .mv (.t 15)⟩, ⟨some 68, none, .mv (.t 3)⟩, ⟨some 69, none, .call 61 [(.t 66), (.t 67), (.t 68)]⟩] none [0, 2, 3, 4, 10, 12, 15, 69]) (.cond (.t 69) (.seq (.reg [⟨some 70, none, .load (.t 12) (some 5)⟩, ⟨some 71, none, .mv (.t 15)⟩, ⟨some 72, none, .bin false .add (.t 71) (.k (.c (.int .i64 1)))⟩, ⟨none, none, .st (.t 10) (.t 70) (some 5)⟩, ⟨some 11, none, .mv (.t 72)⟩] none [10, 11]) .ret) .skip)) (.seq (.seq (.reg [⟨some 73, none, .mv (.t 0)⟩, ⟨some 74, none, .mv (.t 15)⟩, ⟨some 75, none, .call 61 [(.t 73), (.t 74), (.k (.c (.int .u8 44)))]⟩, ⟨some 76, none, .not (.t 75)⟩] none [0, 2, 3, 4, 10, 12, 15, 76]) (.cond (.t 76) (.seq (.reg [⟨some 77, none, .load (.t 12) (some 5)⟩, ⟨none, none, .st (.t 10) (.t 77) (some 5)⟩, ⟨some 11, none, .mv (.k (.c (.int .i64 (-1))))⟩] none [10, 11]) .ret) .skip)) (.reg [⟨some 78, none, .mv (.t 15)⟩, ⟨some 79, none, .bin false .add (.t 78) (.k (.c (.int .i64 1)))⟩, ⟨some 1, none, .mv (.t 79)⟩] none [0, 1, 2, 3, 4, 10, 12]))))))))))) (.seq (.reg [⟨some 80, none, .load (.t 12) (some 5)⟩, ⟨none, none, .st (.t 10) (.t 80) (some 5)⟩, ⟨some 11, none, .mv (.k (.c (.int .i64 (-1))))⟩] none [10, 11]) .ret)))))
theorem chk_l1Inner : chkX Tryd.prog 81 (Tryd.f72.body.getD .skip) x_l1Inner = true := by kernel_rfl
theorem rs_l1Inner : okRs Tryd.prog Tryd.f72.results.toList [.cell 10 (some 5), .tmp 11] = true := by kernel_rfl
theorem call_l1Inner : okCallee Tryd.prog 72 = true := by kernel_rfl
def x_l1Parse : X := (.seq (.reg [⟨some 6, none, .alloc [(.c (.int .i64 0)), (.c (.int .i64 0)), (.c (.str ⟨#[]⟩)), (.z 1), (.z 5)]⟩, ⟨some 7, none, .mv (.k (.c (.int .i64 0)))⟩] none [0, 1, 2, 6]) (.seq (.seq (.reg [⟨some 9, none, .mv (.t 1)⟩, ⟨some 10, none, .mv (.t 0)⟩, ⟨some 11, none, .len (.t 10) true⟩, ⟨some 12, none, .bin false .geq (.t 9) (.t 11)⟩, ⟨some 13, none, .mv (.t 12)⟩, ⟨some 14, some (13, false), .mv (.t 2)⟩, ⟨some 15, some (13, false), .bin false .lss (.t 14) (.k (.c (.int .i64 1)))⟩, ⟨some 16, none, .pick (.t 13) (.k (.c (.bool true))) (.t 15)⟩] none [0, 1, 2, 6, 16]) (.cond (.t 16) (.seq (.reg [⟨some 17, none, .build [(.c (.int .i64 0)), (.c (.int .i64 0)), (.c (.str ⟨#[]⟩)), (.z 1), (.z 5)] []⟩, ⟨none, none, .st (.t 6) (.t 17) (some 5)⟩, ⟨some 7, none, .mv (.k (.c (.int .i64 (-1))))⟩] none [6, 7]) .ret) .skip)) (.seq (.block 0 (.seq (.reg [⟨some 19, none, .mv (.t 0)⟩, ⟨some 20, none, .mv (.t 1)⟩, ⟨some 21, none, .idx (.t 19) (.t 20)⟩, ⟨some 22, none, .bin false .eql (.t 21) (.k (.c (.int .u8 91)))⟩, ⟨some 18, none, .mv (.t 22)⟩] none [0, 1, 2, 6, 18]) (.cond (.t 18) (.seq (.reg [⟨some 23, none, .mv (.t 0)⟩, ⟨some 24, none, .mv (.t 1)⟩, ⟨some 25, none, .bin false .add (.t 24) (.k (.c (.int .i64 1)))⟩, ⟨some 26, none, .mv (.t 2)⟩, ⟨some 27, none, .bin false .sub (.t 26) (.k (.c (.int .i64 1)))⟩, ⟨some 28, none, .call 72 [(.t 23), (.t 25), (.k (.c (.int .i64 5))), (.k (.c (.int .u8 93))), (.t 27)]⟩, ⟨some 29, none, .ext (.t 28) 0⟩, ⟨some 30, none, .ext (.t 28) 1⟩, ⟨none, none, .st (.t 6) (.t 29) (some 5)⟩, ⟨some 7, none, .mv (.t 30)⟩] none [6, 7]) .ret) (.seq (.reg [⟨some 32, none, .mv (.t 0)⟩, ⟨some 33, none, .mv (.t 1)⟩, ⟨some 34, none, .idx (.t 32) (.t 33)⟩, ⟨some 35, none, .bin false .eql (.t 34) (.k (.c (.int .u8 123)))⟩, ⟨some 31, none, .mv (.t 35)⟩] none [0, 1, 2, 6, 31]) (.cond (.t 31) (.seq (.reg [⟨some 36, none, .mv (.t 0)⟩, ⟨some 37, none, .mv (.t 1)⟩, ⟨some 38, none, .bin false .add (.t 37) (.k (.c (.int .i64 1)))⟩, ⟨some 39, none, .mv (.t 2)⟩, ⟨some 40, none, .bin false .sub (.t 39) (.k (.c (.int .i64 1)))⟩, ⟨some 41, none, .call 72 [(.t 36), (.t 38), (.k (.c (.int .i64 6))), (.k (.c (.int .u8 125))), (.t 40)]⟩, ⟨some 42, none, .ext (.t 41) 0⟩, ⟨some 43, none, .ext (.t 41) 1⟩, ⟨none, none, .st (.t 6) (.t 42) (some 5)⟩, ⟨some 7, none, .mv (.t 43)⟩] none [6, 7]) .ret) (.seq (.reg [⟨some 45, none, .mv (.t 0)⟩, ⟨some 46, none, .mv (.t 1)⟩, ⟨some 47, none, .idx (.t 45) (.t 46)⟩, ⟨some 48, none, .bin false .eql (.t 47) (.k (.c (.int .u8 39)))⟩, ⟨some 44, none, .mv (.t 48)⟩] none [0, 1, 6, 44]) (.cond (.t 44) (.seq (.reg [⟨some 49, none, .mv (.t 0)⟩, ⟨some 50, none, .mv (.t 1)⟩, ⟨some 51, none, .bin false .add (.t 50) (.k (.c (.int .i64 1)))⟩, ⟨some 52, none, .call 73 [(.t 49), (.t 51)]⟩, ⟨some 8, none, .mv (.t 52)⟩] none [0, 1, 6, 8]) (.seq (.seq (.reg [⟨some 53, none, .mv (.t 0)⟩, ⟨some 54, none, .mv (.t 8)⟩, ⟨some 55, none, .call 61 [(.t 53), (.t 54), (.k (.c (.int .u8 39)))]⟩, ⟨some 56, none, .not (.t 55)⟩] none [0, 1, 6, 8, 56]) (.cond (.t 56) (.seq (.reg [⟨some 57, none, .build [(.c (.int .i64 0)), (.c (.int .i64 0)), (.c (.str ⟨#[]⟩)), (.z 1), (.z 5)] []⟩, ⟨none, none, .st (.t 6) (.t 57) (some 5)⟩, ⟨some 7, none, .mv (.k (.c (.int .i64 (-1))))⟩] none [6, 7]) .ret) .skip)) (.seq (.reg [⟨some 58, none, .mv (.t 0)⟩, ⟨some 59, none, .mv (.t 1)⟩, ⟨some 60, none, .bin false .add (.t 59) (.k (.c (.int .i64 1)))⟩, ⟨some 61, none, .mv (.t 8)⟩, ⟨some 62, none, .sub (.t 58) (some (.t 60)) (some (.t 61)) 0⟩, ⟨some 63, none, .build [(.c (.int .i64 0)), (.c (.int .i64 0)), (.c (.str ⟨#[]⟩)), (.z 1), (.z 5)] [(0, (.k (.c (.int .i64 4))), none), (2, (.t 62), none)]⟩, ⟨some 64, none, .mv (.t 8)⟩, ⟨some 65, none, .bin false .add (.t 64) (.k (.c (.int .i64 1)))⟩, ⟨none, none, .st (.t 6) (.t 63) (some 5)⟩, ⟨some 7, none, .mv (.t 65)⟩] none [6, 7]) .ret))) (.seq (.reg [⟨some 67, none, .mv (.t 0)⟩, ⟨some 68, none, .mv (.t 1)⟩, ⟨some 69, none, .idx (.t 67) (.t 68)⟩, ⟨some 70, none, .bin false .geq (.t 69) (.k (.c (.int .u8 97)))⟩, ⟨some 71, none, .mv (.t 70)⟩, ⟨some 72, some (71, true), .mv (.t 0)⟩, ⟨some 73, some (71, true), .mv (.t 1)⟩, ⟨some 74, some (71, true), .idx (.t 72) (.t 73)⟩, ⟨some 75, some (71, true), .bin false .leq (.t 74) (.k (.c (.int .u8 122)))⟩, ⟨some 76, none, .pick (.t 71) (.t 75) (.k (.c (.bool false)))⟩, ⟨some 66, none, .mv (.t 76)⟩] none [0, 1, 6, 66]) (.cond (.t 66) (.seq (.reg [⟨some 77, none, .mv (.t 0)⟩, ⟨some 78, none, .mv (.t 1)⟩, ⟨some 79, none, .call 74 [(.t 77), (.t 78)]⟩, ⟨some 80, none, .ext (.t 79) 0⟩, ⟨some 81, none, .ext (.t 79) 1⟩, ⟨none, none, .st (.t 6) (.t 80) (some 5)⟩, ⟨some 7, none, .mv (.t 81)⟩] none [6, 7]) .ret) .skip))))))))) (.seq (.reg [⟨some 82, none, .mv (.t 0)⟩, ⟨some 83, none, .mv (.t 1)⟩, ⟨some 84, none, .call 75 [(.t 82), (.t 83)]⟩, ⟨some 85, none, .ext (.t 84) 0⟩, ⟨some 86, none, .ext (.t 84) 1⟩, ⟨none, none, .st (.t 6) (.t 85) (some 5)⟩, ⟨some 7, none, .mv (.t 86)⟩] none [6, 7]) .ret))))
theorem chk_l1Parse : chkX Tryd.prog 87 (Tryd.f41.body.getD .skip) x_l1Parse = true := by kernel_rfl
theorem rs_l1Parse : okRs Tryd.prog Tryd.f41.results.toList [.cell 6 (some 5), .tmp 7] = true := by kernel_rfl
theorem call_l1Parse : okCallee Tryd.prog 41 = true := by kernel_rfl
theorem bL_eq_iff (x : List UInt8) (a : Array UInt8) : (bL x = ⟨a⟩) = (x = a.toList) := propext ⟨fun h => by
 have := congrArg (fun b : ByteArray => b.data.toList) h
 rw [bL_toList] at this
 exact this, fun h => by rw [h]; unfold bL; rfl⟩
theorem w1 : (#[110, 117, 108, 108] : Array UInt8).toList = [110, 117, 108, 108] := rfl
theorem w2 : (#[102, 97, 108, 115, 101] : Array UInt8).toList = [102, 97, 108, 115, 101] := rfl
theorem w3 : (#[116, 114, 117, 101] : Array UInt8).toList = [116, 114, 117, 101] := rfl
theorem u45 : (45 : Nat).toUInt8 = 45 := rfl
theorem u39 : (39 : Nat).toUInt8 = 39 := rfl
theorem u44 : (44 : Nat).toUInt8 = 44 := rfl
theorem u58 : (58 : Nat).toUInt8 = 58 := rfl
theorem u93 : (93 : Nat).toUInt8 = 93 := rfl
theorem u125 : (125 : Nat).toUInt8 = 125 := rfl
theorem i45 : (45 : Int).toNat = 45 := rfl
theorem i39 : (39 : Int).toNat = 39 := rfl
theorem i44 : (44 : Int).toNat = 44 := rfl
theorem i58 : (58 : Int).toNat = 58 := rfl
theorem i93 : (93 : Int).toNat = 93 := rfl
theorem i125 : (125 : Int).toNat = 125 := rfl
noncomputable def spPsW  : Spec := Spec.of (ι := ByteArray × Nat) [false, false] (fun i => [.d (.one (.str i.1)), .d (.one (.int .i64 (i.2 : Int)))]) (fun i => lenB 1000000 i.1.size /\ i.2 <= i.1.size) (fun i => [.d (.agg (psW (tL i.1) i.2).1.enc), .d (.one (.int .i64 (psW (tL i.1) i.2).2))]) (fun _ => [.gone, .gone])
theorem spPsW_inj : ∀ i j : ByteArray × Nat, (fun (i : ByteArray × Nat) => ([.d (.one (.str i.1)), .d (.one (.int .i64 (i.2 : Int)))] : List AV)) i = (fun (i : ByteArray × Nat) => ([.d (.one (.str i.1)), .d (.one (.int .i64 (i.2 : Int)))] : List AV)) j -> i = j := by
 rintro ⟨s, a⟩ ⟨s', a'⟩ h
 simp only [Prod.mk.injEq]
 simpa [strs_eq, T.enc_eq, encL_eq, F.enc_eq, encF_eq, Tk.enc_eq, encTk_eq, Gn.enc_eq, ints_eq, Int.natCast_inj, and_assoc] using h
theorem spPsW_md  : (spPsW).md = [false, false] := rfl
theorem spPsW_pre  (s : ByteArray) (a : Nat) : (spPsW).pre [.d (.one (.str s)), .d (.one (.int .i64 (a : Int)))] = (lenB 1000000 s.size /\ a <= s.size) := Spec.of_pre' spPsW_inj (s, a)
theorem spPsW_alts  : (spPsW).alts = none := rfl
theorem spPsW_res  (s : ByteArray) (a : Nat) : (spPsW).res [.d (.one (.str s)), .d (.one (.int .i64 (a : Int)))] = [.d (.agg (psW (tL s) a).1.enc), .d (.one (.int .i64 (psW (tL s) a).2))] := Spec.of_res spPsW_inj (s, a)
theorem spPsW_out  (s : ByteArray) (a : Nat) : (spPsW).out [.d (.one (.str s)), .d (.one (.int .i64 (a : Int)))] = [.gone, .gone] := Spec.of_out spPsW_inj (s, a)
theorem word_sound : Sound Tryd.prog 74 spPsW := by
 refine sound_fam (GOK.cons call_l1Letters letters_sound GOK.nil) Tryd.func74 (c := Tryd.f74.body.getD .skip) rfl (n := 27) rfl chk_l1Word rs_l1Word (fun _ => by simp) ?_ ?_
 ·exact spPsW_inj
 ·rintro ⟨s, a⟩ ⟨h1, h2⟩
  simp only [lenB] at h1 h2
  have hl := tL_len s
  have hu := spanE_le (p := ltrB) (l := tL s) (a := a) (by omega)
  have z1 : strs [] = [] := rfl
  have z2 : encL [] = [] := rfl
  by_cases c1 : sub (tL s) a (spanE ltrB (tL s) a) = [110, 117, 108, 108]
  ·have a1 := eq_true c1
   have e : psW (tL s) a = (T.zero, (spanE ltrB (tL s) a : Int)) := by unfold psW; rw [if_pos c1]
   simp only [x_l1Word, rg, go_sem, seval, Prod.fst, ext_sub, bL_eq_iff, w1, w2, w3, Int.toNat_natCast, a1, e, T.zero, T.enc, z1, z2, spLetters_md, spLetters_pre, spLetters_alts, spLetters_res, spLetters_out]
   repeat' (first | with_reducible assumption | with_reducible refine And.intro ?_ ?_ | intro _)
   all_goals first | omega | (unfold lenB; omega) | skip
  have a1 := eq_false c1
  by_cases c2 : sub (tL s) a (spanE ltrB (tL s) a) = [102, 97, 108, 115, 101]
  ·have a2 := eq_true c2
   have e : psW (tL s) a = (.mk 1 0 ⟨#[]⟩ [] [], (spanE ltrB (tL s) a : Int)) := by unfold psW; rw [if_neg c1, if_pos c2]
   simp only [x_l1Word, rg, go_sem, seval, Prod.fst, ext_sub, bL_eq_iff, w1, w2, w3, Int.toNat_natCast, a1, a2, e, T.zero, T.enc, z1, z2, spLetters_md, spLetters_pre, spLetters_alts, spLetters_res, spLetters_out]
   repeat' (first | with_reducible assumption | with_reducible refine And.intro ?_ ?_ | intro _)
   all_goals first | omega | (unfold lenB; omega) | skip
  have a2 := eq_false c2
  by_cases c3 : sub (tL s) a (spanE ltrB (tL s) a) = [116, 114, 117, 101]
  ·have a3 := eq_true c3
   have e : psW (tL s) a = (.mk 2 0 ⟨#[]⟩ [] [], (spanE ltrB (tL s) a : Int)) := by unfold psW; rw [if_neg c1, if_neg c2, if_pos c3]
   simp only [x_l1Word, rg, go_sem, seval, Prod.fst, ext_sub, bL_eq_iff, w1, w2, w3, Int.toNat_natCast, a1, a2, a3, e, T.zero, T.enc, z1, z2, spLetters_md, spLetters_pre, spLetters_alts, spLetters_res, spLetters_out]
   repeat' (first | with_reducible assumption | with_reducible refine And.intro ?_ ?_ | intro _)
   all_goals first | omega | (unfold lenB; omega) | skip
  have a3 := eq_false c3
  have e : psW (tL s) a = (T.zero, -1) := by unfold psW; rw [if_neg c1, if_neg c2, if_neg c3]
  simp only [x_l1Word, rg, go_sem, seval, Prod.fst, ext_sub, bL_eq_iff, w1, w2, w3, Int.toNat_natCast, a1, a2, a3, e, T.zero, T.enc, z1, z2, spLetters_md, spLetters_pre, spLetters_alts, spLetters_res, spLetters_out]
  repeat' (first | with_reducible assumption | with_reducible refine And.intro ?_ ?_ | intro _)
  all_goals first | omega | (unfold lenB; omega) | skip
noncomputable def spPsN  : Spec := Spec.of (ι := ByteArray × Nat) [false, false] (fun i => [.d (.one (.str i.1)), .d (.one (.int .i64 (i.2 : Int)))]) (fun i => lenB 1000000 i.1.size /\ i.2 <= i.1.size) (fun i => [.d (.agg (psN (tL i.1) i.2).1.enc), .d (.one (.int .i64 (psN (tL i.1) i.2).2))]) (fun _ => [.gone, .gone])
theorem spPsN_inj : ∀ i j : ByteArray × Nat, (fun (i : ByteArray × Nat) => ([.d (.one (.str i.1)), .d (.one (.int .i64 (i.2 : Int)))] : List AV)) i = (fun (i : ByteArray × Nat) => ([.d (.one (.str i.1)), .d (.one (.int .i64 (i.2 : Int)))] : List AV)) j -> i = j := by
 rintro ⟨s, a⟩ ⟨s', a'⟩ h
 simp only [Prod.mk.injEq]
 simpa [strs_eq, T.enc_eq, encL_eq, F.enc_eq, encF_eq, Tk.enc_eq, encTk_eq, Gn.enc_eq, ints_eq, Int.natCast_inj, and_assoc] using h
theorem spPsN_md  : (spPsN).md = [false, false] := rfl
theorem spPsN_pre  (s : ByteArray) (a : Nat) : (spPsN).pre [.d (.one (.str s)), .d (.one (.int .i64 (a : Int)))] = (lenB 1000000 s.size /\ a <= s.size) := Spec.of_pre' spPsN_inj (s, a)
theorem spPsN_alts  : (spPsN).alts = none := rfl
theorem spPsN_res  (s : ByteArray) (a : Nat) : (spPsN).res [.d (.one (.str s)), .d (.one (.int .i64 (a : Int)))] = [.d (.agg (psN (tL s) a).1.enc), .d (.one (.int .i64 (psN (tL s) a).2))] := Spec.of_res spPsN_inj (s, a)
theorem spPsN_out  (s : ByteArray) (a : Nat) : (spPsN).out [.d (.one (.str s)), .d (.one (.int .i64 (a : Int)))] = [.gone, .gone] := Spec.of_out spPsN_inj (s, a)
theorem numE_t {l : List UInt8} {a : Nat} (h : atB l a 45 = true) : numE l a = spanE dgtB l (a + 1) := by unfold numE; rw [if_pos h]
theorem numE_f {l : List UInt8} {a : Nat} (h : atB l a 45 = false) : numE l a = spanE dgtB l a := by unfold numE; rw [h]; rfl
set_option maxHeartbeats 1000000 in
theorem lnum_sound : Sound Tryd.prog 75 spPsN := by
 refine sound_fam (GOK.cons (l := [(91, spNum11)]) call_l1At atB_sound (GOK.cons call_l11Num num11_sound GOK.nil)) Tryd.func75 (c := Tryd.f75.body.getD .skip) rfl (n := 47) rfl chk_l1Num rs_l1Num (fun _ => by simp) ?_ ?_
 ·exact spPsN_inj
 ·rintro ⟨s, a⟩ ⟨h1, h2⟩
  simp only [lenB] at h1 h2
  have hl := tL_len s
  have hu := numE_le (l := tL s) (a := a) (by omega)
  have z1 : strs [] = [] := rfl
  have z2 : encL [] = [] := rfl
  have hsz := sub_len (l := tL s) (a := a) hu.2
  by_cases c0 : atB (tL s) a 45 = true
  ·have hb := atB_lt c0
   have hE := numE_t c0
   simp only [x_l1Num, rg, go_sem, seval, Prod.fst, i45, u45, Int.toNat_natCast, c0, spAtB_md, spAtB_pre, spAtB_alts, spAtB_res, spAtB_out]
   repeat' (first | with_reducible assumption | with_reducible refine And.intro ?_ ?_ | intro _)
   all_goals first | omega | (unfold lenB; omega) | skip
   refine pw_loop (ι := Nat) (fun i => s.size - i) (fun i => a <= i /\ i <= s.size /\ spanE dgtB (tL s) i = numE (tL s) a)
    (fun i => ⟨[(0, .q (.c (.str s))), (1, .q (.c (.int .i64 (a : Int)))), (4, .q (.box 4 0)), (6, .q (.c (.int .i64 (i : Int))))], [(4, [.c (.int .i64 0), .c (.int .i64 0), .c (.str ⟨#[]⟩), .z 1, .z 5])], []⟩) (a + 1) ⟨by omega, by omega, hE.symm⟩ (Le.sub (by simp) (by simp) (by simp)) ?_
   rintro i ⟨g0, g1, g2⟩
   rcases Nat.lt_or_ge i s.size with hlt | hge
   ·obtain ⟨x, b1, b2, _, b4⟩ := tL_at hlt
    have a1 : ((i : Int) < (s.size : Int)) = True := eq_true (by omega)
    by_cases hx : dgtB x = true
    ·have hx' := hx
     unfold dgtB at hx'
     simp only [decide_eq_true_eq] at hx'
     have a2 : ((48 : Int) <= x.toNat) = True := eq_true (by omega)
     have a3 : ((x.toNat : Int) <= 57) = True := eq_true (by omega)
     simp only [rg, go_sem, seval, Prod.fst, a1, b2, a2, a3, Int.toNat_natCast]
     repeat' (first | with_reducible assumption | with_reducible refine And.intro ?_ ?_ | intro _)
     all_goals first | omega | skip
     exact ⟨i + 1, ⟨by omega, by omega, by rw [<- spanE_go b4 hx]; exact g2⟩, by omega, Le.sub (by simp) (by simp) (by simp)⟩
    ·have hx' : dgtB x = false := by simpa using hx
     have a5 := spanE_stop (p := dgtB) (l := tL s) (a := i) (.inr ⟨x, _, b4, hx'⟩)
     rw [g2] at a5
     unfold dgtB at hx'
     simp only [decide_eq_false_iff_not] at hx'
     cases hn : numR (sub (tL s) a (numE (tL s) a)) with
     | none =>
       have e : psN (tL s) a = (T.zero, -1) := by unfold psN; rw [hn]
       rw [a5] at hn hsz
       by_cases hx2 : 48 <= x.toNat
       ·have a2 : ((48 : Int) <= x.toNat) = True := eq_true (by omega)
        have a3 : ((x.toNat : Int) <= 57) = False := eq_false (by omega)
        simp only [rg, go_sem, seval, Prod.fst, a1, b2, a2, a3, ext_sub, tL_bL, bL_size, hn, e, T.zero, T.enc, z1, z2, Int.toNat_natCast, Option.getD_none, Option.isSome_none, spNum11_md, spNum11_pre, spNum11_alts, spNum11_res, spNum11_out]
        repeat' (first | with_reducible assumption | with_reducible refine And.intro ?_ ?_ | intro _)
        all_goals first | omega | (unfold lenB; omega) | skip
       ·have a2 : ((48 : Int) <= x.toNat) = False := eq_false (by omega)
        simp only [rg, go_sem, seval, Prod.fst, a1, b2, a2, ext_sub, tL_bL, bL_size, hn, e, T.zero, T.enc, z1, z2, Int.toNat_natCast, Option.getD_none, Option.isSome_none, spNum11_md, spNum11_pre, spNum11_alts, spNum11_res, spNum11_out]
        repeat' (first | with_reducible assumption | with_reducible refine And.intro ?_ ?_ | intro _)
        all_goals first | omega | (unfold lenB; omega) | skip
     | some v =>
       have e : psN (tL s) a = (.mk 3 v ⟨#[]⟩ [] [], (numE (tL s) a : Int)) := by unfold psN; rw [hn]
       rw [a5] at hn e hsz
       by_cases hx2 : 48 <= x.toNat
       ·have a2 : ((48 : Int) <= x.toNat) = True := eq_true (by omega)
        have a3 : ((x.toNat : Int) <= 57) = False := eq_false (by omega)
        simp only [rg, go_sem, seval, Prod.fst, a1, b2, a2, a3, ext_sub, tL_bL, bL_size, hn, e, T.zero, T.enc, z1, z2, Int.toNat_natCast, Option.getD_some, Option.isSome_some, spNum11_md, spNum11_pre, spNum11_alts, spNum11_res, spNum11_out]
        repeat' (first | with_reducible assumption | with_reducible refine And.intro ?_ ?_ | intro _)
        all_goals first | omega | (unfold lenB; omega) | skip
       ·have a2 : ((48 : Int) <= x.toNat) = False := eq_false (by omega)
        simp only [rg, go_sem, seval, Prod.fst, a1, b2, a2, ext_sub, tL_bL, bL_size, hn, e, T.zero, T.enc, z1, z2, Int.toNat_natCast, Option.getD_some, Option.isSome_some, spNum11_md, spNum11_pre, spNum11_alts, spNum11_res, spNum11_out]
        repeat' (first | with_reducible assumption | with_reducible refine And.intro ?_ ?_ | intro _)
        all_goals first | omega | (unfold lenB; omega) | skip
   ·have a1 : ((i : Int) < (s.size : Int)) = False := eq_false (by omega)
    have a5 := spanE_stop (p := dgtB) (l := tL s) (a := i) (.inl (by omega))
    rw [g2] at a5
    cases hn : numR (sub (tL s) a (numE (tL s) a)) with
    | none =>
      have e : psN (tL s) a = (T.zero, -1) := by unfold psN; rw [hn]
      rw [a5] at hn hsz
      simp only [rg, go_sem, seval, Prod.fst, a1, ext_sub, tL_bL, bL_size, hn, e, T.zero, T.enc, z1, z2, Int.toNat_natCast, Option.getD_none, Option.isSome_none, spNum11_md, spNum11_pre, spNum11_alts, spNum11_res, spNum11_out]
      repeat' (first | with_reducible assumption | with_reducible refine And.intro ?_ ?_ | intro _)
      all_goals first | omega | (unfold lenB; omega) | skip
    | some v =>
      have e : psN (tL s) a = (.mk 3 v ⟨#[]⟩ [] [], (numE (tL s) a : Int)) := by unfold psN; rw [hn]
      rw [a5] at hn e hsz
      simp only [rg, go_sem, seval, Prod.fst, a1, ext_sub, tL_bL, bL_size, hn, e, T.zero, T.enc, z1, z2, Int.toNat_natCast, Option.getD_some, Option.isSome_some, spNum11_md, spNum11_pre, spNum11_alts, spNum11_res, spNum11_out]
      repeat' (first | with_reducible assumption | with_reducible refine And.intro ?_ ?_ | intro _)
      all_goals first | omega | (unfold lenB; omega) | skip
  ·have c0 : atB (tL s) a 45 = false := by simpa using c0
   have hE := numE_f c0
   simp only [x_l1Num, rg, go_sem, seval, Prod.fst, i45, u45, Int.toNat_natCast, c0, spAtB_md, spAtB_pre, spAtB_alts, spAtB_res, spAtB_out]
   repeat' (first | with_reducible assumption | with_reducible refine And.intro ?_ ?_ | intro _)
   all_goals first | omega | (unfold lenB; omega) | skip
   refine pw_loop (ι := Nat) (fun i => s.size - i) (fun i => a <= i /\ i <= s.size /\ spanE dgtB (tL s) i = numE (tL s) a)
    (fun i => ⟨[(0, .q (.c (.str s))), (1, .q (.c (.int .i64 (a : Int)))), (4, .q (.box 4 0)), (6, .q (.c (.int .i64 (i : Int))))], [(4, [.c (.int .i64 0), .c (.int .i64 0), .c (.str ⟨#[]⟩), .z 1, .z 5])], []⟩) a ⟨by omega, by omega, hE.symm⟩ (Le.sub (by simp) (by simp) (by simp)) ?_
   rintro i ⟨g0, g1, g2⟩
   rcases Nat.lt_or_ge i s.size with hlt | hge
   ·obtain ⟨x, b1, b2, _, b4⟩ := tL_at hlt
    have a1 : ((i : Int) < (s.size : Int)) = True := eq_true (by omega)
    by_cases hx : dgtB x = true
    ·have hx' := hx
     unfold dgtB at hx'
     simp only [decide_eq_true_eq] at hx'
     have a2 : ((48 : Int) <= x.toNat) = True := eq_true (by omega)
     have a3 : ((x.toNat : Int) <= 57) = True := eq_true (by omega)
     simp only [rg, go_sem, seval, Prod.fst, a1, b2, a2, a3, Int.toNat_natCast]
     repeat' (first | with_reducible assumption | with_reducible refine And.intro ?_ ?_ | intro _)
     all_goals first | omega | skip
     exact ⟨i + 1, ⟨by omega, by omega, by rw [<- spanE_go b4 hx]; exact g2⟩, by omega, Le.sub (by simp) (by simp) (by simp)⟩
    ·have hx' : dgtB x = false := by simpa using hx
     have a5 := spanE_stop (p := dgtB) (l := tL s) (a := i) (.inr ⟨x, _, b4, hx'⟩)
     rw [g2] at a5
     unfold dgtB at hx'
     simp only [decide_eq_false_iff_not] at hx'
     cases hn : numR (sub (tL s) a (numE (tL s) a)) with
     | none =>
       have e : psN (tL s) a = (T.zero, -1) := by unfold psN; rw [hn]
       rw [a5] at hn hsz
       by_cases hx2 : 48 <= x.toNat
       ·have a2 : ((48 : Int) <= x.toNat) = True := eq_true (by omega)
        have a3 : ((x.toNat : Int) <= 57) = False := eq_false (by omega)
        simp only [rg, go_sem, seval, Prod.fst, a1, b2, a2, a3, ext_sub, tL_bL, bL_size, hn, e, T.zero, T.enc, z1, z2, Int.toNat_natCast, Option.getD_none, Option.isSome_none, spNum11_md, spNum11_pre, spNum11_alts, spNum11_res, spNum11_out]
        repeat' (first | with_reducible assumption | with_reducible refine And.intro ?_ ?_ | intro _)
        all_goals first | omega | (unfold lenB; omega) | skip
       ·have a2 : ((48 : Int) <= x.toNat) = False := eq_false (by omega)
        simp only [rg, go_sem, seval, Prod.fst, a1, b2, a2, ext_sub, tL_bL, bL_size, hn, e, T.zero, T.enc, z1, z2, Int.toNat_natCast, Option.getD_none, Option.isSome_none, spNum11_md, spNum11_pre, spNum11_alts, spNum11_res, spNum11_out]
        repeat' (first | with_reducible assumption | with_reducible refine And.intro ?_ ?_ | intro _)
        all_goals first | omega | (unfold lenB; omega) | skip
     | some v =>
       have e : psN (tL s) a = (.mk 3 v ⟨#[]⟩ [] [], (numE (tL s) a : Int)) := by unfold psN; rw [hn]
       rw [a5] at hn e hsz
       by_cases hx2 : 48 <= x.toNat
       ·have a2 : ((48 : Int) <= x.toNat) = True := eq_true (by omega)
        have a3 : ((x.toNat : Int) <= 57) = False := eq_false (by omega)
        simp only [rg, go_sem, seval, Prod.fst, a1, b2, a2, a3, ext_sub, tL_bL, bL_size, hn, e, T.zero, T.enc, z1, z2, Int.toNat_natCast, Option.getD_some, Option.isSome_some, spNum11_md, spNum11_pre, spNum11_alts, spNum11_res, spNum11_out]
        repeat' (first | with_reducible assumption | with_reducible refine And.intro ?_ ?_ | intro _)
        all_goals first | omega | (unfold lenB; omega) | skip
       ·have a2 : ((48 : Int) <= x.toNat) = False := eq_false (by omega)
        simp only [rg, go_sem, seval, Prod.fst, a1, b2, a2, ext_sub, tL_bL, bL_size, hn, e, T.zero, T.enc, z1, z2, Int.toNat_natCast, Option.getD_some, Option.isSome_some, spNum11_md, spNum11_pre, spNum11_alts, spNum11_res, spNum11_out]
        repeat' (first | with_reducible assumption | with_reducible refine And.intro ?_ ?_ | intro _)
        all_goals first | omega | (unfold lenB; omega) | skip
   ·have a1 : ((i : Int) < (s.size : Int)) = False := eq_false (by omega)
    have a5 := spanE_stop (p := dgtB) (l := tL s) (a := i) (.inl (by omega))
    rw [g2] at a5
    cases hn : numR (sub (tL s) a (numE (tL s) a)) with
    | none =>
      have e : psN (tL s) a = (T.zero, -1) := by unfold psN; rw [hn]
      rw [a5] at hn hsz
      simp only [rg, go_sem, seval, Prod.fst, a1, ext_sub, tL_bL, bL_size, hn, e, T.zero, T.enc, z1, z2, Int.toNat_natCast, Option.getD_none, Option.isSome_none, spNum11_md, spNum11_pre, spNum11_alts, spNum11_res, spNum11_out]
      repeat' (first | with_reducible assumption | with_reducible refine And.intro ?_ ?_ | intro _)
      all_goals first | omega | (unfold lenB; omega) | skip
    | some v =>
      have e : psN (tL s) a = (.mk 3 v ⟨#[]⟩ [] [], (numE (tL s) a : Int)) := by unfold psN; rw [hn]
      rw [a5] at hn e hsz
      simp only [rg, go_sem, seval, Prod.fst, a1, ext_sub, tL_bL, bL_size, hn, e, T.zero, T.enc, z1, z2, Int.toNat_natCast, Option.getD_some, Option.isSome_some, spNum11_md, spNum11_pre, spNum11_alts, spNum11_res, spNum11_out]
      repeat' (first | with_reducible assumption | with_reducible refine And.intro ?_ ?_ | intro _)
      all_goals first | omega | (unfold lenB; omega) | skip
end Go.Proofs.Pw
