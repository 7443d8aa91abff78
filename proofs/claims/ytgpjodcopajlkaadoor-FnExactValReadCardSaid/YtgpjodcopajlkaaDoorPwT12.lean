/- What is a tree that is ok: the program's functions. -/
import Derived.Test.YtgpjodcopajlkaaDoorPwT10
import Derived.Test.YtgpjodcopajlkaaDoorProg
import Derived.KernelRfl
import Derived.Test.YtgpjodcopajlkaaDoorPwT11
set_option linter.unusedSimpArgs false
set_option linter.unusedVariables false
set_option linter.unusedSectionVars false
set_option maxRecDepth 20000
namespace Go.Proofs.Pw
variable [Globs]
def x_within : X := (.seq (.reg [⟨some 6, none, .mv (.k (.c (.bool false)))⟩] none [0, 1, 2]) (.seq (.reg [⟨some 7, none, .mv (.t 0)⟩, ⟨some 8, none, .mv (.t 1)⟩, ⟨some 9, none, .bin false .geq (.t 7) (.t 8)⟩, ⟨some 10, none, .mv (.t 9)⟩, ⟨some 11, some (10, true), .mv (.t 0)⟩, ⟨some 12, some (10, true), .mv (.t 2)⟩, ⟨some 13, some (10, true), .bin false .leq (.t 11) (.t 12)⟩, ⟨some 14, none, .pick (.t 10) (.t 13) (.k (.c (.bool false)))⟩, ⟨some 6, none, .mv (.t 14)⟩] none [6]) .ret))
theorem chk_within : chkX Tryd.prog 15 (Tryd.f57.body.getD .skip) x_within = true := by kernel_rfl
theorem rs_within : okRs Tryd.prog Tryd.f57.results.toList [.tmp 6] = true := by kernel_rfl
theorem call_within : okCallee Tryd.prog 57 = true := by kernel_rfl
def x_textOk : X := (.seq (.reg [⟨some 2, none, .mv (.k (.c (.bool false)))⟩] none [0]) (.seq (.seq (.reg [⟨some 4, none, .mv (.t 0)⟩, ⟨some 5, none, .len (.t 4) true⟩, ⟨some 6, none, .mv (.k (.c (.int .i64 0)))⟩] none [0, 5, 6]) (.block 0 (.loop (.seq (.reg [⟨some 7, none, .bin false .lss (.t 6) (.t 5)⟩] none [0, 5, 6, 7]) (.seq (.cond (.t 7) .skip (.exit 0)) (.seq (.block 1 (.seq (.reg [⟨some 8, none, .mv (.t 6)⟩, ⟨some 3, none, .mv (.t 8)⟩] none [0, 3, 5, 6]) (.seq (.reg [⟨some 9, none, .mv (.t 0)⟩, ⟨some 10, none, .mv (.t 3)⟩, ⟨some 11, none, .idx (.t 9) (.t 10)⟩, ⟨some 12, none, .bin false .lss (.t 11) (.k (.c (.int .u8 97)))⟩, ⟨some 13, none, .mv (.t 12)⟩, ⟨some 14, some (13, false), .mv (.t 0)⟩, ⟨some 15, some (13, false), .mv (.t 3)⟩, ⟨some 16, some (13, false), .idx (.t 14) (.t 15)⟩, ⟨some 17, some (13, false), .bin false .gtr (.t 16) (.k (.c (.int .u8 122)))⟩, ⟨some 18, none, .pick (.t 13) (.k (.c (.bool true))) (.t 17)⟩] none [0, 5, 6, 18]) (.cond (.t 18) (.seq (.reg [⟨some 2, none, .mv (.k (.c (.bool false)))⟩] none [2]) .ret) .skip)))) (.reg [⟨some 19, none, .bin false .add (.t 6) (.k (.c (.int .i64 1)))⟩, ⟨some 6, none, .mv (.t 19)⟩] none [0, 5, 6]))))))) (.seq (.reg [⟨some 20, none, .mv (.t 0)⟩, ⟨some 21, none, .len (.t 20) true⟩, ⟨some 22, none, .bin false .leq (.t 21) (.k (.c (.int .i64 12)))⟩, ⟨some 2, none, .mv (.t 22)⟩] none [2]) .ret)))
theorem chk_textOk : chkX Tryd.prog 23 (Tryd.f56.body.getD .skip) x_textOk = true := by kernel_rfl
theorem rs_textOk : okRs Tryd.prog Tryd.f56.results.toList [.tmp 2] = true := by kernel_rfl
theorem call_textOk : okCallee Tryd.prog 56 = true := by kernel_rfl
def x_ok : X := (.seq (.reg [⟨some 3, none, .box (.t 0) (some 5)⟩, ⟨some 6, none, .mv (.k (.c (.bool false)))⟩] none [1, 2, 3]) (.seq (.reg [⟨some 11, none, .mv (.t 2)⟩, ⟨some 12, none, .nilc (.t 11)⟩, ⟨some 13, none, .load (.t 12) none⟩, ⟨some 14, none, .bin false .sub (.t 13) (.k (.c (.int .i64 1)))⟩, ⟨some 15, none, .nilc (.t 11)⟩, ⟨none, none, .st (.t 15) (.t 14) none⟩] none [1, 2, 3]) (.seq (.seq (.reg [⟨some 16, none, .mv (.t 2)⟩, ⟨some 17, none, .nilc (.t 16)⟩, ⟨some 18, none, .load (.t 17) none⟩, ⟨some 19, none, .bin false .lss (.t 18) (.k (.c (.int .i64 0)))⟩, ⟨some 20, none, .mv (.t 19)⟩, ⟨some 21, some (20, false), .mv (.t 1)⟩, ⟨some 22, some (20, false), .bin false .gtr (.t 21) (.k (.c (.int .i64 6)))⟩, ⟨some 23, none, .pick (.t 20) (.k (.c (.bool true))) (.t 22)⟩] none [1, 2, 3, 23]) (.cond (.t 23) (.seq (.reg [⟨some 6, none, .mv (.k (.c (.bool false)))⟩] none [6]) .ret) .skip)) (.seq (.seq (.reg [⟨some 24, none, .fa (.t 3) 0⟩, ⟨some 25, none, .load (.t 24) none⟩, ⟨some 26, none, .bin false .neq (.t 25) (.k (.c (.int .i64 3)))⟩, ⟨some 27, none, .mv (.t 26)⟩, ⟨some 28, some (27, true), .fa (.t 3) 1⟩, ⟨some 29, some (27, true), .load (.t 28) none⟩, ⟨some 30, some (27, true), .bin false .neq (.t 29) (.k (.c (.int .i64 0)))⟩, ⟨some 31, none, .pick (.t 27) (.t 30) (.k (.c (.bool false)))⟩, ⟨some 32, none, .mv (.t 31)⟩, ⟨some 33, some (32, false), .fa (.t 3) 0⟩, ⟨some 34, some (32, false), .load (.t 33) none⟩, ⟨some 35, some (32, false), .bin false .neq (.t 34) (.k (.c (.int .i64 4)))⟩, ⟨some 36, some (32, false), .mv (.t 35)⟩, ⟨some 37, some (36, true), .fa (.t 3) 2⟩, ⟨some 38, some (36, true), .load (.t 37) none⟩, ⟨some 39, some (36, true), .bin false .neq (.t 38) (.k (.c (.str ⟨#[]⟩)))⟩, ⟨some 40, some (32, false), .pick (.t 36) (.t 39) (.k (.c (.bool false)))⟩, ⟨some 41, none, .pick (.t 32) (.k (.c (.bool true))) (.t 40)⟩, ⟨some 42, none, .mv (.t 41)⟩, ⟨some 43, some (42, false), .fa (.t 3) 0⟩, ⟨some 44, some (42, false), .load (.t 43) none⟩, ⟨some 45, some (42, false), .bin false .neq (.t 44) (.k (.c (.int .i64 6)))⟩, ⟨some 46, some (42, false), .mv (.t 45)⟩, ⟨some 47, some (46, true), .fa (.t 3) 3⟩, ⟨some 48, some (46, true), .load (.t 47) none⟩, ⟨some 49, some (46, true), .len (.t 48) false⟩, ⟨some 50, some (46, true), .bin false .gtr (.t 49) (.k (.c (.int .i64 0)))⟩, ⟨some 51, some (42, false), .pick (.t 46) (.t 50) (.k (.c (.bool false)))⟩, ⟨some 52, none, .pick (.t 42) (.k (.c (.bool true))) (.t 51)⟩, ⟨some 53, none, .mv (.t 52)⟩, ⟨some 54, some (53, false), .fa (.t 3) 0⟩, ⟨some 55, some (53, false), .load (.t 54) none⟩, ⟨some 56, some (53, false), .bin false .lss (.t 55) (.k (.c (.int .i64 5)))⟩, ⟨some 57, some (53, false), .mv (.t 56)⟩, ⟨some 58, some (57, true), .fa (.t 3) 4⟩, ⟨some 59, some (57, true), .load (.t 58) none⟩, ⟨some 60, some (57, true), .len (.t 59) false⟩, ⟨some 61, some (57, true), .bin false .gtr (.t 60) (.k (.c (.int .i64 0)))⟩, ⟨some 62, some (53, false), .pick (.t 57) (.t 61) (.k (.c (.bool false)))⟩, ⟨some 63, none, .pick (.t 53) (.k (.c (.bool true))) (.t 62)⟩] none [1, 2, 3, 63]) (.cond (.t 63) (.seq (.reg [⟨some 6, none, .mv (.k (.c (.bool false)))⟩] none [6]) .ret) .skip)) (.seq (.seq (.reg [⟨some 64, none, .fa (.t 3) 0⟩, ⟨some 65, none, .load (.t 64) none⟩, ⟨some 66, none, .call 57 [(.t 65), (.k (.c (.int .i64 0))), (.k (.c (.int .i64 6)))]⟩, ⟨some 67, none, .not (.t 66)⟩, ⟨some 68, none, .mv (.t 67)⟩, ⟨some 69, some (68, false), .fa (.t 3) 1⟩, ⟨some 70, some (68, false), .load (.t 69) none⟩, ⟨some 71, some (68, false), .call 57 [(.t 70), (.k (.c (.int .i64 (-1000000)))), (.k (.c (.int .i64 1000000)))]⟩, ⟨some 72, some (68, false), .not (.t 71)⟩, ⟨some 73, none, .pick (.t 68) (.k (.c (.bool true))) (.t 72)⟩, ⟨some 74, none, .mv (.t 73)⟩, ⟨some 75, some (74, false), .fa (.t 3) 2⟩, ⟨some 76, some (74, false), .load (.t 75) none⟩, ⟨some 77, some (74, false), .call 56 [(.t 76)]⟩, ⟨some 78, some (74, false), .not (.t 77)⟩, ⟨some 79, none, .pick (.t 74) (.k (.c (.bool true))) (.t 78)⟩, ⟨some 80, none, .mv (.t 79)⟩, ⟨some 81, some (80, false), .fa (.t 3) 0⟩, ⟨some 82, some (80, false), .load (.t 81) none⟩, ⟨some 83, some (80, false), .bin false .eql (.t 82) (.k (.c (.int .i64 6)))⟩, ⟨some 84, some (80, false), .mv (.t 83)⟩, ⟨some 85, some (84, true), .fa (.t 3) 3⟩, ⟨some 86, some (84, true), .load (.t 85) none⟩, ⟨some 87, some (84, true), .len (.t 86) false⟩, ⟨some 88, some (84, true), .fa (.t 3) 4⟩, ⟨some 89, some (84, true), .load (.t 88) none⟩, ⟨some 90, some (84, true), .len (.t 89) false⟩, ⟨some 91, some (84, true), .bin false .neq (.t 87) (.t 90)⟩, ⟨some 92, some (80, false), .pick (.t 84) (.t 91) (.k (.c (.bool false)))⟩, ⟨some 93, none, .pick (.t 80) (.k (.c (.bool true))) (.t 92)⟩] none [1, 2, 3, 93]) (.cond (.t 93) (.seq (.reg [⟨some 6, none, .mv (.k (.c (.bool false)))⟩] none [6]) .ret) .skip)) (.seq (.seq (.reg [⟨some 94, none, .fa (.t 3) 3⟩, ⟨some 95, none, .load (.t 94) none⟩, ⟨some 96, none, .len (.t 95) false⟩, ⟨some 97, none, .mv (.k (.c (.int .i64 0)))⟩] none [1, 2, 3, 95, 96, 97]) (.block 0 (.loop (.seq (.reg [⟨some 98, none, .bin false .lss (.t 97) (.t 96)⟩] none [1, 2, 3, 95, 96, 97, 98]) (.seq (.cond (.t 98) .skip (.exit 0)) (.seq (.block 1 (.seq (.reg [⟨some 99, none, .mv (.t 97)⟩, ⟨some 100, none, .ia (.t 95) (.t 97) 1⟩, ⟨some 101, none, .load (.t 100) none⟩, ⟨some 7, none, .mv (.t 99)⟩, ⟨some 8, none, .mv (.t 101)⟩] none [1, 2, 3, 7, 8, 95, 96, 97]) (.seq (.reg [⟨some 102, none, .mv (.t 8)⟩, ⟨some 103, none, .call 56 [(.t 102)]⟩, ⟨some 104, none, .not (.t 103)⟩, ⟨some 105, none, .mv (.t 104)⟩, ⟨some 106, some (105, false), .mv (.t 7)⟩, ⟨some 107, some (105, false), .bin false .gtr (.t 106) (.k (.c (.int .i64 0)))⟩, ⟨some 108, some (105, false), .mv (.t 107)⟩, ⟨some 109, some (108, true), .fa (.t 3) 3⟩, ⟨some 110, some (108, true), .load (.t 109) none⟩, ⟨some 111, some (108, true), .mv (.t 7)⟩, ⟨some 112, some (108, true), .bin false .sub (.t 111) (.k (.c (.int .i64 1)))⟩, ⟨some 113, some (108, true), .ia (.t 110) (.t 112) 1⟩, ⟨some 114, some (108, true), .load (.t 113) none⟩, ⟨some 115, some (108, true), .mv (.t 8)⟩, ⟨some 116, some (108, true), .bin false .geq (.t 114) (.t 115)⟩, ⟨some 117, some (105, false), .pick (.t 108) (.t 116) (.k (.c (.bool false)))⟩, ⟨some 118, none, .pick (.t 105) (.k (.c (.bool true))) (.t 117)⟩] none [1, 2, 3, 95, 96, 97, 118]) (.cond (.t 118) (.seq (.reg [⟨some 6, none, .mv (.k (.c (.bool false)))⟩] none [6]) .ret) .skip)))) (.reg [⟨some 119, none, .bin false .add (.t 97) (.k (.c (.int .i64 1)))⟩, ⟨some 97, none, .mv (.t 119)⟩] none [1, 2, 3, 95, 96, 97]))))))) (.seq (.seq (.reg [⟨some 120, none, .fa (.t 3) 4⟩, ⟨some 121, none, .load (.t 120) none⟩, ⟨some 122, none, .len (.t 121) false⟩, ⟨some 123, none, .mv (.k (.c (.int .i64 0)))⟩] none [1, 2, 121, 122, 123]) (.block 2 (.loop (.seq (.reg [⟨some 124, none, .bin false .lss (.t 123) (.t 122)⟩] none [1, 2, 121, 122, 123, 124]) (.seq (.cond (.t 124) .skip (.exit 2)) (.seq (.block 3 (.seq (.reg [⟨some 125, none, .ia (.t 121) (.t 123) 5⟩, ⟨some 126, none, .load (.t 125) (some 5)⟩, ⟨some 10, none, .alloc [(.c (.int .i64 0)), (.c (.int .i64 0)), (.c (.str ⟨#[]⟩)), (.z 1), (.z 5)]⟩, ⟨none, none, .st (.t 10) (.t 126) (some 5)⟩] none [1, 2, 10, 121, 122, 123]) (.seq (.reg [⟨some 127, none, .load (.t 10) (some 5)⟩, ⟨some 128, none, .mv (.t 1)⟩, ⟨some 129, none, .bin false .add (.t 128) (.k (.c (.int .i64 1)))⟩, ⟨some 130, none, .mv (.t 2)⟩, ⟨some 131, none, .call 38 [(.t 127), (.t 129), (.t 130)]⟩, ⟨some 132, none, .not (.t 131)⟩] none [1, 2, 121, 122, 123, 132]) (.cond (.t 132) (.seq (.reg [⟨some 6, none, .mv (.k (.c (.bool false)))⟩] none [6]) .ret) .skip)))) (.reg [⟨some 133, none, .bin false .add (.t 123) (.k (.c (.int .i64 1)))⟩, ⟨some 123, none, .mv (.t 133)⟩] none [1, 2, 121, 122, 123]))))))) (.seq (.reg [⟨some 6, none, .mv (.k (.c (.bool true)))⟩] none [6]) .ret))))))))
theorem chk_ok : chkX Tryd.prog 134 (Tryd.f38.body.getD .skip) x_ok = true := by kernel_rfl
theorem rs_ok : okRs Tryd.prog Tryd.f38.results.toList [.tmp 6] = true := by kernel_rfl
theorem call_ok : okCallee Tryd.prog 38 = true := by kernel_rfl
def x_ValOkI : X := (.seq (.reg [⟨some 1, none, .box (.t 0) (some 5)⟩, ⟨some 2, none, .mv (.k (.c (.bool false)))⟩] none [1]) (.seq (.reg [⟨some 3, none, .alloc [(.c (.int .i64 0))]⟩, ⟨none, none, .st (.t 3) (.k (.c (.int .i64 60))) none⟩] none [1, 3]) (.seq (.reg [⟨some 4, none, .load (.t 1) (some 5)⟩, ⟨some 5, none, .call 38 [(.t 4), (.k (.c (.int .i64 1))), (.t 3)]⟩, ⟨some 2, none, .mv (.t 5)⟩] none [2]) .ret)))
theorem chk_ValOkI : chkX Tryd.prog 6 (Tryd.f12.body.getD .skip) x_ValOkI = true := by kernel_rfl
theorem rs_ValOkI : okRs Tryd.prog Tryd.f12.results.toList [.tmp 2] = true := by kernel_rfl
theorem call_ValOkI : okCallee Tryd.prog 12 = true := by kernel_rfl
noncomputable def spWithin  : Spec := Spec.of (ι := Int × Int × Int) [false, false, false] (fun i => [.d (.one (.int .i64 i.1)), .d (.one (.int .i64 i.2.1)), .d (.one (.int .i64 i.2.2))]) (fun _ => True) (fun i => [.d (.one (.bool (decide (i.2.1 <= i.1 /\ i.1 <= i.2.2))))]) (fun _ => [.gone, .gone, .gone])
theorem spWithin_inj : ∀ i j : Int × Int × Int, (fun (i : Int × Int × Int) => ([.d (.one (.int .i64 i.1)), .d (.one (.int .i64 i.2.1)), .d (.one (.int .i64 i.2.2))] : List AV)) i = (fun (i : Int × Int × Int) => ([.d (.one (.int .i64 i.1)), .d (.one (.int .i64 i.2.1)), .d (.one (.int .i64 i.2.2))] : List AV)) j -> i = j := by
 rintro ⟨n, a, b⟩ ⟨n', a', b'⟩ h
 simp only [Prod.mk.injEq]
 simpa [strs_eq, T.enc_eq, encL_eq, F.enc_eq, encF_eq, Tk.enc_eq, encTk_eq, Gn.enc_eq, ints_eq] using h
theorem spWithin_md  : (spWithin).md = [false, false, false] := rfl
theorem spWithin_pre  (n : Int) (a : Int) (b : Int) : (spWithin).pre [.d (.one (.int .i64 n)), .d (.one (.int .i64 a)), .d (.one (.int .i64 b))] = (True) := Spec.of_pre' spWithin_inj (n, a, b)
theorem spWithin_alts  : (spWithin).alts = none := rfl
theorem spWithin_res  (n : Int) (a : Int) (b : Int) : (spWithin).res [.d (.one (.int .i64 n)), .d (.one (.int .i64 a)), .d (.one (.int .i64 b))] = [.d (.one (.bool (decide (a <= n /\ n <= b))))] := Spec.of_res spWithin_inj (n, a, b)
theorem spWithin_out  (n : Int) (a : Int) (b : Int) : (spWithin).out [.d (.one (.int .i64 n)), .d (.one (.int .i64 a)), .d (.one (.int .i64 b))] = [.gone, .gone, .gone] := Spec.of_out spWithin_inj (n, a, b)
theorem within_sound : Sound Tryd.prog 57 spWithin := by
 refine sound_fam GOK.nil Tryd.func57 (c := Tryd.f57.body.getD .skip) rfl (n := 15) rfl chk_within rs_within (fun _ => by simp) ?_ ?_
 ·exact spWithin_inj
 ·rintro ⟨n, a, b⟩ _
  simp only [x_within, go_sem, seval, rg]
  intro h; exact ⟨h, h⟩
noncomputable def spTextOk  : Spec := Spec.of (ι := ByteArray) [false] (fun i => [.d (.one (.str i))]) (fun i => lenB 140737488355328 i.size) (fun i => [.d (.one (.bool (decide (okS i))))]) (fun _ => [.gone])
theorem spTextOk_inj : ∀ i j : ByteArray, (fun (i : ByteArray) => ([.d (.one (.str i))] : List AV)) i = (fun (i : ByteArray) => ([.d (.one (.str i))] : List AV)) j -> i = j := by
 intro s s' h
 simpa [strs_eq, T.enc_eq, encL_eq, F.enc_eq, encF_eq, Tk.enc_eq, encTk_eq, Gn.enc_eq, ints_eq] using h
theorem spTextOk_md  : (spTextOk).md = [false] := rfl
theorem spTextOk_pre  (s : ByteArray) : (spTextOk).pre [.d (.one (.str s))] = (lenB 140737488355328 s.size) := Spec.of_pre' spTextOk_inj s
theorem spTextOk_alts  : (spTextOk).alts = none := rfl
theorem spTextOk_res  (s : ByteArray) : (spTextOk).res [.d (.one (.str s))] = [.d (.one (.bool (decide (okS s))))] := Spec.of_res spTextOk_inj s
theorem spTextOk_out  (s : ByteArray) : (spTextOk).out [.d (.one (.str s))] = [.gone] := Spec.of_out spTextOk_inj s
theorem textOk_sound : Sound Tryd.prog 56 spTextOk := by
 refine sound_fam GOK.nil Tryd.func56 (c := Tryd.f56.body.getD .skip) rfl (n := 23) rfl chk_textOk rs_textOk (fun _ => by simp) ?_ ?_
 ·exact spTextOk_inj
 ·intro s h1
  simp only [lenB] at h1
  simp only [x_textOk, rg, go_sem, seval]
  refine pw_loop (ι := Nat) (fun i => s.size - i) (fun i => i <= s.size /\ ∀ x ∈ s.data.toList.take i, letter x)
   (fun i => ⟨[(0, .q (.c (.str s))), (5, .q (.c (.int .i64 s.size))), (6, .q (.c (.int .i64 i)))], [], []⟩) 0 ⟨Nat.zero_le _, by simp⟩ (Le.refl _) ?_
  rintro i ⟨hi, hall⟩
  rcases Nat.lt_or_ge i s.size with hlt | hge
  ·obtain ⟨x, hx, hb, hmem⟩ := byteAt_get hlt
   have a2 : ((i : Int) < (s.size : Int)) = True := by simp; omega
   simp only [go_sem, seval, rg, a2, hb]
   repeat' (first | with_reducible assumption | with_reducible refine And.intro ?_ ?_ | intro _)
   all_goals first | omega | skip
   ·rename_i hc ho
    have := ho.1 x hmem
    unfold letter at this; omega
   ·rename_i hc _
    refine ⟨i + 1, ⟨by omega, fun y hy => ?_⟩, by omega, Le.refl _⟩
    rw [List.take_add_one, hx] at hy
    rcases List.mem_append.1 hy with hy | hy
    ·exact hall y hy
    ·simp at hy; subst hy; unfold letter; omega
  ·have a2 : ((i : Int) < (s.size : Int)) = False := by simp; omega
   simp only [go_sem, seval, a2]
   rw [decide_eq_decide]
   unfold okS
   rw [List.take_of_length_le (by simpa using hge)] at hall
   constructor
   ·intro h; omega
   ·intro h; exact ⟨hall, by omega⟩
noncomputable def spOkI (k:Nat) : Spec := Spec.of (ι := T × Int × Int) [false, false, true] (fun i => [.d (.agg i.1.enc), .d (.one (.int .i64 i.2.1)), .ref [.int .i64 i.2.2]]) (fun i => (i.1.fit 140737488355328 /\ 0 <= i.2.1 /\ i.2.1 <= 7 /\ 0 <= i.2.2 /\ i.2.2 <= 1000) /\ SizeOf.sizeOf i.1 < k) (fun i => [.d (.one (.bool (decide ((okI i.1 i.2.1 i.2.2).1 = true))))]) (fun i => [.gone, .gone, .ref [.int .i64 (okI i.1 i.2.1 i.2.2).2]])
theorem spOkI_inj : ∀ i j : T × Int × Int, (fun (i : T × Int × Int) => ([.d (.agg i.1.enc), .d (.one (.int .i64 i.2.1)), .ref [.int .i64 i.2.2]] : List AV)) i = (fun (i : T × Int × Int) => ([.d (.agg i.1.enc), .d (.one (.int .i64 i.2.1)), .ref [.int .i64 i.2.2]] : List AV)) j -> i = j := by
 rintro ⟨t, d, left⟩ ⟨t', d', left'⟩ h
 simp only [Prod.mk.injEq]
 simpa [strs_eq, T.enc_eq, encL_eq, F.enc_eq, encF_eq, Tk.enc_eq, encTk_eq, Gn.enc_eq, ints_eq] using h
theorem spOkI_md (k:Nat) : (spOkI k).md = [false, false, true] := rfl
theorem spOkI_pre (k:Nat) (t : T) (d : Int) (left : Int) : (spOkI k).pre [.d (.agg t.enc), .d (.one (.int .i64 d)), .ref [.int .i64 left]] = ((t.fit 140737488355328 /\ 0 <= d /\ d <= 7 /\ 0 <= left /\ left <= 1000) /\ SizeOf.sizeOf t < k) := Spec.of_pre' spOkI_inj (t, d, left)
theorem spOkI_alts (k:Nat) : (spOkI k).alts = none := rfl
theorem spOkI_res (k:Nat) (t : T) (d : Int) (left : Int) : (spOkI k).res [.d (.agg t.enc), .d (.one (.int .i64 d)), .ref [.int .i64 left]] = [.d (.one (.bool (decide ((okI t d left).1 = true))))] := Spec.of_res spOkI_inj (t, d, left)
theorem spOkI_out (k:Nat) (t : T) (d : Int) (left : Int) : (spOkI k).out [.d (.agg t.enc), .d (.one (.int .i64 d)), .ref [.int .i64 left]] = [.gone, .gone, .ref [.int .i64 (okI t d left).2]] := Spec.of_out spOkI_inj (t, d, left)
set_option maxHeartbeats 1000000 in
theorem okI_sound (k : Nat) (hS : Sound Tryd.prog 38 (spOkI k)) : Sound Tryd.prog 38 (spOkI (k + 1)) := by
 refine sound_fam (GOK.cons (l := [(56, spTextOk), (38, spOkI k)]) call_within within_sound (GOK.cons call_textOk textOk_sound (GOK.cons call_ok hS GOK.nil))) Tryd.func38 (c := Tryd.f38.body.getD .skip) rfl (n := 134) rfl chk_ok rs_ok (fun _ => by simp) ?_ ?_
 ·exact spOkI_inj
 ·rintro ⟨t, d, left⟩ ⟨⟨h1, h2, h3, h3', h3''⟩, h4⟩
  obtain ⟨kk, n, s, ks, l⟩ := t
  simp only [T.fit, lenB, strsFit] at h1
  obtain ⟨_, _, f1, ⟨f2, f2'⟩, f3, f4⟩ := h1
  have e3 : SizeOf.sizeOf l < k := by have e : SizeOf.sizeOf (T.mk kk n s ks l) < k + 1 := h4
                                      rw [T.mk.sizeOf_spec] at e; omega
  simp only at h2 h3 h3' h3''
  have f1' : lenB 140737488355328 s.size := f1
  have hH : headOk kk n s ks l ↔ ((kk = 3 \/ n = 0) /\ (kk = 4 \/ s = ⟨#[]⟩) /\ (kk = 6 \/ ks.length = 0) /\ (5 <= kk \/ l.length = 0) /\ 0 <= kk /\ kk <= 6 /\ -1000000 <= n /\ n <= 1000000 /\ okS s /\ (kk = 6 -> ks.length = l.length) /\ okKeys ks) := Iff.rfl
  have hneg : ¬ (1 <= left /\ d <= 6 /\ headOk kk n s ks l) -> (okI (T.mk kk n s ks l) d left).1 = false /\ left - 1 = (okI (T.mk kk n s ks l) d left).2 := fun h => by simp only [okI]; rw [if_neg h]; exact ⟨rfl, rfl⟩
  have hpos : (1 <= left /\ d <= 6 /\ headOk kk n s ks l) -> okI (T.mk kk n s ks l) d left = okIL l (d + 1) (left - 1) := fun h => by simp only [okI]; rw [if_pos h]
  generalize hres : okI (T.mk kk n s ks l) d left = R at *
  clear hres
  simp only [x_ok, T.enc, go_sem, seval, rg, spWithin_md, spWithin_pre, spWithin_alts, spWithin_res, spWithin_out, spTextOk_md, spTextOk_pre, spTextOk_alts, spTextOk_res, spTextOk_out]
  repeat' (first | with_reducible assumption | with_reducible refine And.intro ?_ ?_ | intro _)
  all_goals first | omega | (grind; done) | skip
  have hb : okKeys ks -> 1 <= left /\ d <= 6 /\ headOk kk n s ks l := by grind
  have hb' : ¬ okKeys ks -> ¬ (1 <= left /\ d <= 6 /\ headOk kk n s ks l) := by grind
  have hd : 1 <= left /\ d <= 6 := by omega
  clear hH
  repeat (rename_i hx; clear hx)
  refine pw_loop (ι := Nat) (fun i => ks.length - i) (fun i => i <= ks.length /\ okKeysN ks i)
   (fun i => ⟨[(1, .q (.c (.int .i64 d))), (2, .q (.box 136 0)), (3, .q (.box 3 0)), (95, .q (.c (.row 1 (strs ks)))), (96, .q (.c (.int .i64 ks.length))), (97, .q (.c (.int .i64 i)))], [(136, [.c (.int .i64 (left - 1))]), (3, [.c (.int .i64 kk), .c (.int .i64 n), .c (.str s), .c (.row 1 (strs ks)), .c (.row 5 (encL l))])], []⟩) 0 ⟨Nat.zero_le _, okKeysN_zero ks⟩ (Le.refl _) ?_
  rintro i ⟨hi, hall⟩
  rcases Nat.lt_or_ge i ks.length with hlt | hge
  ·obtain ⟨t, ht, _, hmem⟩ := drop_at hlt
   have a1 := strs_at ht
   have a2 : ((i : Int) < (ks.length : Int)) = True := by simp; omega
   have a3 : lenB 140737488355328 t.size := f2' t hmem
   have a5 : ((i : Int) - 1).toNat = i - 1 := by omega
   obtain ⟨s', a6, a7⟩ : ∃ s', (strs ks).getD (i - 1) [] = [C.str s'] /\ ks[i - 1]? = some s' := by
    obtain ⟨s', hs', _, _⟩ := drop_at (l := ks) (i := i - 1) (by omega)
    exact ⟨s', strs_at hs', hs'⟩
   have hbad : ¬ okS t \/ 0 < (i : Int) /\ ¬ sl s' t -> R.1 = false /\ left - 1 = R.2 := fun h => hneg (hb' (fun ho => by
    rcases h with h | ⟨h, h'⟩
    ·exact h (okKeys_at ho ht)
    ·exact h' (okKeys_lt ho (by omega) a7 ht)))
   simp only [go_sem, seval, rg, a1, a2, a5, a6, spTextOk_md, spTextOk_pre, spTextOk_alts, spTextOk_res, spTextOk_out]
   repeat' (first | with_reducible assumption | with_reducible refine And.intro ?_ ?_ | intro _)
   all_goals first | omega | skip
   all_goals first | (rename_i hc; exact (hbad hc).2) | skip
   ·rename_i hc hR
    rw [(hbad hc).1] at hR; cases hR
   ·rename_i hc _
    refine ⟨i + 1, ⟨by omega, okKeysN_succ hall ht (Classical.byContradiction fun h => hc (.inl h)) (fun b hb hb' => ?_)⟩, by omega, Le.refl _⟩
    rw [a7] at hb'; cases hb'
    exact Classical.byContradiction fun h => hc (.inr ⟨by omega, h⟩)
  ·have a2 : ((i : Int) < (ks.length : Int)) = False := by simp; omega
   have hie : i = ks.length := by omega
   subst hie
   have hpos' := hpos (hb hall)
   simp only [go_sem, seval, rg, a2]
   clear hneg hpos hb hb'
   refine pw_loop (ι := Nat × Int) (fun i => l.length - i.1) (fun i => i.1 <= l.length /\ 0 <= i.2 /\ i.2 <= left - 1 /\ R = okIL (l.drop i.1) (d + 1) i.2)
    (fun i => ⟨[(1, .q (.c (.int .i64 d))), (2, .q (.box 136 0)), (121, .q (.c (.row 5 (encL l)))), (122, .q (.c (.int .i64 l.length))), (123, .q (.c (.int .i64 i.1)))], [(136, [.c (.int .i64 i.2)]), (3, [.c (.int .i64 kk), .c (.int .i64 n), .c (.str s), .c (.row 1 (strs ks)), .c (.row 5 (encL l))])], []⟩) (0, left - 1) ⟨Nat.zero_le _, by simp only; omega, by simp only; omega, by simpa using hpos'⟩ (Le.refl _) ?_
   rintro ⟨i, m⟩ ⟨hi, hm, hm', heq⟩
   simp only at hi hm hm' heq
   rcases Nat.lt_or_ge i l.length with hlt | hge
   ·obtain ⟨t, ht, hdr, hmem⟩ := drop_at hlt
    have a1 := encL_at ht
    have a2 : ((i : Int) < (l.length : Int)) = True := by simp; omega
    have a3 := fitL_mem f4 t hmem
    have a4 := size_mem hmem
    have a6 := T.enc_len t
    have a7 := okI_le t (d + 1) m
    rw [hdr] at heq
    simp only [okIL] at heq
    simp only [go_sem, seval, rg, a1, a2, a6, spOkI_md, spOkI_pre, spOkI_alts, spOkI_res, spOkI_out]
    repeat' (first | with_reducible assumption | with_reducible refine And.intro ?_ ?_ | intro _)
    all_goals first | omega | skip
    ·rename_i hc hR
     rw [if_neg hc] at heq
     rw [heq] at hR; cases hR
    ·rename_i hc
     rw [if_neg hc] at heq
     rw [heq]
    ·rename_i hc _
     rw [if_pos (Classical.not_not.1 hc)] at heq
     exact ⟨(i + 1, (okI t (d + 1) m).2), ⟨by simp only; omega, a7.2 (Classical.not_not.1 hc), by simp only; omega, heq⟩, by simp only; omega, Le.sub (fun _ h => h) (fun _ h => List.mem_append_left [_] h) (fun _ h => h)⟩
   ·have a2 : ((i : Int) < (l.length : Int)) = False := by simp; omega
    rw [List.drop_eq_nil_of_le hge] at heq
    simp only [okIL] at heq
    subst heq
    simp only [go_sem, seval, rg, a2]
theorem okI_all : ∀ k, Sound Tryd.prog 38 (spOkI k) := fun k => Nat.rec Sound.none (fun k ih => okI_sound k ih) k
noncomputable def spOkIV  : Spec := Spec.of (ι := T × Int × Int) [false, false, true] (fun i => [.d (.agg i.1.enc), .d (.one (.int .i64 i.2.1)), .ref [.int .i64 i.2.2]]) (fun i => i.1.fit 140737488355328 /\ 0 <= i.2.1 /\ i.2.1 <= 7 /\ 0 <= i.2.2 /\ i.2.2 <= 1000) (fun i => [.d (.one (.bool (decide ((okI i.1 i.2.1 i.2.2).1 = true))))]) (fun i => [.gone, .gone, .ref [.int .i64 (okI i.1 i.2.1 i.2.2).2]])
theorem spOkIV_inj : ∀ i j : T × Int × Int, (fun (i : T × Int × Int) => ([.d (.agg i.1.enc), .d (.one (.int .i64 i.2.1)), .ref [.int .i64 i.2.2]] : List AV)) i = (fun (i : T × Int × Int) => ([.d (.agg i.1.enc), .d (.one (.int .i64 i.2.1)), .ref [.int .i64 i.2.2]] : List AV)) j -> i = j := by
 rintro ⟨t, d, left⟩ ⟨t', d', left'⟩ h
 simp only [Prod.mk.injEq]
 simpa [strs_eq, T.enc_eq, encL_eq, F.enc_eq, encF_eq, Tk.enc_eq, encTk_eq, Gn.enc_eq, ints_eq] using h
theorem spOkIV_md  : (spOkIV).md = [false, false, true] := rfl
theorem spOkIV_pre  (t : T) (d : Int) (left : Int) : (spOkIV).pre [.d (.agg t.enc), .d (.one (.int .i64 d)), .ref [.int .i64 left]] = (t.fit 140737488355328 /\ 0 <= d /\ d <= 7 /\ 0 <= left /\ left <= 1000) := Spec.of_pre' spOkIV_inj (t, d, left)
theorem spOkIV_alts  : (spOkIV).alts = none := rfl
theorem spOkIV_res  (t : T) (d : Int) (left : Int) : (spOkIV).res [.d (.agg t.enc), .d (.one (.int .i64 d)), .ref [.int .i64 left]] = [.d (.one (.bool (decide ((okI t d left).1 = true))))] := Spec.of_res spOkIV_inj (t, d, left)
theorem spOkIV_out  (t : T) (d : Int) (left : Int) : (spOkIV).out [.d (.agg t.enc), .d (.one (.int .i64 d)), .ref [.int .i64 left]] = [.gone, .gone, .ref [.int .i64 (okI t d left).2]] := Spec.of_out spOkIV_inj (t, d, left)
theorem okIV_sound : Sound Tryd.prog 38 spOkIV := Sound.all (μ := fun i => SizeOf.sizeOf i.1) okI_all
noncomputable def spValOkI  : Spec := Spec.of (ι := T) [false] (fun i => [.d (.agg i.enc)]) (fun i => i.fit 140737488355328) (fun i => [.d (.one (.bool (decide ((okI i 1 60).1 = true))))]) (fun _ => [.gone])
theorem spValOkI_inj : ∀ i j : T, (fun (i : T) => ([.d (.agg i.enc)] : List AV)) i = (fun (i : T) => ([.d (.agg i.enc)] : List AV)) j -> i = j := by
 intro t t' h
 simpa [strs_eq, T.enc_eq, encL_eq, F.enc_eq, encF_eq, Tk.enc_eq, encTk_eq, Gn.enc_eq, ints_eq] using h
theorem spValOkI_md  : (spValOkI).md = [false] := rfl
theorem spValOkI_pre  (t : T) : (spValOkI).pre [.d (.agg t.enc)] = (t.fit 140737488355328) := Spec.of_pre' spValOkI_inj t
theorem spValOkI_alts  : (spValOkI).alts = none := rfl
theorem spValOkI_res  (t : T) : (spValOkI).res [.d (.agg t.enc)] = [.d (.one (.bool (decide ((okI t 1 60).1 = true))))] := Spec.of_res spValOkI_inj t
theorem spValOkI_out  (t : T) : (spValOkI).out [.d (.agg t.enc)] = [.gone] := Spec.of_out spValOkI_inj t
theorem valOkI_sound : Sound Tryd.prog 12 spValOkI := by
 refine sound_fam (GOK.cons call_ok okIV_sound GOK.nil) Tryd.func12 (c := Tryd.f12.body.getD .skip) rfl (n := 6) rfl chk_ValOkI rs_ValOkI (fun _ => by simp) ?_ ?_
 ·exact spValOkI_inj
 ·intro t h1
  have a6 := T.enc_len t
  simp only [x_ValOkI, go_sem, seval, rg, a6, spOkIV_md, spOkIV_pre, spOkIV_alts, spOkIV_res, spOkIV_out]
  repeat' (first | with_reducible assumption | with_reducible refine And.intro ?_ ?_ | intro _)
  all_goals first | omega | skip
end Go.Proofs.Pw
namespace Go.Proofs.Pw
variable [Globs]
end Go.Proofs.Pw
namespace Go.Proofs.Pw
variable [Globs]
def T.kind : T -> Int | .mk k _ _ _ _ => k
def T.n : T -> Int | .mk _ n _ _ _ => n
def T.s : T -> ByteArray | .mk _ _ s _ _ => s
def T.keys : T -> List ByteArray | .mk _ _ _ ks _ => ks
def T.list : T -> List T | .mk _ _ _ _ l => l
def rowT (t : T) : Prop := okT t /\ t.kind = 5
noncomputable instance (t : T) : Decidable (rowT t) := Classical.propDecidable _
end Go.Proofs.Pw
namespace Go.Proofs.Pw
structure IsCmp {α : Type} (f : α -> α -> Int) : Prop where
 rng : ∀ a b, f a b = -1 \/ f a b = 0 \/ f a b = 1
 eq : ∀ a b, f a b = 0 ↔ a = b
 anti : ∀ a b, f b a = - f a b
 trans : ∀ a b c, f a b = -1 -> f b c = -1 -> f a c = -1
def cmpI (a b : Int) : Int := if a < b then -1 else if b < a then 1 else 0
theorem cmpI_is : IsCmp cmpI := by
 refine ⟨fun a b => ?_, fun a b => ?_, fun a b => ?_, fun a b c => ?_⟩ <;> simp only [cmpI] <;> repeat' split
 all_goals omega
theorem sl_irrefl (a : ByteArray) : ¬ sl a a := fun h => (sl_tri a a).2 h (.inr rfl)
theorem sl_asymm {a b : ByteArray} (h : sl a b) : ¬ sl b a := fun k => (sl_tri a b).2 k (.inl h)
theorem sl_or (a b : ByteArray) : sl a b \/ a = b \/ sl b a := by
 by_cases h : sl a b \/ a = b
 ·rcases h with h | h
  ·exact .inl h
  ·exact .inr (.inl h)
 ·exact .inr (.inr ((sl_tri a b).1 h))
theorem bl_trans : ∀ (x y z : List UInt8), Op.bytesLess x y = true -> Op.bytesLess y z = true -> Op.bytesLess x z = true := by
 intro x
 induction x with
 | nil => intro y z h k; cases y <;> cases z <;> simp [Op.bytesLess] at *
 | cons a x ih =>
   intro y z h k
   cases y with
   | nil => simp [Op.bytesLess] at h
   | cons b y =>
     cases z with
     | nil => simp [Op.bytesLess] at k
     | cons c z =>
       simp only [Op.bytesLess, Bool.or_eq_true, decide_eq_true_eq, Bool.and_eq_true, beq_iff_eq] at h k ⊢
       rcases h with h | ⟨rfl, h⟩
       ·rcases k with k | ⟨rfl, k⟩
        ·exact .inl (UInt8.lt_trans h k)
        ·exact .inl h
       ·rcases k with k | ⟨rfl, k⟩
        ·exact .inl k
        ·exact .inr ⟨rfl, ih _ _ h k⟩
theorem sl_trans {a b c : ByteArray} (h : sl a b) (k : sl b c) : sl a c := bl_trans _ _ _ h k
def cmpS (a b : ByteArray) : Int := if sl a b then -1 else if sl b a then 1 else 0
theorem cmpS_is : IsCmp cmpS := by
 refine ⟨fun a b => ?_, fun a b => ?_, fun a b => ?_, fun a b c => ?_⟩ <;> simp only [cmpS]
 ·repeat' split
  all_goals omega
 ·rcases sl_or a b with h | rfl | h
  ·rw [if_pos h]; exact ⟨fun e => by omega, fun e => by subst e; exact absurd h (sl_irrefl a)⟩
  ·simp [sl_irrefl]
  ·rw [if_neg (sl_asymm h), if_pos h]; exact ⟨fun e => by omega, fun e => by subst e; exact absurd h (sl_irrefl a)⟩
 ·rcases sl_or a b with h | rfl | h
  ·simp [h, sl_asymm h]
  ·simp [sl_irrefl]
  ·simp [h, sl_asymm h]
 ·intro h k
  have h' : sl a b := by
   by_cases e : sl a b
   ·exact e
   ·rw [if_neg e] at h; split at h <;> omega
  have k' : sl b c := by
   by_cases e : sl b c
   ·exact e
   ·rw [if_neg e] at k; split at k <;> omega
  rw [if_pos (sl_trans h' k')]
def thenI (a b : Int) : Int := if a = 0 then b else a
def cmpL {α : Type} (f : α -> α -> Int) : List α -> List α -> Int
 | [], [] => 0
 | [], _ :: _ => -1
 | _ :: _, [] => 1
 | a :: x, b :: y => thenI (f a b) (cmpL f x y)
structure CmpAt {α : Type} (f : α -> α -> Int) (a : α) : Prop where
 rng : ∀ b, f a b = -1 \/ f a b = 0 \/ f a b = 1
 eq : ∀ b, f a b = 0 ↔ a = b
 anti : ∀ b, f b a = - f a b
 trans : ∀ b c, f a b = -1 -> f b c = -1 -> f a c = -1
theorem IsCmp.at {α : Type} {f : α -> α -> Int} (h : IsCmp f) (a : α) : CmpAt f a := ⟨h.rng a, h.eq a, h.anti a, h.trans a⟩
mutual
def cmpT : T -> T -> Int
 | .mk k n s ks l, .mk k' n' s' ks' l' => thenI (cmpI k k') (thenI (cmpI n n') (thenI (cmpS s s') (thenI (cmpL cmpS ks ks') (cmpTL l l'))))
def cmpTL : List T -> List T -> Int
 | [], [] => 0
 | [], _ :: _ => -1
 | _ :: _, [] => 1
 | a :: x, b :: y => thenI (cmpT a b) (cmpTL x y)
end
theorem thenI_rng {a b : Int} (h : a = -1 \/ a = 0 \/ a = 1) (k : b = -1 \/ b = 0 \/ b = 1) : thenI a b = -1 \/ thenI a b = 0 \/ thenI a b = 1 := by
 unfold thenI; split <;> assumption
theorem thenI_zero {a b : Int} : thenI a b = 0 ↔ a = 0 /\ b = 0 := by
 unfold thenI; split <;> simp_all
theorem thenI_neg {a b : Int} : thenI (-a) (-b) = - thenI a b := by
 unfold thenI; split <;> split <;> omega
theorem thenI_trans {α β : Type} {f : α -> α -> Int} {g : β -> β -> Int} {a b c : α} {x y z : β} (heq : ∀ u v, f u v = 0 ↔ u = v) (hf : f a b = -1 -> f b c = -1 -> f a c = -1) (hg : g x y = -1 -> g y z = -1 -> g x z = -1)
 (h : thenI (f a b) (g x y) = -1) (k : thenI (f b c) (g y z) = -1) : thenI (f a c) (g x z) = -1 := by
 unfold thenI at *
 by_cases h1 : f a b = 0
 ·have := (heq a b).1 h1; subst this
  rw [if_pos h1] at h
  by_cases h2 : f a c = 0
  ·rw [if_pos h2] at k ⊢; exact hg h k
  ·rw [if_neg h2] at k ⊢; exact k
 ·rw [if_neg h1] at h
  by_cases h2 : f b c = 0
  ·have := (heq b c).1 h2; subst this
   rw [if_neg h1]; exact h
  ·rw [if_neg h2] at k
   have := hf h k
   rw [if_neg (by omega)]; exact this
theorem cmpL_is {α : Type} {f : α -> α -> Int} (h : IsCmp f) : IsCmp (cmpL f) := by
 have key : ∀ a, CmpAt (cmpL f) a := by
  intro a
  induction a with
  | nil =>
    refine ⟨fun b => ?_, fun b => ?_, fun b => ?_, fun b c => ?_⟩
    ·cases b <;> simp [cmpL]
    ·cases b <;> simp [cmpL]
    ·cases b <;> simp [cmpL]
    ·cases b <;> cases c <;> simp [cmpL]
  | cons x a ih =>
    refine ⟨fun b => ?_, fun b => ?_, fun b => ?_, fun b c => ?_⟩
    ·cases b with
     | nil => simp [cmpL]
     | cons y b => exact thenI_rng (h.rng x y) (ih.rng b)
    ·cases b with
     | nil => simp [cmpL]
     | cons y b => simp only [cmpL, thenI_zero, h.eq, ih.eq, List.cons.injEq]
    ·cases b with
     | nil => simp [cmpL]
     | cons y b => simp only [cmpL]; rw [h.anti x y, ih.anti b, thenI_neg]
    ·cases b with
     | nil => simp [cmpL]
     | cons y b =>
       cases c with
       | nil => intro _ k; simp [cmpL] at k
       | cons z c => exact fun h1 h2 => thenI_trans h.eq (h.trans x y z) (ih.trans b c) h1 h2
 exact ⟨fun a => (key a).rng, fun a => (key a).eq, fun a => (key a).anti, fun a => (key a).trans⟩
theorem cmpK_is : IsCmp (cmpL cmpS) := cmpL_is cmpS_is
mutual
theorem cmpT_at : ∀ (a : T), CmpAt cmpT a
 | .mk k n s ks l => by
   have ih := cmpTL_at l
   refine ⟨fun b => ?_, fun b => ?_, fun b => ?_, fun b c => ?_⟩
   ·obtain ⟨k', n', s', ks', l'⟩ := b
    exact thenI_rng (cmpI_is.rng _ _) (thenI_rng (cmpI_is.rng _ _) (thenI_rng (cmpS_is.rng _ _) (thenI_rng (cmpK_is.rng _ _) (ih.rng _))))
   ·obtain ⟨k', n', s', ks', l'⟩ := b
    simp only [cmpT, thenI_zero, cmpI_is.eq, cmpS_is.eq, cmpK_is.eq, ih.eq, T.mk.injEq]
   ·obtain ⟨k', n', s', ks', l'⟩ := b
    simp only [cmpT]
    rw [cmpI_is.anti k k', cmpI_is.anti n n', cmpS_is.anti s s', cmpK_is.anti ks ks', ih.anti l', thenI_neg, thenI_neg, thenI_neg, thenI_neg]
   ·obtain ⟨k', n', s', ks', l'⟩ := b
    obtain ⟨k2, n2, s2, ks2, l2⟩ := c
    simp only [cmpT]
    exact thenI_trans cmpI_is.eq (cmpI_is.trans _ _ _) (thenI_trans (f := cmpI) (g := fun (u v : ByteArray × List ByteArray × List T) => thenI (cmpS u.1 v.1) (thenI (cmpL cmpS u.2.1 v.2.1) (cmpTL u.2.2 v.2.2))) (x := (s, ks, l)) (y := (s', ks', l')) (z := (s2, ks2, l2)) cmpI_is.eq (cmpI_is.trans _ _ _)
     (thenI_trans (f := cmpS) (g := fun (u v : List ByteArray × List T) => thenI (cmpL cmpS u.1 v.1) (cmpTL u.2 v.2)) (x := (ks, l)) (y := (ks', l')) (z := (ks2, l2)) cmpS_is.eq (cmpS_is.trans _ _ _) (thenI_trans cmpK_is.eq (cmpK_is.trans _ _ _) (ih.trans _ _))))
     (f := cmpI) (g := fun (u v : Int × ByteArray × List ByteArray × List T) => thenI (cmpI u.1 v.1) (thenI (cmpS u.2.1 v.2.1) (thenI (cmpL cmpS u.2.2.1 v.2.2.1) (cmpTL u.2.2.2 v.2.2.2)))) (x := (n, s, ks, l)) (y := (n', s', ks', l')) (z := (n2, s2, ks2, l2))
theorem cmpTL_at : ∀ (a : List T), CmpAt cmpTL a
 | [] => by
   refine ⟨fun b => ?_, fun b => ?_, fun b => ?_, fun b c => ?_⟩
   ·cases b <;> simp [cmpTL]
   ·cases b <;> simp [cmpTL]
   ·cases b <;> simp [cmpTL]
   ·cases b <;> cases c <;> simp [cmpTL]
 | x :: a => by
   have h := cmpT_at x
   have ih := cmpTL_at a
   refine ⟨fun b => ?_, fun b => ?_, fun b => ?_, fun b c => ?_⟩
   ·cases b with
    | nil => simp [cmpTL]
    | cons y b => exact thenI_rng (h.rng y) (ih.rng b)
   ·cases b with
    | nil => simp [cmpTL]
    | cons y b => simp only [cmpTL, thenI_zero, h.eq, ih.eq, List.cons.injEq]
   ·cases b with
    | nil => simp [cmpTL]
    | cons y b => simp only [cmpTL]; rw [h.anti y, ih.anti b, thenI_neg]
   ·cases b with
    | nil => simp [cmpTL]
    | cons y b =>
      cases c with
      | nil => intro _ k; simp [cmpTL] at k
      | cons z c =>
        intro h1 h2
        simp only [cmpTL] at *
        unfold thenI at *
        by_cases e1 : cmpT x y = 0
        ·have := (h.eq y).1 e1; subst this
         rw [if_pos e1] at h1
         by_cases e2 : cmpT x z = 0
         ·rw [if_pos e2] at h2 ⊢; exact ih.trans b c h1 h2
         ·rw [if_neg e2] at h2 ⊢; exact h2
        ·rw [if_neg e1] at h1
         by_cases e2 : cmpT y z = 0
         ·have e3 : cmpT x z = -1 := by
           have e4 : y = z := by
            by_cases e5 : y = z
            ·exact e5
            ·exact absurd e2 (fun e => e5 ((cmpT_zero y z).1 e))
           subst e4; exact h1
          rw [if_neg (by omega)]; exact e3
         ·rw [if_neg e2] at h2
          have := h.trans y z h1 h2
          rw [if_neg (by omega)]; exact this
theorem cmpT_zero : ∀ (a b : T), cmpT a b = 0 ↔ a = b
 | .mk k n s ks l, .mk k' n' s' ks' l' => by
   simp only [cmpT, thenI_zero, cmpI_is.eq, cmpS_is.eq, cmpK_is.eq, cmpTL_zero l l', T.mk.injEq]
theorem cmpTL_zero : ∀ (a b : List T), cmpTL a b = 0 ↔ a = b
 | [], [] => by simp [cmpTL]
 | [], _ :: _ => by simp [cmpTL]
 | _ :: _, [] => by simp [cmpTL]
 | a :: x, b :: y => by simp only [cmpTL, thenI_zero, cmpT_zero a b, cmpTL_zero x y, List.cons.injEq]
end
theorem IsCmp.le_trans {α : Type} {f : α -> α -> Int} (h : IsCmp f) {a b c : α} (h1 : f a b <= 0) (h2 : f b c <= 0) : f a c <= 0 := by
 rcases h.rng a b with e | e | e
 ·rcases h.rng b c with e' | e' | e'
  ·have := h.trans a b c e e'; omega
  ·have := (h.eq b c).1 e'; subst this; omega
  ·omega
 ·have := (h.eq a b).1 e; subst this; exact h2
 ·omega
theorem IsCmp.total {α : Type} {f : α -> α -> Int} (h : IsCmp f) {a b : α} (h1 : ¬ f a b <= 0) : f b a <= 0 := by
 have := h.anti a b; omega
def insC {α : Type} (f : α -> α -> Int) (v : α) : List α -> List α
 | [] => [v]
 | x :: l => if f x v <= 0 then x :: insC f v l else v :: x :: l
def sortC {α : Type} (f : α -> α -> Int) (l : List α) : List α := l.foldl (fun acc x => insC f x acc) []
end Go.Proofs.Pw
namespace Go.Proofs.Pw
variable [Globs]
end Go.Proofs.Pw
namespace Go.Proofs.Pw
variable [Globs]
end Go.Proofs.Pw
namespace Go.Proofs.Pw
variable [Globs]
end Go.Proofs.Pw
