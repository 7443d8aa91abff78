/- A key looked for among keys in order; a tree put at a key. -/
import Derived.Test.YtclhfblnbfmdiaaDoorPwT14
import Derived.Test.YtclhfblnbfmdiaaDoorPwT12
import Derived.Test.YtclhfblnbfmdiaaDoorPwT10
import Derived.Test.YtclhfblnbfmdiaaDoorPwT9
import Derived.Test.YtclhfblnbfmdiaaDoorPwT11
set_option linter.unusedSimpArgs false
set_option linter.unusedVariables false
set_option linter.unusedSimpArgs false
set_option maxRecDepth 20000
namespace Go.Proofs.Pw
set_option linter.unusedSectionVars false
variable [Globs]
def x_CloneS : X := (.seq (.reg [⟨some 2, none, .mv (.k (.z 1))⟩] none [0]) (.seq (.seq (.reg [⟨some 3, none, .mv (.t 0)⟩, ⟨some 4, none, .isn (.t 3)⟩] none [0, 4]) (.cond (.t 4) (.seq (.reg [⟨some 2, none, .mv (.k (.z 1))⟩] none [2]) .ret) .skip)) (.seq (.reg [⟨some 5, none, .bsl 1 []⟩, ⟨some 6, none, .mv (.t 0)⟩, ⟨some 7, none, .app (.t 5) (.t 6) 1 16 []⟩, ⟨some 2, none, .mv (.t 7)⟩] none [2]) .ret)))
theorem chk_CloneS : chkX Go.Proofs.Tryd.prog 8 (Go.Proofs.Tryd.f62.body.getD .skip) x_CloneS = true := by kernel_rfl
theorem rs_CloneS : okRs Go.Proofs.Tryd.prog Go.Proofs.Tryd.f62.results.toList [.tmp 2] = true := by kernel_rfl
theorem call_CloneS : okCallee Go.Proofs.Tryd.prog 62 = true := by kernel_rfl
def x_lessS : X := (.seq (.reg [⟨some 4, none, .mv (.k (.c (.bool false)))⟩] none [0, 1]) (.seq (.reg [⟨some 5, none, .mv (.t 0)⟩, ⟨some 6, none, .call 79 [(.t 5)]⟩, ⟨some 7, none, .mv (.t 6)⟩, ⟨some 8, some (7, true), .mv (.t 1)⟩, ⟨some 9, some (7, true), .call 79 [(.t 8)]⟩, ⟨some 10, some (7, true), .not (.t 9)⟩, ⟨some 11, none, .pick (.t 7) (.t 10) (.k (.c (.bool false)))⟩, ⟨some 12, none, .mv (.t 11)⟩, ⟨some 13, some (12, false), .mv (.t 0)⟩, ⟨some 14, some (12, false), .mv (.t 1)⟩, ⟨some 15, some (12, false), .bin false .lss (.t 13) (.t 14)⟩, ⟨some 16, none, .pick (.t 12) (.k (.c (.bool true))) (.t 15)⟩, ⟨some 4, none, .mv (.t 16)⟩] none [4]) .ret))
theorem chk_lessS : chkX Go.Proofs.Tryd.prog 17 (Go.Proofs.Tryd.f71.body.getD .skip) x_lessS = true := by kernel_rfl
theorem rs_lessS : okRs Go.Proofs.Tryd.prog Go.Proofs.Tryd.f71.results.toList [.tmp 4] = true := by kernel_rfl
theorem call_lessS : okCallee Go.Proofs.Tryd.prog 71 = true := by kernel_rfl
def x_nanS2 : X := (.seq (.reg [⟨some 2, none, .mv (.k (.c (.bool false)))⟩] none [0]) (.seq (.reg [⟨some 3, none, .mv (.t 0)⟩, ⟨some 4, none, .mv (.t 0)⟩, ⟨some 5, none, .bin false .neq (.t 3) (.t 4)⟩, ⟨some 2, none, .mv (.t 5)⟩] none [2]) .ret))
theorem chk_nanS2 : chkX Go.Proofs.Tryd.prog 6 (Go.Proofs.Tryd.f72.body.getD .skip) x_nanS2 = true := by kernel_rfl
theorem rs_nanS2 : okRs Go.Proofs.Tryd.prog Go.Proofs.Tryd.f72.results.toList [.tmp 2] = true := by kernel_rfl
theorem call_nanS2 : okCallee Go.Proofs.Tryd.prog 72 = true := by kernel_rfl
def x_BinS : X := (.seq (.reg [⟨some 4, none, .mv (.k (.c (.int .i64 0)))⟩, ⟨some 5, none, .mv (.k (.c (.bool false)))⟩] none [0, 1]) (.seq (.reg [⟨some 10, none, .mv (.t 0)⟩, ⟨some 11, none, .len (.t 10) false⟩, ⟨some 6, none, .mv (.t 11)⟩] none [0, 1, 6]) (.seq (.reg [⟨some 12, none, .mv (.t 6)⟩, ⟨some 7, none, .mv (.k (.c (.int .i64 0)))⟩, ⟨some 8, none, .mv (.t 12)⟩] none [0, 1, 6, 7, 8]) (.seq (.block 0 (.loop (.seq (.seq (.reg [⟨some 13, none, .mv (.t 7)⟩, ⟨some 14, none, .mv (.t 8)⟩, ⟨some 15, none, .bin false .lss (.t 13) (.t 14)⟩] none [0, 1, 6, 7, 8, 15]) (.cond (.t 15) .skip (.exit 0))) (.block 1 (.seq (.reg [⟨some 16, none, .mv (.t 7)⟩, ⟨some 17, none, .mv (.t 8)⟩, ⟨some 18, none, .bin false .add (.t 16) (.t 17)⟩, ⟨some 19, none, .conv .u64 (.t 18)⟩, ⟨some 20, none, .bin false .shr (.t 19) (.k (.c (.int .u64 1)))⟩, ⟨some 21, none, .conv .i64 (.t 20)⟩, ⟨some 9, none, .mv (.t 21)⟩] none [0, 1, 6, 7, 8, 9]) (.seq (.reg [⟨some 22, none, .mv (.t 0)⟩, ⟨some 23, none, .mv (.t 9)⟩, ⟨some 24, none, .ia (.t 22) (.t 23) 1⟩, ⟨some 25, none, .load (.t 24) none⟩, ⟨some 26, none, .mv (.t 1)⟩, ⟨some 27, none, .call 71 [(.t 25), (.t 26)]⟩] none [0, 1, 6, 7, 8, 9, 27]) (.cond (.t 27) (.reg [⟨some 28, none, .mv (.t 9)⟩, ⟨some 29, none, .bin false .add (.t 28) (.k (.c (.int .i64 1)))⟩, ⟨some 7, none, .mv (.t 29)⟩] none [0, 1, 6, 7, 8]) (.reg [⟨some 30, none, .mv (.t 9)⟩, ⟨some 8, none, .mv (.t 30)⟩] none [0, 1, 6, 7, 8])))))))) (.seq (.reg [⟨some 31, none, .mv (.t 7)⟩, ⟨some 32, none, .mv (.t 7)⟩, ⟨some 33, none, .mv (.t 6)⟩, ⟨some 34, none, .bin false .lss (.t 32) (.t 33)⟩, ⟨some 35, none, .mv (.t 34)⟩, ⟨some 36, some (35, true), .mv (.t 0)⟩, ⟨some 37, some (35, true), .mv (.t 7)⟩, ⟨some 38, some (35, true), .ia (.t 36) (.t 37) 1⟩, ⟨some 39, some (35, true), .load (.t 38) none⟩, ⟨some 40, some (35, true), .mv (.t 1)⟩, ⟨some 41, some (35, true), .bin false .eql (.t 39) (.t 40)⟩, ⟨some 42, some (35, true), .mv (.t 41)⟩, ⟨some 43, some (42, false), .mv (.t 0)⟩, ⟨some 44, some (42, false), .mv (.t 7)⟩, ⟨some 45, some (42, false), .ia (.t 43) (.t 44) 1⟩, ⟨some 46, some (42, false), .load (.t 45) none⟩, ⟨some 47, some (42, false), .call 72 [(.t 46)]⟩, ⟨some 48, some (42, false), .mv (.t 47)⟩, ⟨some 49, some (48, true), .mv (.t 1)⟩, ⟨some 50, some (48, true), .call 72 [(.t 49)]⟩, ⟨some 51, some (42, false), .pick (.t 48) (.t 50) (.k (.c (.bool false)))⟩, ⟨some 52, some (35, true), .pick (.t 42) (.k (.c (.bool true))) (.t 51)⟩, ⟨some 53, none, .pick (.t 35) (.t 52) (.k (.c (.bool false)))⟩, ⟨some 4, none, .mv (.t 31)⟩, ⟨some 5, none, .mv (.t 53)⟩] none [4, 5]) .ret)))))
theorem chk_BinS : chkX Go.Proofs.Tryd.prog 54 (Go.Proofs.Tryd.f63.body.getD .skip) x_BinS = true := by kernel_rfl
theorem rs_BinS : okRs Go.Proofs.Tryd.prog Go.Proofs.Tryd.f63.results.toList [.tmp 4, .tmp 5] = true := by kernel_rfl
theorem call_BinS : okCallee Go.Proofs.Tryd.prog 63 = true := by kernel_rfl
def x_put : X := (.seq (.reg [⟨some 3, none, .box (.t 0) (some 5)⟩, ⟨some 5, none, .box (.t 2) (some 5)⟩, ⟨some 6, none, .alloc [(.c (.int .i64 0)), (.c (.int .i64 0)), (.c (.str ⟨#[]⟩)), (.z 1), (.z 5)]⟩] none [1, 3, 5, 6]) (.seq (.mix [⟨some 10, none, .fa (.t 3) 3⟩, ⟨some 11, none, .load (.t 10) none⟩, ⟨some 12, none, .callo 62 [(.t 11)]⟩, ⟨some 13, none, .fa (.t 3) 4⟩, ⟨some 14, none, .load (.t 13) none⟩, ⟨some 15, none, .callo 56 [(.t 14)]⟩, ⟨some 16, none, .build [(.c (.int .i64 0)), (.c (.int .i64 0)), (.c (.str ⟨#[]⟩)), (.z 1), (.z 5)] [(0, (.k (.c (.int .i64 6))), none), (3, (.t 12), none), (4, (.t 15), none)]⟩, ⟨some 7, none, .alloc [(.c (.int .i64 0)), (.c (.int .i64 0)), (.c (.str ⟨#[]⟩)), (.z 1), (.z 5)]⟩] [⟨none, none, .st (.t 7) (.t 16) (some 5)⟩] [[], [], [], [2], [2], [], [], [0, 1, 2, 3, 4, 5, 6]] [1, 5, 6, 7]) (.seq (.reg [⟨some 18, none, .fa (.t 7) 3⟩, ⟨some 19, none, .load (.t 18) none⟩, ⟨some 20, none, .mv (.t 1)⟩, ⟨some 21, none, .callb 63 [(.t 19), (.t 20)]⟩, ⟨some 17, none, .mv (.t 21)⟩, ⟨some 22, none, .ext (.t 17) 0⟩, ⟨some 23, none, .ext (.t 17) 1⟩, ⟨some 8, none, .mv (.t 22)⟩, ⟨some 9, none, .mv (.t 23)⟩] none [1, 5, 6, 7, 8, 9]) (.seq (.seq (.reg [⟨some 24, none, .mv (.t 9)⟩] none [1, 5, 6, 7, 8, 24]) (.cond (.t 24) (.seq (.reg [⟨some 25, none, .fa (.t 7) 4⟩, ⟨some 26, none, .load (.t 25) none⟩, ⟨some 27, none, .mv (.t 8)⟩, ⟨some 28, none, .load (.t 5) (some 5)⟩, ⟨some 29, none, .ia (.t 26) (.t 27) 5⟩, ⟨none, none, .st (.t 29) (.t 28) (some 5)⟩] none [6, 7]) (.seq (.reg [⟨some 30, none, .load (.t 7) (some 5)⟩, ⟨none, none, .st (.t 6) (.t 30) (some 5)⟩] none [6]) .ret)) .skip)) (.seq (.reg [⟨some 31, none, .fa (.t 7) 3⟩, ⟨some 32, none, .load (.t 31) none⟩, ⟨some 33, none, .mv (.t 8)⟩, ⟨some 34, none, .mv (.t 1)⟩, ⟨some 35, none, .bsl 1 [((.t 34), none)]⟩, ⟨some 36, none, .call 64 [(.t 32), (.t 33), (.t 35)]⟩, ⟨some 37, none, .fa (.t 7) 3⟩, ⟨none, none, .st (.t 37) (.t 36) none⟩] none [5, 6, 7, 8]) (.seq (.reg [⟨some 38, none, .fa (.t 7) 4⟩, ⟨some 39, none, .load (.t 38) none⟩, ⟨some 40, none, .mv (.t 8)⟩, ⟨some 41, none, .load (.t 5) (some 5)⟩, ⟨some 42, none, .bsl 5 [((.t 41), (some 5))]⟩, ⟨some 43, none, .call 65 [(.t 39), (.t 40), (.t 42)]⟩, ⟨some 44, none, .fa (.t 7) 4⟩, ⟨none, none, .st (.t 44) (.t 43) none⟩] none [6, 7]) (.seq (.reg [⟨some 45, none, .load (.t 7) (some 5)⟩, ⟨none, none, .st (.t 6) (.t 45) (some 5)⟩] none [6]) .ret)))))))
theorem chk_put : chkX Go.Proofs.Tryd.prog 46 (Go.Proofs.Tryd.f55.body.getD .skip) x_put = true := by kernel_rfl
theorem rs_put : okRs Go.Proofs.Tryd.prog Go.Proofs.Tryd.f55.results.toList [.cell 6 (some 5)] = true := by kernel_rfl
theorem call_put : okCallee Go.Proofs.Tryd.prog 55 = true := by kernel_rfl
noncomputable def spCloneS  : Spec := Spec.of (ι := (List ByteArray)) [false] (fun i => [.d (.one (.row 1 (strs i)))]) (fun i => lenB 1000000 i.length) (fun i => [.own 1 (strs i)]) (fun _ => [.gone])
theorem spCloneS_inj : ∀ i j : (List ByteArray), (fun (i : (List ByteArray)) => ([.d (.one (.row 1 (strs i)))] : List AV)) i = (fun (i : (List ByteArray)) => ([.d (.one (.row 1 (strs i)))] : List AV)) j → i = j := by
  intro l l' h
  simpa [strs_eq, T.enc_eq, encL_eq, F.enc_eq, encF_eq, Tk.enc_eq, encTk_eq, Gn.enc_eq, ints_eq, Int.natCast_inj] using h
theorem spCloneS_md  : (spCloneS).md = [false] := rfl
theorem spCloneS_pre  (l : List ByteArray) : (spCloneS).pre [.d (.one (.row 1 (strs l)))] = (lenB 1000000 l.length) := Spec.of_pre' spCloneS_inj l
theorem spCloneS_alts  : (spCloneS).alts = none := rfl
theorem spCloneS_res  (l : List ByteArray) : (spCloneS).res [.d (.one (.row 1 (strs l)))] = [.own 1 (strs l)] := Spec.of_res spCloneS_inj l
theorem spCloneS_out  (l : List ByteArray) : (spCloneS).out [.d (.one (.row 1 (strs l)))] = [.gone] := Spec.of_out spCloneS_inj l
theorem CloneS_sound : Sound Go.Proofs.Tryd.prog 62 spCloneS := by
  refine sound_fam GOK.nil Go.Proofs.Tryd.func62 (c := Go.Proofs.Tryd.f62.body.getD .skip) rfl (n := 8) rfl chk_CloneS rs_CloneS (fun _ => by simp) ?_ ?_
  · exact spCloneS_inj
  · intro l h1
    simp only [lenB] at h1
    simp only [x_CloneS, rg, go_sem, seval, strs_len]
    repeat' (first | with_reducible assumption | with_reducible refine And.intro ?_ ?_ | intro _)
    all_goals first | omega | skip
    rename_i h
    have : l = [] := by cases l <;> simp_all [strs]
    rw [this]; rfl
noncomputable def spNanS2  : Spec := Spec.of (ι := C) [false] (fun i => [.d (.one i)]) (fun i => ∃ a, i = .str a) (fun _ => [.d (.one (.bool false))]) (fun _ => [.gone])
theorem spNanS2_inj : ∀ i j : C, (fun (i : C) => ([.d (.one i)] : List AV)) i = (fun (i : C) => ([.d (.one i)] : List AV)) j → i = j := by
  intro c c' h
  simpa [strs_eq, T.enc_eq, encL_eq, F.enc_eq, encF_eq, Tk.enc_eq, encTk_eq, Gn.enc_eq, ints_eq, Int.natCast_inj] using h
theorem spNanS2_md  : (spNanS2).md = [false] := rfl
theorem spNanS2_pre  (c : C) : (spNanS2).pre [.d (.one c)] = (∃ a, c = .str a) := Spec.of_pre' spNanS2_inj c
theorem spNanS2_alts  : (spNanS2).alts = none := rfl
theorem spNanS2_res  (c : C) : (spNanS2).res [.d (.one c)] = [.d (.one (.bool false))] := Spec.of_res spNanS2_inj c
theorem spNanS2_out  (c : C) : (spNanS2).out [.d (.one c)] = [.gone] := Spec.of_out spNanS2_inj c
theorem nanS2_sound : Sound Go.Proofs.Tryd.prog 72 spNanS2 := by
  refine sound_fam GOK.nil Go.Proofs.Tryd.func72 (c := Go.Proofs.Tryd.f72.body.getD .skip) rfl (n := 6) rfl chk_nanS2 rs_nanS2 (fun _ => by simp) ?_ ?_
  · exact spNanS2_inj
  · rintro c ⟨a, rfl⟩
    simp only [x_nanS2, rg, go_sem, seval]
    repeat' (first | with_reducible assumption | with_reducible refine And.intro ?_ ?_ | intro _)
    all_goals first | omega | skip
noncomputable def spLessS  : Spec := Spec.of (ι := ByteArray × ByteArray) [false, false] (fun i => [.d (.one (.str i.1)), .d (.one (.str i.2))]) (fun _ => True) (fun i => [.d (.one (.bool (decide (sl i.1 i.2))))]) (fun _ => [.gone, .gone])
theorem spLessS_inj : ∀ i j : ByteArray × ByteArray, (fun (i : ByteArray × ByteArray) => ([.d (.one (.str i.1)), .d (.one (.str i.2))] : List AV)) i = (fun (i : ByteArray × ByteArray) => ([.d (.one (.str i.1)), .d (.one (.str i.2))] : List AV)) j → i = j := by
  rintro ⟨a, b⟩ ⟨a', b'⟩ h
  simp only [Prod.mk.injEq]
  simpa [strs_eq, T.enc_eq, encL_eq, F.enc_eq, encF_eq, Tk.enc_eq, encTk_eq, Gn.enc_eq, ints_eq, Int.natCast_inj] using h
theorem spLessS_md  : (spLessS).md = [false, false] := rfl
theorem spLessS_pre  (a : ByteArray) (b : ByteArray) : (spLessS).pre [.d (.one (.str a)), .d (.one (.str b))] = (True) := Spec.of_pre' spLessS_inj (a, b)
theorem spLessS_alts  : (spLessS).alts = none := rfl
theorem spLessS_res  (a : ByteArray) (b : ByteArray) : (spLessS).res [.d (.one (.str a)), .d (.one (.str b))] = [.d (.one (.bool (decide (sl a b))))] := Spec.of_res spLessS_inj (a, b)
theorem spLessS_out  (a : ByteArray) (b : ByteArray) : (spLessS).out [.d (.one (.str a)), .d (.one (.str b))] = [.gone, .gone] := Spec.of_out spLessS_inj (a, b)
theorem lessS_sound : Sound Go.Proofs.Tryd.prog 71 spLessS := by
  refine sound_fam (GOK.cons (l := []) call_nanS nanS_sound GOK.nil) Go.Proofs.Tryd.func71 (c := Go.Proofs.Tryd.f71.body.getD .skip) rfl (n := 17) rfl chk_lessS rs_lessS (fun _ => by simp) ?_ ?_
  · exact spLessS_inj
  · rintro ⟨a, b⟩ _
    simp only [x_lessS, rg, go_sem, seval, spNanS_md, spNanS_pre, spNanS_alts, spNanS_res, spNanS_out]
    repeat' (first | with_reducible assumption | with_reducible refine And.intro ?_ ?_ | intro _)
    all_goals first | omega | skip
open Classical in
noncomputable def spBinS  : Spec := Spec.of (ι := (List ByteArray) × ByteArray) [false, false] (fun i => [.d (.one (.row 1 (strs i.1))), .d (.one (.str i.2))]) (fun i => Asc i.1 ∧ lenB 1000000 i.1.length) (fun i => [.d (.one (.int .i64 (posS i.2 i.1))), .d (.one (.bool (decide (i.1[posS i.2 i.1]? = some i.2))))]) (fun _ => [.gone, .gone])
theorem spBinS_inj : ∀ i j : (List ByteArray) × ByteArray, (fun (i : (List ByteArray) × ByteArray) => ([.d (.one (.row 1 (strs i.1))), .d (.one (.str i.2))] : List AV)) i = (fun (i : (List ByteArray) × ByteArray) => ([.d (.one (.row 1 (strs i.1))), .d (.one (.str i.2))] : List AV)) j → i = j := by
  rintro ⟨ks, key⟩ ⟨ks', key'⟩ h
  simp only [Prod.mk.injEq]
  simpa [strs_eq, T.enc_eq, encL_eq, F.enc_eq, encF_eq, Tk.enc_eq, encTk_eq, Gn.enc_eq, ints_eq, Int.natCast_inj] using h
theorem spBinS_md  : (spBinS).md = [false, false] := rfl
theorem spBinS_pre  (ks : List ByteArray) (key : ByteArray) : (spBinS).pre [.d (.one (.row 1 (strs ks))), .d (.one (.str key))] = (Asc ks ∧ lenB 1000000 ks.length) := Spec.of_pre' spBinS_inj (ks, key)
theorem spBinS_alts  : (spBinS).alts = none := rfl
theorem spBinS_res  (ks : List ByteArray) (key : ByteArray) : (spBinS).res [.d (.one (.row 1 (strs ks))), .d (.one (.str key))] = [.d (.one (.int .i64 (posS key ks))), .d (.one (.bool (decide (ks[posS key ks]? = some key))))] := Spec.of_res spBinS_inj (ks, key)
theorem spBinS_out  (ks : List ByteArray) (key : ByteArray) : (spBinS).out [.d (.one (.row 1 (strs ks))), .d (.one (.str key))] = [.gone, .gone] := Spec.of_out spBinS_inj (ks, key)
theorem BinS_sound : Sound Go.Proofs.Tryd.prog 63 spBinS := by
  refine sound_fam (GOK.cons (l := [(72, spNanS2)]) call_lessS lessS_sound (GOK.cons call_nanS2 nanS2_sound GOK.nil)) Go.Proofs.Tryd.func63 (c := Go.Proofs.Tryd.f63.body.getD .skip) rfl (n := 54) rfl chk_BinS rs_BinS (fun _ => by simp) ?_ ?_
  · exact spBinS_inj
  · rintro ⟨ks, key⟩ ⟨ha, h1⟩
    simp only [lenB] at h1
    simp only at ha
    have hp := posS_le key ks
    simp only [x_BinS, rg, go_sem, seval, Prod.fst, strs_len]
    repeat' (first | with_reducible assumption | with_reducible refine And.intro ?_ ?_ | intro _)
    all_goals first | (show _ ≤ (_ : Int); omega) | (show _ < (_ : Int); omega) | skip
    refine pw_loop (ι := Nat × Nat) (fun i => i.2 - i.1) (fun i => i.1 ≤ posS key ks ∧ posS key ks ≤ i.2 ∧ i.2 ≤ ks.length)
      (fun i => ⟨[(0, .q (.c (.row 1 (strs ks)))), (1, .q (.c (.str key))), (6, .q (.c (.int .i64 ks.length))), (7, .q (.c (.int .i64 i.1))), (8, .q (.c (.int .i64 i.2)))], [], []⟩) (0, ks.length) ⟨Nat.zero_le _, hp, Nat.le_refl _⟩ (Le.refl _) ?_
    rintro ⟨i, j⟩ ⟨g1, g2, g3⟩
    simp only at g1 g2 g3
    rcases Nat.lt_or_ge i j with hlt | hge
    · obtain ⟨h, hh⟩ : ∃ h : Nat, h = (i + j) / 2 := ⟨_, rfl⟩
      obtain ⟨y, hy, _, _⟩ := drop_at (l := ks) (i := h) (by omega)
      have b1 : ((i : Int) < (j : Int)) = True := eq_true (by omega)
      have b2 : ((i : Int) + j) / 2 = (h : Int) := by omega
      have a1 := strs_at hy
      simp only [rg, go_sem, seval, Prod.fst, b1, b2, a1, strs_len, spLessS_md, spLessS_pre, spLessS_alts, spLessS_res, spLessS_out]
      repeat' (first | with_reducible assumption | with_reducible refine And.intro ?_ ?_ | intro _)
      all_goals first | (show _ ≤ (_ : Int); omega) | (show _ < (_ : Int); omega) | (show False; omega) | skip
      · have hs := (posS_lt ha hy).1 (by assumption)
        exact ⟨(h + 1, j), ⟨by show h + 1 ≤ _; omega, g2, g3⟩, by show j - (h + 1) < j - i; omega, Le.refl _⟩
      · have hs : ¬ h < posS key ks := fun k => absurd ((posS_lt ha hy).2 k) (by assumption)
        exact ⟨(i, h), ⟨g1, by show posS key ks ≤ h; omega, by show h ≤ _; omega⟩, by show h - i < j - i; omega, Le.refl _⟩
    · have b1 : ((i : Int) < (j : Int)) = False := eq_false (by omega)
      obtain rfl : i = posS key ks := by omega
      rcases Nat.lt_or_ge (posS key ks) ks.length with hlt | hge'
      · obtain ⟨y, hy, _, _⟩ := drop_at hlt
        have a1 := strs_at hy
        have b2 : ((posS key ks : Int) < (ks.length : Int)) = True := eq_true (by omega)
        by_cases c : y = key
        · have e : (ks[posS key ks]? = some key) = True := eq_true (by rw [hy, c])
          simp only [rg, go_sem, seval, Prod.fst, b1, b2, a1, c, e, strs_len, spNanS2_md, spNanS2_pre, spNanS2_alts, spNanS2_res, spNanS2_out]
          repeat' (first | with_reducible assumption | with_reducible refine And.intro ?_ ?_ | intro _)
          all_goals first | (show _ ≤ (_ : Int); omega) | (show _ < (_ : Int); omega) | (show False; omega) | skip
        · have e : (ks[posS key ks]? = some key) = False := eq_false (by rw [hy]; intro h; exact c (Option.some.inj h))
          simp only [rg, go_sem, seval, Prod.fst, b1, b2, a1, c, e, strs_len, spNanS2_md, spNanS2_pre, spNanS2_alts, spNanS2_res, spNanS2_out]
          repeat' (first | with_reducible assumption | with_reducible refine And.intro ?_ ?_ | intro _)
          all_goals first | (show _ ≤ (_ : Int); omega) | (show _ < (_ : Int); omega) | (show False; omega) | exact ⟨_, rfl⟩ | skip
      · have b2 : ((posS key ks : Int) < (ks.length : Int)) = False := eq_false (by omega)
        have a1 : (strs ks).getD (posS key ks) [] = [] := by rw [List.getD_eq_getElem?_getD, List.getElem?_eq_none (by rw [strs_len]; exact hge')]; rfl
        have e : (ks[posS key ks]? = some key) = False := eq_false (by rw [List.getElem?_eq_none hge']; simp)
        simp only [rg, go_sem, seval, Prod.fst, b1, b2, a1, e, strs_len, spNanS2_md, spNanS2_pre, spNanS2_alts, spNanS2_res, spNanS2_out]
        repeat' (first | with_reducible assumption | with_reducible refine And.intro ?_ ?_ | intro _)
        all_goals first | (show _ ≤ (_ : Int); omega) | (show _ < (_ : Int); omega) | (show False; omega) | skip
noncomputable def spPut  : Spec := Spec.of (ι := T × ByteArray × T) [false, false, false] (fun i => [.d (.agg i.1.enc), .d (.one (.str i.2.1)), .d (.agg i.2.2.enc)]) (fun i => Asc i.1.keys ∧ lenB 1000000 i.1.keys.length ∧ i.1.keys.length = i.1.list.length) (fun i => [.d (.agg (putT i.1 i.2.1 i.2.2).enc)]) (fun _ => [.gone, .gone, .gone])
theorem spPut_inj : ∀ i j : T × ByteArray × T, (fun (i : T × ByteArray × T) => ([.d (.agg i.1.enc), .d (.one (.str i.2.1)), .d (.agg i.2.2.enc)] : List AV)) i = (fun (i : T × ByteArray × T) => ([.d (.agg i.1.enc), .d (.one (.str i.2.1)), .d (.agg i.2.2.enc)] : List AV)) j → i = j := by
  rintro ⟨v, key, x⟩ ⟨v', key', x'⟩ h
  simp only [Prod.mk.injEq]
  simpa [strs_eq, T.enc_eq, encL_eq, F.enc_eq, encF_eq, Tk.enc_eq, encTk_eq, Gn.enc_eq, ints_eq, Int.natCast_inj] using h
theorem spPut_md  : (spPut).md = [false, false, false] := rfl
theorem spPut_pre  (v : T) (key : ByteArray) (x : T) : (spPut).pre [.d (.agg v.enc), .d (.one (.str key)), .d (.agg x.enc)] = (Asc v.keys ∧ lenB 1000000 v.keys.length ∧ v.keys.length = v.list.length) := Spec.of_pre' spPut_inj (v, key, x)
theorem spPut_alts  : (spPut).alts = none := rfl
theorem spPut_res  (v : T) (key : ByteArray) (x : T) : (spPut).res [.d (.agg v.enc), .d (.one (.str key)), .d (.agg x.enc)] = [.d (.agg (putT v key x).enc)] := Spec.of_res spPut_inj (v, key, x)
theorem spPut_out  (v : T) (key : ByteArray) (x : T) : (spPut).out [.d (.agg v.enc), .d (.one (.str key)), .d (.agg x.enc)] = [.gone, .gone, .gone] := Spec.of_out spPut_inj (v, key, x)
set_option maxHeartbeats 4000000 in
theorem put_sound : Sound Go.Proofs.Tryd.prog 55 spPut := by
  refine sound_fam (GOK.cons (l := [(56, spCloneV), (63, spBinS), (64, spInsS), (65, spInsV)]) call_CloneS CloneS_sound (GOK.cons call_CloneV CloneV_sound (GOK.cons call_BinS BinS_sound (GOK.cons call_InsS InsS_sound (GOK.cons call_InsV InsV_sound GOK.nil))))) Go.Proofs.Tryd.func55 (c := Go.Proofs.Tryd.f55.body.getD .skip) rfl (n := 46) rfl chk_put rs_put (fun _ => by simp) ?_ ?_
  · exact spPut_inj
  · rintro ⟨v, key, x⟩ ⟨ha, h1, h2⟩
    obtain ⟨k, n, s, ks, l⟩ := v
    simp only [T.keys, T.list, lenB] at ha h1 h2
    have fx := T.enc_len x
    have hp := posS_le key ks
    have ha' : Asc ks = True := eq_true ha
    by_cases c : ks[posS key ks]? = some key
    · have hlt : posS key ks < l.length := by have := (List.getElem?_eq_some_iff.1 c).1; omega
      have c' : (ks[posS key ks]? = some key) = True := eq_true c
      have hx := List.getElem?_eq_getElem hlt
      have a1 := encL_at hx
      have f1 := T.enc_drop5 l[posS key ks]
      have e : putT (T.mk k n s ks l) key x = .mk 6 0 ⟨#[]⟩ ks (l.set (posS key ks) x) := by
        simp only [putT, T.keys, T.list, putS_in ha h2 c]
      simp only [x_put, rg, go_sem, seval, Prod.fst, e, ha', c', a1, f1, T.enc, fx, strs_len, List.append_nil, encL_set, spCloneS_md, spCloneS_pre, spCloneS_alts, spCloneS_res, spCloneS_out, spCloneV_md, spCloneV_pre, spCloneV_alts, spCloneV_res, spCloneV_out, spBinS_md, spBinS_pre, spBinS_alts, spBinS_res, spBinS_out]
      repeat' (first | with_reducible assumption | with_reducible refine And.intro ?_ ?_ | intro _)
      all_goals first | (show _ ≤ (_ : Int); omega) | (show _ < (_ : Int); omega) | (show _ < (_ : Nat); omega) | assumption | skip
    · have c' : (ks[posS key ks]? = some key) = False := eq_false c
      have e : putT (T.mk k n s ks l) key x = .mk 6 0 ⟨#[]⟩ (ks.take (posS key ks) ++ key :: ks.drop (posS key ks)) (l.take (posS key ks) ++ x :: l.drop (posS key ks)) := by
        simp only [putT, T.keys, T.list, putS_new ha h2 c]
      have k1 : [[C.str key]] = strs [key] := rfl
      simp only [x_put, rg, go_sem, seval, Prod.fst, e, ha', c', T.enc, fx, k1, encL_one, strs_len, spCloneS_md, spCloneS_pre, spCloneS_alts, spCloneS_res, spCloneS_out, spCloneV_md, spCloneV_pre, spCloneV_alts, spCloneV_res, spCloneV_out, spBinS_md, spBinS_pre, spBinS_alts, spBinS_res, spBinS_out, spInsS_md, spInsS_pre, spInsS_alts, spInsS_res, spInsS_out, spInsV_md, spInsV_pre, spInsV_alts, spInsV_res, spInsV_out]
      repeat' (first | with_reducible assumption | with_reducible refine And.intro ?_ ?_ | intro _)
      all_goals first | (show _ ≤ (_ : Int); omega) | (show _ < (_ : Int); omega) | (show _ < (_ : Nat); omega) | (show _ ≤ (_ : Nat); omega) | assumption | skip
end Go.Proofs.Pw
/- Trees added. -/
namespace Go.Proofs.Pw
set_option linter.unusedSectionVars false
variable [Globs]
/-- Keys and trees put one behind the other. -/
noncomputable def foldP : List ByteArray → List T → List ByteArray × List T → List ByteArray × List T
  | k :: ks, t :: l, p => foldP ks l (putS k t false p.1 p.2)
  | _, _, p => p
/-- What is kept while keys and trees are put. -/
structure Good (B : Nat) (z : Int) (p : List ByteArray × List T) : Prop where
  asc : Asc p.1
  len : p.1.length = p.2.length
  few : p.1.length ≤ B
  ks : ∀ s ∈ p.1, (s.size : Int) ≤ 60
  fit : fitL 60 p.2
  size : sizeL p.2 ≤ z
theorem fitL_iff {B : Int} {l : List T} : fitL B l ↔ ∀ t ∈ l, t.fit B := ⟨fun h t ht => fitL_in h t ht, fitL_of⟩
theorem Good.put {B : Nat} {z : Int} {p : List ByteArray × List T} (h : Good B z p) {k : ByteArray} {t : T} (hk : (k.size : Int) ≤ 60) (ht : t.fit 60) : Good (B + 1) (z + sizeT t) (putS k t false p.1 p.2) := by
  have h1 := (putS_len k t false p.1 p.2).1
  have h2 := putS_mem k t false p.1 p.2
  have h3 := putS_size k t false p.1 p.2
  have h4 := h.few
  have h5 := h.size
  refine ⟨putS_asc h.asc h.len, putS_len2 h.asc h.len, by simp at h1; omega, fun s hs => ?_, fitL_iff.2 fun x hx => ?_, by simp at h3; omega⟩
  · rcases h2.1 s hs with rfl | h6
    · exact hk
    · exact h.ks s h6
  · rcases h2.2 x hx with rfl | h6
    · exact ht
    · exact fitL_in h.fit x h6
/-- A map that is ok. -/
theorem okT_map {k n : Int} {s : ByteArray} {ks : List ByteArray} {l : List T} (h : okT (.mk k n s ks l)) (hk : k = 6) : n = 0 ∧ s = ⟨#[]⟩ ∧ ks.length = l.length ∧ okKeys ks := by
  have h1 := h.1
  simp only [formT] at h1
  obtain ⟨h1, h2, h3, h4, h5, h6, h7, h8, h9, h10, h11, h12⟩ := h1
  exact ⟨by omega, h3.resolve_left (by omega), h11 hk⟩
theorem good_map {k n : Int} {s : ByteArray} {ks : List ByteArray} {l : List T} (h : okT (.mk k n s ks l)) (hk : k = 6) : Good 60 60 (ks, l) := by
  obtain ⟨h1, h2, h3, h4⟩ := okT_map h hk
  have h5 := okT_fit h
  simp only [T.fit] at h5
  obtain ⟨_, _, _, h6, h7, h8⟩ := h5
  have h9 := okT_size h
  simp only [sizeT] at h9
  exact ⟨okKeys_asc h4, h3, by have := h6.1; unfold lenB at this; show ks.length ≤ 60; omega, h6.2, h8, by show sizeL l ≤ 60; omega⟩
/-- Two trees that are ok, added: whatever comes of it. -/
noncomputable def addRaw : T → T → Option T
  | .mk k n s ks l, .mk k' n' s' ks' l' =>
    if k = 0 then some (.mk k' n' s' ks' l') else if k' = 0 then some (.mk k n s ks l) else if k ≠ k' then none
    else if k = 3 then some (.mk 3 (n + n') ⟨#[]⟩ [] []) else if k = 4 then some (.mk 4 0 (s ++ s') [] [])
    else if k = 5 then some (.mk 5 0 ⟨#[]⟩ [] (l ++ l')) else if k = 6 then some (.mk 6 0 ⟨#[]⟩ (foldP ks' l' (ks, l)).1 (foldP ks' l' (ks, l)).2) else none
def addOk (a b : T) : Prop := okT a ∧ okT b ∧ ∃ t, addRaw a b = some t ∧ okT t
noncomputable instance (a b : T) : Decidable (addOk a b) := Classical.propDecidable _
end Go.Proofs.Pw
/- Trees added: both programs. -/
set_option linter.unusedSimpArgs false
set_option maxRecDepth 20000
namespace Go.Proofs.Pw
set_option linter.unusedSectionVars false
variable [Globs]
end Go.Proofs.Pw
/- Trees in new memory that nobody else holds. -/
set_option linter.unusedSimpArgs false
set_option maxRecDepth 20000
namespace Go.Proofs.Pw
set_option linter.unusedSectionVars false
variable [Globs]
end Go.Proofs.Pw
/- Marks: what the laws write into trees, and look for. -/
namespace Go.Proofs.Pw
def digF : Nat → Int → ByteArray → ByteArray
  | 0, _, out => out
  | f + 1, k, out => if 0 < k then digF f (k.tdiv 10) (bytesS [48 + k.tmod 10] ++ out) else out
def mkS (k : Int) : ByteArray := if k ≤ 0 then ⟨#[109, 48]⟩ else ⟨#[109]⟩ ++ digF k.toNat k ⟨#[]⟩
def mkKs : List ByteArray → Int → List ByteArray
  | [], _ => []
  | _ :: r, k => mkS k :: mkKs r (k + 1)
mutual
def nmT : T → Int
  | .mk _ _ _ ks l => 3 + ks.length + nmL l
def nmL : List T → Int
  | [] => 0
  | t :: l => nmT t + nmL l
end
mutual
def mkT : T → Int → T
  | .mk _ _ _ ks l, k => .mk k (k + 1) (mkS (k + 2)) (mkKs ks (k + 3)) (mkL l (k + 3 + ks.length))
def mkL : List T → Int → List T
  | [], _ => []
  | t :: l, k => mkT t k :: mkL l (k + nmT t)
end
theorem mkKs_len : ∀ {ks : List ByteArray} {k : Int}, (mkKs ks k).length = ks.length
  | [], _ => rfl
  | _ :: r, k => by simp [mkKs, mkKs_len (ks := r)]
mutual
theorem nmT_nn : ∀ t : T, 3 ≤ nmT t
  | .mk _ _ _ ks l => by have := nmL_nn l; simp only [nmT]; omega
theorem nmL_nn : ∀ l : List T, 0 ≤ nmL l
  | [] => by simp [nmL]
  | t :: l => by have := nmT_nn t; have := nmL_nn l; simp only [nmL]; omega
end
mutual
theorem nmT_mk : ∀ (t : T) (k : Int), nmT (mkT t k) = nmT t
  | .mk _ _ _ ks l, k => by simp only [mkT, nmT, mkKs_len, nmL_mk l]
theorem nmL_mk : ∀ (l : List T) (k : Int), nmL (mkL l k) = nmL l
  | [], _ => rfl
  | t :: l, k => by simp only [mkL, nmL, nmT_mk t, nmL_mk l]
end
theorem mkKs_mk : ∀ (ks : List ByteArray) (k : Int), mkKs (mkKs ks k) k = mkKs ks k
  | [], _ => rfl
  | _ :: r, k => by simp only [mkKs, mkKs_mk r]
mutual
theorem mkT_mk : ∀ (t : T) (k : Int), mkT (mkT t k) k = mkT t k
  | .mk _ _ _ ks l, k => by simp only [mkT, mkKs_mk, mkKs_len, mkL_mk l]
theorem mkL_mk : ∀ (l : List T) (k : Int), mkL (mkL l k) k = mkL l k
  | [], _ => rfl
  | t :: l, k => by simp only [mkL, mkT_mk t, nmT_mk t, mkL_mk l]
end
mutual
theorem nmT_sz : ∀ {t : T} {left : Int}, 0 ≤ left → 0 ≤ szT t left → nmT t ≤ 3 + 3 * (left - szT t left)
  | .mk k n s ks l, left, h, h0 => by
    simp only [szT] at h0 ⊢
    split at h0
    · omega
    · rename_i c1
      rw [if_neg c1]
      split at h0
      · omega
      · rename_i c2
        rw [if_neg c2]
        split at h0
        · omega
        · rename_i c3
          rw [if_neg c3]
          have h1 := szStrS_le (ks := ks) (left := left - s.size) (by omega)
          have h2 : szStrS ks (left - s.size) ≤ left - s.size - ks.length := by
            have := h1; simp only [szStrS] at c2 ⊢; split
            · rename_i c; rw [if_pos c] at c2; omega
            · exact (szStr_le (by omega)).1
          have h3 := nmL_sz (l := l) (left := szStrS ks (left - s.size) - l.length) (by omega) h0
          simp only [nmT]; omega
theorem nmL_sz : ∀ {l : List T} {left : Int}, 0 ≤ left → 0 ≤ szTL l left → nmL l ≤ 3 * l.length + 3 * (left - szTL l left)
  | [], left, h, h0 => by simp [nmL, szTL]
  | t :: r, left, h, h0 => by
    simp only [szTL] at h0 ⊢
    split at h0
    · omega
    · rename_i c1
      rw [if_neg c1]
      have h1 := nmT_sz (t := t) h (by omega)
      have h2 := nmL_sz (l := r) (left := szT t left) (by omega) h0
      simp only [nmL, List.length_cons]; omega
end
end Go.Proofs.Pw
/- What is told is nobody else's. -/
set_option linter.unusedSimpArgs false
set_option maxRecDepth 20000
namespace Go.Proofs.Pw
set_option linter.unusedSectionVars false
theorem zs : T.zero.s = ⟨#[]⟩ := rfl
variable [Globs]
end Go.Proofs.Pw
/- Ways: what is put at their end. -/
set_option linter.unusedSimpArgs false
set_option maxRecDepth 20000
namespace Go.Proofs.Pw
set_option linter.unusedSectionVars false
variable [Globs]
def x_PartPutI : X := (.seq (.reg [⟨some 3, none, .box (.t 0) (some 5)⟩, ⟨some 5, none, .box (.t 2) (some 5)⟩, ⟨some 6, none, .alloc [(.c (.int .i64 0)), (.c (.int .i64 0)), (.c (.str ⟨#[]⟩)), (.z 1), (.z 5)]⟩, ⟨some 7, none, .mv (.k (.c (.bool false)))⟩] none [1, 3, 5, 6]) (.seq (.seq (.reg [⟨some 8, none, .load (.t 3) (some 5)⟩, ⟨some 9, none, .call 15 [(.t 8)]⟩, ⟨some 10, none, .not (.t 9)⟩, ⟨some 11, none, .mv (.t 10)⟩, ⟨some 12, some (11, false), .mv (.t 1)⟩, ⟨some 13, some (11, false), .call 38 [(.t 12)]⟩, ⟨some 14, some (11, false), .not (.t 13)⟩, ⟨some 15, none, .pick (.t 11) (.k (.c (.bool true))) (.t 14)⟩, ⟨some 16, none, .mv (.t 15)⟩, ⟨some 17, some (16, false), .load (.t 5) (some 5)⟩, ⟨some 18, some (16, false), .call 15 [(.t 17)]⟩, ⟨some 19, some (16, false), .not (.t 18)⟩, ⟨some 20, none, .pick (.t 16) (.k (.c (.bool true))) (.t 19)⟩, ⟨some 21, none, .mv (.t 20)⟩, ⟨some 22, some (21, false), .fa (.t 3) 0⟩, ⟨some 23, some (21, false), .load (.t 22) none⟩, ⟨some 24, some (21, false), .bin false .neq (.t 23) (.k (.c (.int .i64 6)))⟩, ⟨some 25, some (21, false), .mv (.t 24)⟩, ⟨some 26, some (25, true), .fa (.t 3) 0⟩, ⟨some 27, some (25, true), .load (.t 26) none⟩, ⟨some 28, some (25, true), .bin false .neq (.t 27) (.k (.c (.int .i64 0)))⟩, ⟨some 29, some (21, false), .pick (.t 25) (.t 28) (.k (.c (.bool false)))⟩, ⟨some 30, none, .pick (.t 21) (.k (.c (.bool true))) (.t 29)⟩] none [1, 3, 5, 6, 30]) (.cond (.t 30) (.seq (.reg [⟨some 31, none, .build [(.c (.int .i64 0)), (.c (.int .i64 0)), (.c (.str ⟨#[]⟩)), (.z 1), (.z 5)] []⟩, ⟨none, none, .st (.t 6) (.t 31) (some 5)⟩, ⟨some 7, none, .mv (.k (.c (.bool false)))⟩] none [6, 7]) .ret) .skip)) (.seq (.reg [⟨some 32, none, .load (.t 3) (some 5)⟩, ⟨some 33, none, .mv (.t 1)⟩, ⟨some 34, none, .load (.t 5) (some 5)⟩, ⟨some 35, none, .call 55 [(.t 32), (.t 33), (.t 34)]⟩, ⟨some 36, none, .call 25 [(.t 35), (.k (.c (.bool true)))]⟩, ⟨some 37, none, .ext (.t 36) 0⟩, ⟨some 38, none, .ext (.t 36) 1⟩, ⟨none, none, .st (.t 6) (.t 37) (some 5)⟩, ⟨some 7, none, .mv (.t 38)⟩] none [6, 7]) .ret)))
theorem chk_PartPutI : chkX Go.Proofs.Tryd.prog 39 (Go.Proofs.Tryd.f46.body.getD .skip) x_PartPutI = true := by kernel_rfl
theorem rs_PartPutI : okRs Go.Proofs.Tryd.prog Go.Proofs.Tryd.f46.results.toList [.cell 6 (some 5), .tmp 7] = true := by kernel_rfl
theorem call_PartPutI : okCallee Go.Proofs.Tryd.prog 46 = true := by kernel_rfl
noncomputable def partPutO (v : T) (key : ByteArray) (x : T) : Option T := if (v.kind = 6 ∨ v.kind = 0) ∧ okT (putT v key x) then some (putT v key x) else none
def setL (l : List T) (i : Nat) (x : T) : List T := (l ++ List.replicate (i + 1 - l.length) T.zero).set i x
def setAt (n a : Int) : Nat := (if a < 0 then a + n else a).toNat
def setT (v : T) (a : Int) (x : T) : T := .mk 5 0 ⟨#[]⟩ [] (setL v.list (setAt v.list.length a) x)
noncomputable def partSetO (v : T) (a : Int) (x : T) : Option T := if (v.kind = 5 ∨ v.kind = 0) ∧ -(v.list.length : Int) ≤ a ∧ okT (setT v a x) then some (setT v a x) else none
noncomputable def partO (s : Stp) (v x : T) : Option T := if s.map = true then partPutO v s.key x else partSetO v s.at' x
/-- What lies there then, if something may be put there. -/
noncomputable def wputO : T → List Stp → T → Option T
  | _, [], x => some x
  | v, s :: p, x => if canGo s v then (match wputO (oneT s v) p x with
    | some y => partO s v y
    | none => none) else none
noncomputable def pathPutO (v : T) (p : List Stp) (x : T) : Option T := if okT v ∧ wayOk p ∧ okT x then wputO v p x else none
noncomputable def wgetO : T → List Stp → Option T
  | v, [] => some v
  | v, s :: p => if canGo s v then wgetO (oneT s v) p else none
noncomputable def pathGetO (v : T) (p : List Stp) : Option T := if okT v ∧ wayOk p then wgetO v p else none
noncomputable def optT (o : Option T) : T := o.getD T.zero
theorem partPutO_ok {v : T} {key : ByteArray} {x y : T} (h : partPutO v key x = some y) : okT y := by
  unfold partPutO at h; split at h
  · rename_i hc; cases h; exact hc.2
  · cases h
theorem partSetO_ok {v : T} {a : Int} {x y : T} (h : partSetO v a x = some y) : okT y := by
  unfold partSetO at h; split at h
  · rename_i hc; cases h; exact hc.2.2
  · cases h
theorem wputO_ok : ∀ {p : List Stp} {v x y : T}, okT x → wputO v p x = some y → okT y := by
  intro p
  cases p with
  | nil => intro v x y hx h; simp only [wputO, Option.some.injEq] at h; subst h; exact hx
  | cons s p =>
    intro v x y hx h
    simp only [wputO] at h
    split at h
    · split at h
      · unfold partO at h
        split at h
        · exact partPutO_ok h
        · exact partSetO_ok h
      · cases h
    · cases h
theorem atT_ok {a : Int} {v : T} (h : okT v) : okT (atT a v) := by
  unfold atT
  split
  · rename_i hc
    obtain ⟨k, n, s, ks, l⟩ := v
    have lt := placeI_lt hc.2
    simp only [T.list] at lt hc ⊢
    have hi : (placeI l.length a).toNat < l.length := by omega
    rw [List.getD_eq_getElem?_getD, List.getElem?_eq_getElem hi]
    exact okT_elem h (List.getElem_mem hi)
  · exact okT_zero'
theorem oneT_ok {s : Stp} {v : T} (h : okT v) : okT (oneT s v) := by
  unfold oneT; split
  · exact getT_ok h
  · exact atT_ok h
theorem optT_ok {o : Option T} (h : ∀ y, o = some y → okT y) : okT (optT o) := by
  cases o with
  | none => exact okT_zero'
  | some y => exact h y rfl
theorem okT_keysA {v : T} (h : okT v) (hk : v.kind = 6 ∨ v.kind = 0) : Asc v.keys ∧ v.keys.length = v.list.length ∧ v.list.length ≤ 60 := by
  have h2 := okT_size h
  rcases hk with hk | hk
  · obtain ⟨k, n, s, ks, l⟩ := v
    simp only [T.kind] at hk; subst hk
    obtain ⟨rfl, rfl, e1, e2⟩ := okT_map h rfl
    have G := good_map h rfl
    have := sizeL_len l
    simp only [sizeT] at h2
    exact ⟨G.asc, e1, by show l.length ≤ 60; omega⟩
  · rw [okT_none h hk]; exact ⟨by simp [T.keys, T.zero, Asc], rfl, by simp [T.list, T.zero]⟩
theorem setL_len {l : List T} {i : Nat} {x : T} (h : i < 60) (hl : l.length ≤ 60) : (setL l i x).length ≤ 60 ∧ i < (l ++ List.replicate (i + 1 - l.length) T.zero).length := by simp [setL]; omega
theorem setL_mem {l : List T} {i : Nat} {x t : T} (h : t ∈ setL l i x) : t ∈ l ∨ t = T.zero ∨ t = x := by
  unfold setL at h
  rcases List.mem_or_eq_of_mem_set h with h | h
  · rcases List.mem_append.1 h with h | h
    · exact .inl h
    · exact .inr (.inl (List.mem_replicate.1 h).2)
  · exact .inr (.inr h)
theorem putT_fit {v x : T} {key : ByteArray} (hv : okT v) (hk : v.kind = 6 ∨ v.kind = 0) (ck : okS key) (hx : okT x) : (putT v key x).fit 2000000 ∧ sizeT (putT v key x) ≤ 1048577 := by
  have h0 := okT_size hx
  have hf := okT_fit hx
  have hks : (key.size : Int) ≤ 60 := by have := ck.2; omega
  have G : ∃ B z, Good B z (v.keys, v.list) ∧ B ≤ 60 ∧ z ≤ 60 := by
    rcases hk with hk | hk
    · obtain ⟨k, n, s, ks, l⟩ := v
      simp only [T.kind] at hk; subst hk
      exact ⟨60, 60, good_map hv rfl, by omega, by omega⟩
    · rw [okT_none hv hk]
      exact ⟨0, 0, ⟨by simp [T.keys, T.zero, Asc], rfl, by simp [T.keys, T.zero], by simp [T.keys, T.zero], trivial, by simp [T.list, T.zero, sizeL]⟩, by omega, by omega⟩
  obtain ⟨B, z, G, hB, hz⟩ := G
  have G2 := G.put hks hf
  have q1 := G2.len
  have q2 := G2.few
  have q3 := G2.size
  simp only at q1 q2 q3
  have l2 : ((putS key x false v.keys v.list).2.length : Int) ≤ 61 := by omega
  have l1 : ((putS key x false v.keys v.list).1.length : Int) ≤ 61 := by omega
  constructor
  · refine ⟨by unfold i64; omega, by unfold i64; omega, by unfold lenB; decide, ⟨by unfold lenB; omega, fun s hs => by have := G2.ks s hs; unfold lenB; omega⟩, by unfold lenB; omega, fitL_of fun t ht => T.fit_mono (by decide) (fitL_mem G2.fit t ht)⟩
  · show 1 + sizeL (putS key x false v.keys v.list).2 ≤ _
    omega
noncomputable def spPartPutI  : Spec := Spec.of (ι := T × ByteArray × T) [false, false, false] (fun i => [.d (.agg i.1.enc), .d (.one (.str i.2.1)), .d (.agg i.2.2.enc)]) (fun i => okT i.1 ∧ okS i.2.1 ∧ okT i.2.2) (fun i => [.d (.agg (optT (partPutO i.1 i.2.1 i.2.2)).enc), .d (.one (.bool (decide ((partPutO i.1 i.2.1 i.2.2).isSome = true))))]) (fun _ => [.gone, .gone, .gone])
theorem spPartPutI_inj : ∀ i j : T × ByteArray × T, (fun (i : T × ByteArray × T) => ([.d (.agg i.1.enc), .d (.one (.str i.2.1)), .d (.agg i.2.2.enc)] : List AV)) i = (fun (i : T × ByteArray × T) => ([.d (.agg i.1.enc), .d (.one (.str i.2.1)), .d (.agg i.2.2.enc)] : List AV)) j → i = j := by
  rintro ⟨v, key, x⟩ ⟨v', key', x'⟩ h
  simp only [Prod.mk.injEq]
  simpa [strs_eq, T.enc_eq, encL_eq, F.enc_eq, encF_eq, Tk.enc_eq, encTk_eq, Gn.enc_eq, ints_eq] using h
theorem spPartPutI_md  : (spPartPutI).md = [false, false, false] := rfl
theorem spPartPutI_pre  (v : T) (key : ByteArray) (x : T) : (spPartPutI).pre [.d (.agg v.enc), .d (.one (.str key)), .d (.agg x.enc)] = (okT v ∧ okS key ∧ okT x) := Spec.of_pre' spPartPutI_inj (v, key, x)
theorem spPartPutI_alts  : (spPartPutI).alts = none := rfl
theorem spPartPutI_res  (v : T) (key : ByteArray) (x : T) : (spPartPutI).res [.d (.agg v.enc), .d (.one (.str key)), .d (.agg x.enc)] = [.d (.agg (optT (partPutO v key x)).enc), .d (.one (.bool (decide ((partPutO v key x).isSome = true))))] := Spec.of_res spPartPutI_inj (v, key, x)
theorem spPartPutI_out  (v : T) (key : ByteArray) (x : T) : (spPartPutI).out [.d (.agg v.enc), .d (.one (.str key)), .d (.agg x.enc)] = [.gone, .gone, .gone] := Spec.of_out spPartPutI_inj (v, key, x)
set_option maxHeartbeats 2000000 in
theorem PartPutI_sound : Sound Go.Proofs.Tryd.prog 46 spPartPutI := by
  refine sound_fam (GOK.cons (l := [(38, spTextOk), (55, spPut), (25, spTold)]) call_ValOkI valOkI_sound (GOK.cons call_textOk textOk_sound (GOK.cons call_put put_sound (GOK.cons call_told told_sound GOK.nil)))) Go.Proofs.Tryd.func46 (c := Go.Proofs.Tryd.f46.body.getD .skip) rfl (n := 39) rfl chk_PartPutI rs_PartPutI (fun _ => by simp) ?_ ?_
  · exact spPartPutI_inj
  · rintro ⟨v, key, x⟩ ⟨h1, h2, h3⟩
    simp only at h1 h2 h3
    have f0 := T.enc_len v
    have f1 := T.enc_len x
    have o1 : ((okI v 1 60).1 = true) = True := eq_true ((okI_iff _).2 h1)
    have o2 : ((okI x 1 60).1 = true) = True := eq_true ((okI_iff _).2 h3)
    have o3 := eq_true h2
    have g1 := T.fit_mono (B := 140737488355328) (by decide) (okT_fit h1)
    have g2 := T.fit_mono (B := 140737488355328) (by decide) (okT_fit h3)
    have g3 : lenB 140737488355328 key.size := by have := h2.2; unfold lenB; omega
    by_cases c : v.kind = 6 ∨ v.kind = 0
    · obtain ⟨a1, a2, a3⟩ := okT_keysA h1 c
      have a4 : lenB 1000000 v.keys.length := by unfold lenB; omega
      have a5 := (putT_fit h1 c h2 h3).1
      have f2 := T.enc_len (putT v key x)
      have e : partPutO v key x = if okT (putT v key x) then some (putT v key x) else none := by unfold partPutO; simp [c]
      have e1 : optT (partPutO v key x) = toldT true (putT v key x) := by rw [e]; unfold toldT; split <;> simp_all [optT]
      have e2 : ((partPutO v key x).isSome = true) = okT (putT v key x) := by rw [e]; split <;> simp_all
      have f3 := T.enc_len (toldT true (putT v key x))
      obtain ⟨k, n, s, ks, l⟩ := v
      simp only [T.kind] at c
      have foldT' := foldT k n s ks l
      rcases c with rfl | rfl
      · simp only [x_PartPutI, rg, go_sem, seval, Prod.fst, T.enc, foldT, f1, f2, f3, o1, o2, o3, e1, e2, spValOkI_md, spValOkI_pre, spValOkI_alts, spValOkI_res, spValOkI_out, spTextOk_md, spTextOk_pre, spTextOk_alts, spTextOk_res, spTextOk_out, spPut_md, spPut_pre, spPut_alts, spPut_res, spPut_out, spTold_md, spTold_pre, spTold_alts, spTold_res, spTold_out]
        repeat' (first | with_reducible assumption | with_reducible refine And.intro ?_ ?_ | intro _)
        all_goals first | omega | assumption | skip
      · simp only [x_PartPutI, rg, go_sem, seval, Prod.fst, T.enc, foldT, f1, f2, f3, o1, o2, o3, e1, e2, spValOkI_md, spValOkI_pre, spValOkI_alts, spValOkI_res, spValOkI_out, spTextOk_md, spTextOk_pre, spTextOk_alts, spTextOk_res, spTextOk_out, spPut_md, spPut_pre, spPut_alts, spPut_res, spPut_out, spTold_md, spTold_pre, spTold_alts, spTold_res, spTold_out]
        repeat' (first | with_reducible assumption | with_reducible refine And.intro ?_ ?_ | intro _)
        all_goals first | omega | assumption | skip
    · have e : partPutO v key x = none := by unfold partPutO; rw [if_neg (fun h => c h.1)]
      obtain ⟨k, n, s, ks, l⟩ := v
      simp only [T.kind, not_or] at c
      have c1 := eq_false c.1
      have c2 := eq_false c.2
      simp only [x_PartPutI, rg, go_sem, seval, Prod.fst, T.enc, foldT, f1, o1, o2, o3, e, c1, c2, optT, Option.getD_none, T.zero_enc, Option.isSome_none, spValOkI_md, spValOkI_pre, spValOkI_alts, spValOkI_res, spValOkI_out, spTextOk_md, spTextOk_pre, spTextOk_alts, spTextOk_res, spTextOk_out]
      repeat' (first | with_reducible assumption | with_reducible refine And.intro ?_ ?_ | intro _)
      all_goals first | omega | assumption | skip
end Go.Proofs.Pw
/- Ways: a place of a row is set. -/
set_option linter.unusedSimpArgs false
set_option maxRecDepth 20000
namespace Go.Proofs.Pw
set_option linter.unusedSectionVars false
variable [Globs]
theorem encL_zero (l : List T) : encL l ++ [[C.int .i64 0, .int .i64 0, .str ⟨#[]⟩, .row 1 [], .row 5 []]] = encL (l ++ [T.zero]) := by rw [← encL_appL]; rfl
theorem sizeL_60 : ∀ {l : List T}, (∀ t ∈ l, sizeT t ≤ 60) → sizeL l ≤ 60 * (l.length : Int)
  | [], _ => by simp [sizeL]
  | t :: l, h => by
    have h1 := sizeL_60 (l := l) fun x hx => h x (.tail _ hx)
    have h2 := h t (.head _)
    simp only [sizeL, List.length_cons]; omega
theorem setT_fit {v x : T} {a : Int} (hv : okT v) (hx : okT x) (h1 : -(v.list.length : Int) ≤ a) (h2 : a ≤ 59) : (setT v a x).fit 2000000 ∧ sizeT (setT v a x) ≤ 1048577 := by
  have hl : v.list.length ≤ 60 := by
    obtain ⟨k, n, s, ks, l⟩ := v
    have := okT_size hv
    have := sizeL_len l
    simp only [sizeT] at *
    show l.length ≤ 60; omega
  have hi : setAt v.list.length a < 60 := by unfold setAt; split <;> omega
  have hm : ∀ t ∈ setL v.list (setAt v.list.length a) x, okT t := fun t ht => by
    rcases setL_mem ht with h | rfl | rfl
    · obtain ⟨k, n, s, ks, l⟩ := v
      exact okT_elem hv h
    · exact okT_zero'
    · exact hx
  have ll := (setL_len (x := x) hi hl).1
  constructor
  · exact rowT_fit (by omega) (by unfold lenB; omega) (fitL_of fun t ht => T.fit_mono (by decide) (okT_fit (hm t ht)))
  · show 1 + sizeL _ ≤ _
    have : sizeL (setL v.list (setAt v.list.length a) x) ≤ 60 * (setL v.list (setAt v.list.length a) x).length := sizeL_60 fun t ht => okT_size (hm t ht)
    omega
theorem partSetO_el {v x : T} {a : Int} (h1 : v.kind = 5 ∨ v.kind = 0) (h2 : -(v.list.length : Int) ≤ a) : optT (partSetO v a x) = toldT true (setT v a x) ∧ ((partSetO v a x).isSome = true) = okT (setT v a x) := by
  have e : partSetO v a x = if okT (setT v a x) then some (setT v a x) else none := by unfold partSetO; simp [h1, h2]
  constructor
  · rw [e]; unfold toldT; split <;> simp_all [optT]
  · rw [e]; split <;> simp_all
end Go.Proofs.Pw
/- Ways: a place of a row is set, in the given program. -/
set_option linter.unusedSimpArgs false
set_option maxRecDepth 20000
namespace Go.Proofs.Pw
set_option linter.unusedSectionVars false
variable [Globs]
def x_PartSetI : X := (.seq (.reg [⟨some 3, none, .box (.t 0) (some 5)⟩, ⟨some 5, none, .box (.t 2) (some 5)⟩, ⟨some 6, none, .alloc [(.c (.int .i64 0)), (.c (.int .i64 0)), (.c (.str ⟨#[]⟩)), (.z 1), (.z 5)]⟩, ⟨some 7, none, .mv (.k (.c (.bool false)))⟩] none [1, 3, 5, 6]) (.seq (.seq (.reg [⟨some 9, none, .load (.t 3) (some 5)⟩, ⟨some 10, none, .call 15 [(.t 9)]⟩, ⟨some 11, none, .not (.t 10)⟩, ⟨some 12, none, .mv (.t 11)⟩, ⟨some 13, some (12, false), .load (.t 5) (some 5)⟩, ⟨some 14, some (12, false), .call 15 [(.t 13)]⟩, ⟨some 15, some (12, false), .not (.t 14)⟩, ⟨some 16, none, .pick (.t 12) (.k (.c (.bool true))) (.t 15)⟩, ⟨some 17, none, .mv (.t 16)⟩, ⟨some 18, some (17, false), .fa (.t 3) 0⟩, ⟨some 19, some (17, false), .load (.t 18) none⟩, ⟨some 20, some (17, false), .bin false .neq (.t 19) (.k (.c (.int .i64 5)))⟩, ⟨some 21, some (17, false), .mv (.t 20)⟩, ⟨some 22, some (21, true), .fa (.t 3) 0⟩, ⟨some 23, some (21, true), .load (.t 22) none⟩, ⟨some 24, some (21, true), .bin false .neq (.t 23) (.k (.c (.int .i64 0)))⟩, ⟨some 25, some (17, false), .pick (.t 21) (.t 24) (.k (.c (.bool false)))⟩, ⟨some 26, none, .pick (.t 17) (.k (.c (.bool true))) (.t 25)⟩, ⟨some 27, none, .mv (.t 26)⟩, ⟨some 28, some (27, false), .mv (.t 1)⟩, ⟨some 29, some (27, false), .fa (.t 3) 4⟩, ⟨some 30, some (27, false), .load (.t 29) none⟩, ⟨some 31, some (27, false), .len (.t 30) false⟩, ⟨some 32, some (27, false), .bin false .sub (.k (.c (.int .i64 0))) (.t 31)⟩, ⟨some 33, some (27, false), .call 39 [(.t 28), (.t 32), (.k (.c (.int .i64 59)))]⟩, ⟨some 34, some (27, false), .not (.t 33)⟩, ⟨some 35, none, .pick (.t 27) (.k (.c (.bool true))) (.t 34)⟩] none [1, 3, 5, 6, 35]) (.cond (.t 35) (.seq (.reg [⟨some 36, none, .build [(.c (.int .i64 0)), (.c (.int .i64 0)), (.c (.str ⟨#[]⟩)), (.z 1), (.z 5)] []⟩, ⟨none, none, .st (.t 6) (.t 36) (some 5)⟩, ⟨some 7, none, .mv (.k (.c (.bool false)))⟩] none [6, 7]) .ret) .skip)) (.seq (.seq (.reg [⟨some 37, none, .mv (.t 1)⟩, ⟨some 38, none, .bin false .lss (.t 37) (.k (.c (.int .i64 0)))⟩] none [1, 3, 5, 6, 38]) (.cond (.t 38) (.reg [⟨some 39, none, .mv (.t 1)⟩, ⟨some 40, none, .fa (.t 3) 4⟩, ⟨some 41, none, .load (.t 40) none⟩, ⟨some 42, none, .len (.t 41) false⟩, ⟨some 43, none, .bin false .add (.t 39) (.t 42)⟩, ⟨some 1, none, .mv (.t 43)⟩] none [1, 3, 5, 6]) .skip)) (.seq (.reg [⟨some 44, none, .fa (.t 3) 4⟩, ⟨some 45, none, .load (.t 44) none⟩, ⟨some 46, none, .call 56 [(.t 45)]⟩, ⟨some 8, none, .mv (.t 46)⟩] none [1, 5, 6, 8]) (.seq (.block 0 (.loop (.seq (.seq (.reg [⟨some 47, none, .mv (.t 8)⟩, ⟨some 48, none, .len (.t 47) false⟩, ⟨some 49, none, .mv (.t 1)⟩, ⟨some 50, none, .bin false .leq (.t 48) (.t 49)⟩] none [1, 5, 6, 8, 50]) (.cond (.t 50) .skip (.exit 0))) (.block 1 (.reg [⟨some 51, none, .mv (.t 8)⟩, ⟨some 52, none, .build [(.c (.int .i64 0)), (.c (.int .i64 0)), (.c (.str ⟨#[]⟩)), (.z 1), (.z 5)] []⟩, ⟨some 53, none, .bsl 5 [((.t 52), (some 5))]⟩, ⟨some 54, none, .app (.t 51) (.t 53) 5 80 []⟩, ⟨some 8, none, .mv (.t 54)⟩] none [1, 5, 6, 8]))))) (.seq (.reg [⟨some 55, none, .mv (.t 8)⟩, ⟨some 56, none, .mv (.t 1)⟩, ⟨some 57, none, .load (.t 5) (some 5)⟩, ⟨some 58, none, .ia (.t 55) (.t 56) 5⟩, ⟨none, none, .st (.t 58) (.t 57) (some 5)⟩] none [6, 8]) (.seq (.reg [⟨some 59, none, .mv (.t 8)⟩, ⟨some 60, none, .call 57 [(.t 59)]⟩, ⟨some 61, none, .call 25 [(.t 60), (.k (.c (.bool true)))]⟩, ⟨some 62, none, .ext (.t 61) 0⟩, ⟨some 63, none, .ext (.t 61) 1⟩, ⟨none, none, .st (.t 6) (.t 62) (some 5)⟩, ⟨some 7, none, .mv (.t 63)⟩] none [6, 7]) .ret)))))))
theorem chk_PartSetI : chkX Go.Proofs.Tryd.prog 64 (Go.Proofs.Tryd.f47.body.getD .skip) x_PartSetI = true := by kernel_rfl
theorem rs_PartSetI : okRs Go.Proofs.Tryd.prog Go.Proofs.Tryd.f47.results.toList [.cell 6 (some 5), .tmp 7] = true := by kernel_rfl
theorem call_PartSetI : okCallee Go.Proofs.Tryd.prog 47 = true := by kernel_rfl
noncomputable def spPartSetI  : Spec := Spec.of (ι := T × Int × T) [false, false, false] (fun i => [.d (.agg i.1.enc), .d (.one (.int .i64 i.2.1)), .d (.agg i.2.2.enc)]) (fun i => okT i.1 ∧ okT i.2.2 ∧ -9223372036854775808 ≤ i.2.1 ∧ i.2.1 ≤ 59) (fun i => [.d (.agg (optT (partSetO i.1 i.2.1 i.2.2)).enc), .d (.one (.bool (decide ((partSetO i.1 i.2.1 i.2.2).isSome = true))))]) (fun _ => [.gone, .gone, .gone])
theorem spPartSetI_inj : ∀ i j : T × Int × T, (fun (i : T × Int × T) => ([.d (.agg i.1.enc), .d (.one (.int .i64 i.2.1)), .d (.agg i.2.2.enc)] : List AV)) i = (fun (i : T × Int × T) => ([.d (.agg i.1.enc), .d (.one (.int .i64 i.2.1)), .d (.agg i.2.2.enc)] : List AV)) j → i = j := by
  rintro ⟨v, a, x⟩ ⟨v', a', x'⟩ h
  simp only [Prod.mk.injEq]
  simpa [strs_eq, T.enc_eq, encL_eq, F.enc_eq, encF_eq, Tk.enc_eq, encTk_eq, Gn.enc_eq, ints_eq] using h
theorem spPartSetI_md  : (spPartSetI).md = [false, false, false] := rfl
theorem spPartSetI_pre  (v : T) (a : Int) (x : T) : (spPartSetI).pre [.d (.agg v.enc), .d (.one (.int .i64 a)), .d (.agg x.enc)] = (okT v ∧ okT x ∧ -9223372036854775808 ≤ a ∧ a ≤ 59) := Spec.of_pre' spPartSetI_inj (v, a, x)
theorem spPartSetI_alts  : (spPartSetI).alts = none := rfl
theorem spPartSetI_res  (v : T) (a : Int) (x : T) : (spPartSetI).res [.d (.agg v.enc), .d (.one (.int .i64 a)), .d (.agg x.enc)] = [.d (.agg (optT (partSetO v a x)).enc), .d (.one (.bool (decide ((partSetO v a x).isSome = true))))] := Spec.of_res spPartSetI_inj (v, a, x)
theorem spPartSetI_out  (v : T) (a : Int) (x : T) : (spPartSetI).out [.d (.agg v.enc), .d (.one (.int .i64 a)), .d (.agg x.enc)] = [.gone, .gone, .gone] := Spec.of_out spPartSetI_inj (v, a, x)
set_option maxHeartbeats 2000000 in
theorem PartSetI_sound : Sound Go.Proofs.Tryd.prog 47 spPartSetI := by
  refine sound_fam (GOK.cons (l := [(39, spWithin), (56, spCloneV), (57, spRow), (25, spTold)]) call_ValOkI valOkI_sound (GOK.cons call_within within_sound (GOK.cons call_CloneV CloneV_sound (GOK.cons call_row row_sound (GOK.cons call_told told_sound GOK.nil))))) Go.Proofs.Tryd.func47 (c := Go.Proofs.Tryd.f47.body.getD .skip) rfl (n := 64) rfl chk_PartSetI rs_PartSetI (fun _ => by simp) ?_ ?_
  · exact spPartSetI_inj
  · rintro ⟨v, a, x⟩ ⟨h1, h2, h3, h4⟩
    simp only at h1 h2 h3 h4
    have f0 := T.enc_len v
    have fx := T.enc_len x
    have o1 : ((okI v 1 60).1 = true) = True := eq_true ((okI_iff _).2 h1)
    have o2 : ((okI x 1 60).1 = true) = True := eq_true ((okI_iff _).2 h2)
    have g1 := T.fit_mono (B := 140737488355328) (by decide) (okT_fit h1)
    have g2 := T.fit_mono (B := 140737488355328) (by decide) (okT_fit h2)
    have hl : v.list.length ≤ 60 := by
      obtain ⟨k, n, s, ks, l⟩ := v
      have := sizeL_len l
      have := okT_size h1
      simp only [sizeT] at *
      show l.length ≤ 60; omega
    by_cases c : v.kind = 5 ∨ v.kind = 0
    · by_cases d : -(v.list.length : Int) ≤ a
      · obtain ⟨e1, e2⟩ := partSetO_el (x := x) c d
        obtain ⟨a5, a6⟩ := setT_fit h1 h2 d h4
        have f3 := T.enc_len (toldT true (setT v a x))
        have f4 := T.enc_len (setT v a x)
        obtain ⟨k, n, s, ks, l⟩ := v
        simp only [T.kind, T.list] at c d hl
        have d1 : (0 - (l.length : Int) ≤ a ∧ a ≤ 59) = True := eq_true ⟨by omega, h4⟩
        have d3 : lenB 1000000 l.length := by unfold lenB; omega
        by_cases b : a < 0
        · have b1 := eq_true b
          obtain ⟨i, hi⟩ : ∃ i : Nat, i = (a + (l.length : Int)).toNat := ⟨_, rfl⟩
          have eb : a + (l.length : Int) = (i : Int) := by omega
          have es : T.mk 5 0 ⟨#[]⟩ [] (setL l i x) = setT (T.mk k n s ks l) a x := by subst hi; unfold setT setAt T.list; rw [if_pos b]
          rw [← es] at e1 e2 a5 a6 f3 f4
          rcases c with rfl | rfl
          · simp only [x_PartSetI, rg, go_sem, seval, Prod.fst, T.enc, foldT, fx, o1, o2, b1, eb, d1, encL_len, spValOkI_md, spValOkI_pre, spValOkI_alts, spValOkI_res, spValOkI_out, spWithin_md, spWithin_pre, spWithin_alts, spWithin_res, spWithin_out, spCloneV_md, spCloneV_pre, spCloneV_alts, spCloneV_res, spCloneV_out]
            repeat' (first | with_reducible assumption | with_reducible refine And.intro ?_ ?_ | intro _)
            all_goals first | omega | assumption | skip
            refine pw_loop (ι := Nat) (fun j => i + 1 - l.length - j) (fun j => j ≤ i + 1 - l.length)
              (fun j => ⟨[(1, .q (.c (.int .i64 i))), (5, .q (.box 5 0)), (6, .q (.box 6 0)), (8, .q (.own 46))], [(3, [.c (.int .i64 5), .c (.int .i64 n), .c (.str s), .c (.row 1 (strs ks)), .c (.row 5 (encL l))]), (5, x.enc.map .c), (6, [.c (.int .i64 0), .c (.int .i64 0), .c (.str ⟨#[]⟩), .z 1, .z 5])], [(46, 5, encL (l ++ List.replicate j T.zero))]⟩) 0 (Nat.zero_le _) (Le.of_eq (by simp)) ?_
            intro j hj
            have l1 : (l ++ List.replicate j T.zero).length = l.length + j := by simp
            rcases Nat.lt_or_ge i (l.length + j) with c | c
            · have b2 : (((l.length + j : Nat) : Int) ≤ (i : Int)) = False := eq_false (by omega)
              obtain rfl : j = i + 1 - l.length := by omega
              obtain ⟨y, hy, _, _⟩ := drop_at (l := l ++ List.replicate (i + 1 - l.length) T.zero) (i := i) (by omega)
              have a1 := encL_at hy
              have f1 := T.enc_drop5 y
              have e : (l ++ List.replicate (i + 1 - l.length) T.zero).set i x = setL l i x := rfl
              simp only [rg, go_sem, seval, Prod.fst, l1, b2, a1, f1, fx, f3, f4, e, e1, e2, foldT, encL_len, encL_set, List.append_nil, spRow_md, spRow_pre, spRow_alts, spRow_res, spRow_out, spTold_md, spTold_pre, spTold_alts, spTold_res, spTold_out]
              repeat' (first | with_reducible assumption | with_reducible refine And.intro ?_ ?_ | intro _)
              all_goals first | omega | assumption | skip
            · have b2 : (((l.length + j : Nat) : Int) ≤ (i : Int)) = True := eq_true (by omega)
              simp only [rg, go_sem, seval, Prod.fst, l1, b2, encL_len, encL_zero]
              repeat' (first | with_reducible assumption | with_reducible refine And.intro ?_ ?_ | intro _)
              all_goals first | omega | assumption | skip
              all_goals exact ⟨j + 1, by omega, by omega, Le.of_eq (by simp [List.replicate_succ'])⟩
          · simp only [x_PartSetI, rg, go_sem, seval, Prod.fst, T.enc, foldT, fx, o1, o2, b1, eb, d1, encL_len, spValOkI_md, spValOkI_pre, spValOkI_alts, spValOkI_res, spValOkI_out, spWithin_md, spWithin_pre, spWithin_alts, spWithin_res, spWithin_out, spCloneV_md, spCloneV_pre, spCloneV_alts, spCloneV_res, spCloneV_out]
            repeat' (first | with_reducible assumption | with_reducible refine And.intro ?_ ?_ | intro _)
            all_goals first | omega | assumption | skip
            refine pw_loop (ι := Nat) (fun j => i + 1 - l.length - j) (fun j => j ≤ i + 1 - l.length)
              (fun j => ⟨[(1, .q (.c (.int .i64 i))), (5, .q (.box 5 0)), (6, .q (.box 6 0)), (8, .q (.own 46))], [(3, [.c (.int .i64 0), .c (.int .i64 n), .c (.str s), .c (.row 1 (strs ks)), .c (.row 5 (encL l))]), (5, x.enc.map .c), (6, [.c (.int .i64 0), .c (.int .i64 0), .c (.str ⟨#[]⟩), .z 1, .z 5])], [(46, 5, encL (l ++ List.replicate j T.zero))]⟩) 0 (Nat.zero_le _) (Le.of_eq (by simp)) ?_
            intro j hj
            have l1 : (l ++ List.replicate j T.zero).length = l.length + j := by simp
            rcases Nat.lt_or_ge i (l.length + j) with c | c
            · have b2 : (((l.length + j : Nat) : Int) ≤ (i : Int)) = False := eq_false (by omega)
              obtain rfl : j = i + 1 - l.length := by omega
              obtain ⟨y, hy, _, _⟩ := drop_at (l := l ++ List.replicate (i + 1 - l.length) T.zero) (i := i) (by omega)
              have a1 := encL_at hy
              have f1 := T.enc_drop5 y
              have e : (l ++ List.replicate (i + 1 - l.length) T.zero).set i x = setL l i x := rfl
              simp only [rg, go_sem, seval, Prod.fst, l1, b2, a1, f1, fx, f3, f4, e, e1, e2, foldT, encL_len, encL_set, List.append_nil, spRow_md, spRow_pre, spRow_alts, spRow_res, spRow_out, spTold_md, spTold_pre, spTold_alts, spTold_res, spTold_out]
              repeat' (first | with_reducible assumption | with_reducible refine And.intro ?_ ?_ | intro _)
              all_goals first | omega | assumption | skip
            · have b2 : (((l.length + j : Nat) : Int) ≤ (i : Int)) = True := eq_true (by omega)
              simp only [rg, go_sem, seval, Prod.fst, l1, b2, encL_len, encL_zero]
              repeat' (first | with_reducible assumption | with_reducible refine And.intro ?_ ?_ | intro _)
              all_goals first | omega | assumption | skip
              all_goals exact ⟨j + 1, by omega, by omega, Le.of_eq (by simp [List.replicate_succ'])⟩
        · have b1 := eq_false b
          obtain ⟨i, hi⟩ : ∃ i : Nat, i = a.toNat := ⟨_, rfl⟩
          obtain rfl : a = (i : Int) := by omega
          have eb := True.intro
          have es : T.mk 5 0 ⟨#[]⟩ [] (setL l i x) = setT (T.mk k n s ks l) i x := by unfold setT setAt T.list; rw [if_neg b, Int.toNat_natCast]
          clear hi
          rw [← es] at e1 e2 a5 a6 f3 f4
          rcases c with rfl | rfl
          · simp only [x_PartSetI, rg, go_sem, seval, Prod.fst, T.enc, foldT, fx, o1, o2, b1, eb, d1, encL_len, spValOkI_md, spValOkI_pre, spValOkI_alts, spValOkI_res, spValOkI_out, spWithin_md, spWithin_pre, spWithin_alts, spWithin_res, spWithin_out, spCloneV_md, spCloneV_pre, spCloneV_alts, spCloneV_res, spCloneV_out]
            repeat' (first | with_reducible assumption | with_reducible refine And.intro ?_ ?_ | intro _)
            all_goals first | omega | assumption | skip
            refine pw_loop (ι := Nat) (fun j => i + 1 - l.length - j) (fun j => j ≤ i + 1 - l.length)
              (fun j => ⟨[(1, .q (.c (.int .i64 i))), (5, .q (.box 5 0)), (6, .q (.box 6 0)), (8, .q (.own 46))], [(3, [.c (.int .i64 5), .c (.int .i64 n), .c (.str s), .c (.row 1 (strs ks)), .c (.row 5 (encL l))]), (5, x.enc.map .c), (6, [.c (.int .i64 0), .c (.int .i64 0), .c (.str ⟨#[]⟩), .z 1, .z 5])], [(46, 5, encL (l ++ List.replicate j T.zero))]⟩) 0 (Nat.zero_le _) (Le.of_eq (by simp)) ?_
            intro j hj
            have l1 : (l ++ List.replicate j T.zero).length = l.length + j := by simp
            rcases Nat.lt_or_ge i (l.length + j) with c | c
            · have b2 : (((l.length + j : Nat) : Int) ≤ (i : Int)) = False := eq_false (by omega)
              obtain rfl : j = i + 1 - l.length := by omega
              obtain ⟨y, hy, _, _⟩ := drop_at (l := l ++ List.replicate (i + 1 - l.length) T.zero) (i := i) (by omega)
              have a1 := encL_at hy
              have f1 := T.enc_drop5 y
              have e : (l ++ List.replicate (i + 1 - l.length) T.zero).set i x = setL l i x := rfl
              simp only [rg, go_sem, seval, Prod.fst, l1, b2, a1, f1, fx, f3, f4, e, e1, e2, foldT, encL_len, encL_set, List.append_nil, spRow_md, spRow_pre, spRow_alts, spRow_res, spRow_out, spTold_md, spTold_pre, spTold_alts, spTold_res, spTold_out]
              repeat' (first | with_reducible assumption | with_reducible refine And.intro ?_ ?_ | intro _)
              all_goals first | omega | assumption | skip
            · have b2 : (((l.length + j : Nat) : Int) ≤ (i : Int)) = True := eq_true (by omega)
              simp only [rg, go_sem, seval, Prod.fst, l1, b2, encL_len, encL_zero]
              repeat' (first | with_reducible assumption | with_reducible refine And.intro ?_ ?_ | intro _)
              all_goals first | omega | assumption | skip
              all_goals exact ⟨j + 1, by omega, by omega, Le.of_eq (by simp [List.replicate_succ'])⟩
          · simp only [x_PartSetI, rg, go_sem, seval, Prod.fst, T.enc, foldT, fx, o1, o2, b1, eb, d1, encL_len, spValOkI_md, spValOkI_pre, spValOkI_alts, spValOkI_res, spValOkI_out, spWithin_md, spWithin_pre, spWithin_alts, spWithin_res, spWithin_out, spCloneV_md, spCloneV_pre, spCloneV_alts, spCloneV_res, spCloneV_out]
            repeat' (first | with_reducible assumption | with_reducible refine And.intro ?_ ?_ | intro _)
            all_goals first | omega | assumption | skip
            refine pw_loop (ι := Nat) (fun j => i + 1 - l.length - j) (fun j => j ≤ i + 1 - l.length)
              (fun j => ⟨[(1, .q (.c (.int .i64 i))), (5, .q (.box 5 0)), (6, .q (.box 6 0)), (8, .q (.own 46))], [(3, [.c (.int .i64 0), .c (.int .i64 n), .c (.str s), .c (.row 1 (strs ks)), .c (.row 5 (encL l))]), (5, x.enc.map .c), (6, [.c (.int .i64 0), .c (.int .i64 0), .c (.str ⟨#[]⟩), .z 1, .z 5])], [(46, 5, encL (l ++ List.replicate j T.zero))]⟩) 0 (Nat.zero_le _) (Le.of_eq (by simp)) ?_
            intro j hj
            have l1 : (l ++ List.replicate j T.zero).length = l.length + j := by simp
            rcases Nat.lt_or_ge i (l.length + j) with c | c
            · have b2 : (((l.length + j : Nat) : Int) ≤ (i : Int)) = False := eq_false (by omega)
              obtain rfl : j = i + 1 - l.length := by omega
              obtain ⟨y, hy, _, _⟩ := drop_at (l := l ++ List.replicate (i + 1 - l.length) T.zero) (i := i) (by omega)
              have a1 := encL_at hy
              have f1 := T.enc_drop5 y
              have e : (l ++ List.replicate (i + 1 - l.length) T.zero).set i x = setL l i x := rfl
              simp only [rg, go_sem, seval, Prod.fst, l1, b2, a1, f1, fx, f3, f4, e, e1, e2, foldT, encL_len, encL_set, List.append_nil, spRow_md, spRow_pre, spRow_alts, spRow_res, spRow_out, spTold_md, spTold_pre, spTold_alts, spTold_res, spTold_out]
              repeat' (first | with_reducible assumption | with_reducible refine And.intro ?_ ?_ | intro _)
              all_goals first | omega | assumption | skip
            · have b2 : (((l.length + j : Nat) : Int) ≤ (i : Int)) = True := eq_true (by omega)
              simp only [rg, go_sem, seval, Prod.fst, l1, b2, encL_len, encL_zero]
              repeat' (first | with_reducible assumption | with_reducible refine And.intro ?_ ?_ | intro _)
              all_goals first | omega | assumption | skip
              all_goals exact ⟨j + 1, by omega, by omega, Le.of_eq (by simp [List.replicate_succ'])⟩
      · have e : partSetO v a x = none := by unfold partSetO; rw [if_neg (fun h => d h.2.1)]
        obtain ⟨k, n, s, ks, l⟩ := v
        simp only [T.kind, T.list] at c d hl
        have d1 : (0 - (l.length : Int) ≤ a ∧ a ≤ 59) = False := eq_false (by omega)
        rcases c with rfl | rfl
        · simp only [x_PartSetI, rg, go_sem, seval, Prod.fst, T.enc, foldT, fx, o1, o2, e, d1, encL_len, optT, Option.getD_none, T.zero_enc, Option.isSome_none, spValOkI_md, spValOkI_pre, spValOkI_alts, spValOkI_res, spValOkI_out, spWithin_md, spWithin_pre, spWithin_alts, spWithin_res, spWithin_out]
          repeat' (first | with_reducible assumption | with_reducible refine And.intro ?_ ?_ | intro _)
          all_goals first | omega | assumption | skip
        · simp only [x_PartSetI, rg, go_sem, seval, Prod.fst, T.enc, foldT, fx, o1, o2, e, d1, encL_len, optT, Option.getD_none, T.zero_enc, Option.isSome_none, spValOkI_md, spValOkI_pre, spValOkI_alts, spValOkI_res, spValOkI_out, spWithin_md, spWithin_pre, spWithin_alts, spWithin_res, spWithin_out]
          repeat' (first | with_reducible assumption | with_reducible refine And.intro ?_ ?_ | intro _)
          all_goals first | omega | assumption | skip
    · have e : partSetO v a x = none := by unfold partSetO; rw [if_neg (fun h => c h.1)]
      obtain ⟨k, n, s, ks, l⟩ := v
      simp only [T.kind, not_or] at c
      have c1 := eq_false c.1
      have c2 := eq_false c.2
      simp only [x_PartSetI, rg, go_sem, seval, Prod.fst, T.enc, foldT, fx, o1, o2, e, c1, c2, encL_len, optT, Option.getD_none, T.zero_enc, Option.isSome_none, spValOkI_md, spValOkI_pre, spValOkI_alts, spValOkI_res, spValOkI_out, spWithin_md, spWithin_pre, spWithin_alts, spWithin_res, spWithin_out]
      repeat' (first | with_reducible assumption | with_reducible refine And.intro ?_ ?_ | intro _)
      all_goals first | omega | assumption | skip
end Go.Proofs.Pw
