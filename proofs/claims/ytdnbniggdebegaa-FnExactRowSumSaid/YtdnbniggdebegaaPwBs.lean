/- A key looked for among keys in order; a tree put at a key. -/
import Derived.Test.YtdnbniggdebegaaPwIn
import Derived.Test.YtdnbniggdebegaaPwDr5
import Derived.Test.YtdnbniggdebegaaPwPlPut
set_option linter.unusedSimpArgs false
set_option linter.unusedVariables false
set_option linter.unusedSimpArgs false
set_option maxRecDepth 20000
namespace Go.Proofs.Pw
set_option linter.unusedSectionVars false
variable [Globs]
def x_CloneS : X := (.seq (.reg [⟨some 2, none, .mv (.k (.z 1))⟩] none [0]) (.seq (.seq (.reg [⟨some 3, none, .mv (.t 0)⟩, ⟨some 4, none, .isn (.t 3)⟩] none [0, 4]) (.cond (.t 4) (.seq (.reg [⟨some 2, none, .mv (.k (.z 1))⟩] none [2]) .ret) .skip)) (.seq (.reg [⟨some 5, none, .bsl 1 []⟩, ⟨some 6, none, .mv (.t 0)⟩, ⟨some 7, none, .app (.t 5) (.t 6) 1 16 []⟩, ⟨some 2, none, .mv (.t 7)⟩] none [2]) .ret)))
theorem chk_CloneS : chkX Go.Proofs.Try.prog 8 (Go.Proofs.Try.f42.body.getD .skip) x_CloneS = true := by kernel_rfl
theorem rs_CloneS : okRs Go.Proofs.Try.prog Go.Proofs.Try.f42.results.toList [.tmp 2] = true := by kernel_rfl
theorem call_CloneS : okCallee Go.Proofs.Try.prog 42 = true := by kernel_rfl
def x_lessS : X := (.seq (.reg [⟨some 4, none, .mv (.k (.c (.bool false)))⟩] none [0, 1]) (.seq (.reg [⟨some 5, none, .mv (.t 0)⟩, ⟨some 6, none, .call 58 [(.t 5)]⟩, ⟨some 7, none, .mv (.t 6)⟩, ⟨some 8, some (7, true), .mv (.t 1)⟩, ⟨some 9, some (7, true), .call 58 [(.t 8)]⟩, ⟨some 10, some (7, true), .not (.t 9)⟩, ⟨some 11, none, .pick (.t 7) (.t 10) (.k (.c (.bool false)))⟩, ⟨some 12, none, .mv (.t 11)⟩, ⟨some 13, some (12, false), .mv (.t 0)⟩, ⟨some 14, some (12, false), .mv (.t 1)⟩, ⟨some 15, some (12, false), .bin false .lss (.t 13) (.t 14)⟩, ⟨some 16, none, .pick (.t 12) (.k (.c (.bool true))) (.t 15)⟩, ⟨some 4, none, .mv (.t 16)⟩] none [4]) .ret))
theorem chk_lessS : chkX Go.Proofs.Try.prog 17 (Go.Proofs.Try.f52.body.getD .skip) x_lessS = true := by kernel_rfl
theorem rs_lessS : okRs Go.Proofs.Try.prog Go.Proofs.Try.f52.results.toList [.tmp 4] = true := by kernel_rfl
theorem call_lessS : okCallee Go.Proofs.Try.prog 52 = true := by kernel_rfl
def x_nanS2 : X := (.seq (.reg [⟨some 2, none, .mv (.k (.c (.bool false)))⟩] none [0]) (.seq (.reg [⟨some 3, none, .mv (.t 0)⟩, ⟨some 4, none, .mv (.t 0)⟩, ⟨some 5, none, .bin false .neq (.t 3) (.t 4)⟩, ⟨some 2, none, .mv (.t 5)⟩] none [2]) .ret))
theorem chk_nanS2 : chkX Go.Proofs.Try.prog 6 (Go.Proofs.Try.f53.body.getD .skip) x_nanS2 = true := by kernel_rfl
theorem rs_nanS2 : okRs Go.Proofs.Try.prog Go.Proofs.Try.f53.results.toList [.tmp 2] = true := by kernel_rfl
theorem call_nanS2 : okCallee Go.Proofs.Try.prog 53 = true := by kernel_rfl
def x_BinS : X := (.seq (.reg [⟨some 4, none, .mv (.k (.c (.int .i64 0)))⟩, ⟨some 5, none, .mv (.k (.c (.bool false)))⟩] none [0, 1]) (.seq (.reg [⟨some 10, none, .mv (.t 0)⟩, ⟨some 11, none, .len (.t 10) false⟩, ⟨some 6, none, .mv (.t 11)⟩] none [0, 1, 6]) (.seq (.reg [⟨some 12, none, .mv (.t 6)⟩, ⟨some 7, none, .mv (.k (.c (.int .i64 0)))⟩, ⟨some 8, none, .mv (.t 12)⟩] none [0, 1, 6, 7, 8]) (.seq (.block 0 (.loop (.seq (.seq (.reg [⟨some 13, none, .mv (.t 7)⟩, ⟨some 14, none, .mv (.t 8)⟩, ⟨some 15, none, .bin false .lss (.t 13) (.t 14)⟩] none [0, 1, 6, 7, 8, 15]) (.cond (.t 15) .skip (.exit 0))) (.block 1 (.seq (.reg [⟨some 16, none, .mv (.t 7)⟩, ⟨some 17, none, .mv (.t 8)⟩, ⟨some 18, none, .bin false .add (.t 16) (.t 17)⟩, ⟨some 19, none, .conv .u64 (.t 18)⟩, ⟨some 20, none, .bin false .shr (.t 19) (.k (.c (.int .u64 1)))⟩, ⟨some 21, none, .conv .i64 (.t 20)⟩, ⟨some 9, none, .mv (.t 21)⟩] none [0, 1, 6, 7, 8, 9]) (.seq (.reg [⟨some 22, none, .mv (.t 0)⟩, ⟨some 23, none, .mv (.t 9)⟩, ⟨some 24, none, .ia (.t 22) (.t 23) 1⟩, ⟨some 25, none, .load (.t 24) none⟩, ⟨some 26, none, .mv (.t 1)⟩, ⟨some 27, none, .call 52 [(.t 25), (.t 26)]⟩] none [0, 1, 6, 7, 8, 9, 27]) (.cond (.t 27) (.reg [⟨some 28, none, .mv (.t 9)⟩, ⟨some 29, none, .bin false .add (.t 28) (.k (.c (.int .i64 1)))⟩, ⟨some 7, none, .mv (.t 29)⟩] none [0, 1, 6, 7, 8]) (.reg [⟨some 30, none, .mv (.t 9)⟩, ⟨some 8, none, .mv (.t 30)⟩] none [0, 1, 6, 7, 8])))))))) (.seq (.reg [⟨some 31, none, .mv (.t 7)⟩, ⟨some 32, none, .mv (.t 7)⟩, ⟨some 33, none, .mv (.t 6)⟩, ⟨some 34, none, .bin false .lss (.t 32) (.t 33)⟩, ⟨some 35, none, .mv (.t 34)⟩, ⟨some 36, some (35, true), .mv (.t 0)⟩, ⟨some 37, some (35, true), .mv (.t 7)⟩, ⟨some 38, some (35, true), .ia (.t 36) (.t 37) 1⟩, ⟨some 39, some (35, true), .load (.t 38) none⟩, ⟨some 40, some (35, true), .mv (.t 1)⟩, ⟨some 41, some (35, true), .bin false .eql (.t 39) (.t 40)⟩, ⟨some 42, some (35, true), .mv (.t 41)⟩, ⟨some 43, some (42, false), .mv (.t 0)⟩, ⟨some 44, some (42, false), .mv (.t 7)⟩, ⟨some 45, some (42, false), .ia (.t 43) (.t 44) 1⟩, ⟨some 46, some (42, false), .load (.t 45) none⟩, ⟨some 47, some (42, false), .call 53 [(.t 46)]⟩, ⟨some 48, some (42, false), .mv (.t 47)⟩, ⟨some 49, some (48, true), .mv (.t 1)⟩, ⟨some 50, some (48, true), .call 53 [(.t 49)]⟩, ⟨some 51, some (42, false), .pick (.t 48) (.t 50) (.k (.c (.bool false)))⟩, ⟨some 52, some (35, true), .pick (.t 42) (.k (.c (.bool true))) (.t 51)⟩, ⟨some 53, none, .pick (.t 35) (.t 52) (.k (.c (.bool false)))⟩, ⟨some 4, none, .mv (.t 31)⟩, ⟨some 5, none, .mv (.t 53)⟩] none [4, 5]) .ret)))))
theorem chk_BinS : chkX Go.Proofs.Try.prog 54 (Go.Proofs.Try.f44.body.getD .skip) x_BinS = true := by kernel_rfl
theorem rs_BinS : okRs Go.Proofs.Try.prog Go.Proofs.Try.f44.results.toList [.tmp 4, .tmp 5] = true := by kernel_rfl
theorem call_BinS : okCallee Go.Proofs.Try.prog 44 = true := by kernel_rfl
def x_put : X := (.seq (.reg [⟨some 3, none, .box (.t 0) (some 5)⟩, ⟨some 5, none, .box (.t 2) (some 5)⟩, ⟨some 6, none, .alloc [(.c (.int .i64 0)), (.c (.int .i64 0)), (.c (.str ⟨#[]⟩)), (.z 1), (.z 5)]⟩] none [1, 3, 5, 6]) (.seq (.mix [⟨some 10, none, .fa (.t 3) 3⟩, ⟨some 11, none, .load (.t 10) none⟩, ⟨some 12, none, .callo 42 [(.t 11)]⟩, ⟨some 13, none, .fa (.t 3) 4⟩, ⟨some 14, none, .load (.t 13) none⟩, ⟨some 15, none, .callo 43 [(.t 14)]⟩, ⟨some 16, none, .build [(.c (.int .i64 0)), (.c (.int .i64 0)), (.c (.str ⟨#[]⟩)), (.z 1), (.z 5)] [(0, (.k (.c (.int .i64 6))), none), (3, (.t 12), none), (4, (.t 15), none)]⟩, ⟨some 7, none, .alloc [(.c (.int .i64 0)), (.c (.int .i64 0)), (.c (.str ⟨#[]⟩)), (.z 1), (.z 5)]⟩] [⟨none, none, .st (.t 7) (.t 16) (some 5)⟩] [[], [], [], [2], [2], [], [], [0, 1, 2, 3, 4, 5, 6]] [1, 5, 6, 7]) (.seq (.reg [⟨some 18, none, .fa (.t 7) 3⟩, ⟨some 19, none, .load (.t 18) none⟩, ⟨some 20, none, .mv (.t 1)⟩, ⟨some 21, none, .callb 44 [(.t 19), (.t 20)]⟩, ⟨some 17, none, .mv (.t 21)⟩, ⟨some 22, none, .ext (.t 17) 0⟩, ⟨some 23, none, .ext (.t 17) 1⟩, ⟨some 8, none, .mv (.t 22)⟩, ⟨some 9, none, .mv (.t 23)⟩] none [1, 5, 6, 7, 8, 9]) (.seq (.seq (.reg [⟨some 24, none, .mv (.t 9)⟩] none [1, 5, 6, 7, 8, 24]) (.cond (.t 24) (.seq (.reg [⟨some 25, none, .fa (.t 7) 4⟩, ⟨some 26, none, .load (.t 25) none⟩, ⟨some 27, none, .mv (.t 8)⟩, ⟨some 28, none, .load (.t 5) (some 5)⟩, ⟨some 29, none, .ia (.t 26) (.t 27) 5⟩, ⟨none, none, .st (.t 29) (.t 28) (some 5)⟩] none [6, 7]) (.seq (.reg [⟨some 30, none, .load (.t 7) (some 5)⟩, ⟨none, none, .st (.t 6) (.t 30) (some 5)⟩] none [6]) .ret)) .skip)) (.seq (.reg [⟨some 31, none, .fa (.t 7) 3⟩, ⟨some 32, none, .load (.t 31) none⟩, ⟨some 33, none, .mv (.t 8)⟩, ⟨some 34, none, .mv (.t 1)⟩, ⟨some 35, none, .bsl 1 [((.t 34), none)]⟩, ⟨some 36, none, .call 45 [(.t 32), (.t 33), (.t 35)]⟩, ⟨some 37, none, .fa (.t 7) 3⟩, ⟨none, none, .st (.t 37) (.t 36) none⟩] none [5, 6, 7, 8]) (.seq (.reg [⟨some 38, none, .fa (.t 7) 4⟩, ⟨some 39, none, .load (.t 38) none⟩, ⟨some 40, none, .mv (.t 8)⟩, ⟨some 41, none, .load (.t 5) (some 5)⟩, ⟨some 42, none, .bsl 5 [((.t 41), (some 5))]⟩, ⟨some 43, none, .call 46 [(.t 39), (.t 40), (.t 42)]⟩, ⟨some 44, none, .fa (.t 7) 4⟩, ⟨none, none, .st (.t 44) (.t 43) none⟩] none [6, 7]) (.seq (.reg [⟨some 45, none, .load (.t 7) (some 5)⟩, ⟨none, none, .st (.t 6) (.t 45) (some 5)⟩] none [6]) .ret)))))))
theorem chk_put : chkX Go.Proofs.Try.prog 46 (Go.Proofs.Try.f28.body.getD .skip) x_put = true := by kernel_rfl
theorem rs_put : okRs Go.Proofs.Try.prog Go.Proofs.Try.f28.results.toList [.cell 6 (some 5)] = true := by kernel_rfl
theorem call_put : okCallee Go.Proofs.Try.prog 28 = true := by kernel_rfl
noncomputable def spCloneS  : Spec := Spec.of (ι := (List ByteArray)) [false] (fun i => [.d (.one (.row 1 (strs i)))]) (fun i => lenB 1000000 i.length) (fun i => [.own 1 (strs i)]) (fun _ => [.gone])
theorem spCloneS_inj : ∀ i j : (List ByteArray), (fun (i : (List ByteArray)) => ([.d (.one (.row 1 (strs i)))] : List AV)) i = (fun (i : (List ByteArray)) => ([.d (.one (.row 1 (strs i)))] : List AV)) j → i = j := by
  intro l l' h
  simpa [strs_eq, T.enc_eq, encL_eq, F.enc_eq, encF_eq, Tk.enc_eq, encTk_eq, Gn.enc_eq, ints_eq, Int.natCast_inj] using h
theorem spCloneS_md  : (spCloneS).md = [false] := rfl
theorem spCloneS_pre  (l : List ByteArray) : (spCloneS).pre [.d (.one (.row 1 (strs l)))] = (lenB 1000000 l.length) := Spec.of_pre' spCloneS_inj l
theorem spCloneS_alts  : (spCloneS).alts = none := rfl
theorem spCloneS_res  (l : List ByteArray) : (spCloneS).res [.d (.one (.row 1 (strs l)))] = [.own 1 (strs l)] := Spec.of_res spCloneS_inj l
theorem spCloneS_out  (l : List ByteArray) : (spCloneS).out [.d (.one (.row 1 (strs l)))] = [.gone] := Spec.of_out spCloneS_inj l
theorem CloneS_sound : Sound Go.Proofs.Try.prog 42 spCloneS := by
  refine sound_fam GOK.nil Go.Proofs.Try.func42 (c := Go.Proofs.Try.f42.body.getD .skip) rfl (n := 8) rfl chk_CloneS rs_CloneS (fun _ => by simp) ?_ ?_
  · exact spCloneS_inj
  · intro l h1
    simp only [lenB] at h1
    simp only [x_CloneS, rg, go_sem, seval, strs_len]
    repeat' (first | with_reducible assumption | with_reducible refine And.intro ?_ ?_ | intro _)
    all_goals first | omega | skip
    rename_i h
    have : l = [] := by cases l <;> simp_all [strs]
    rw [this]; rfl
noncomputable def spNanS2  : Spec := Spec.of (ι := C) [false] (fun i => [.d (.one i)]) (fun i => ∃ a, i = .str a) (fun _ => [.d (.one (.bool false))]) (fun _ => [.gone])
theorem spNanS2_inj : ∀ i j : C, (fun (i : C) => ([.d (.one i)] : List AV)) i = (fun (i : C) => ([.d (.one i)] : List AV)) j → i = j := by
  intro c c' h
  simpa [strs_eq, T.enc_eq, encL_eq, F.enc_eq, encF_eq, Tk.enc_eq, encTk_eq, Gn.enc_eq, ints_eq, Int.natCast_inj] using h
theorem spNanS2_md  : (spNanS2).md = [false] := rfl
theorem spNanS2_pre  (c : C) : (spNanS2).pre [.d (.one c)] = (∃ a, c = .str a) := Spec.of_pre' spNanS2_inj c
theorem spNanS2_alts  : (spNanS2).alts = none := rfl
theorem spNanS2_res  (c : C) : (spNanS2).res [.d (.one c)] = [.d (.one (.bool false))] := Spec.of_res spNanS2_inj c
theorem spNanS2_out  (c : C) : (spNanS2).out [.d (.one c)] = [.gone] := Spec.of_out spNanS2_inj c
theorem nanS2_sound : Sound Go.Proofs.Try.prog 53 spNanS2 := by
  refine sound_fam GOK.nil Go.Proofs.Try.func53 (c := Go.Proofs.Try.f53.body.getD .skip) rfl (n := 6) rfl chk_nanS2 rs_nanS2 (fun _ => by simp) ?_ ?_
  · exact spNanS2_inj
  · rintro c ⟨a, rfl⟩
    simp only [x_nanS2, rg, go_sem, seval]
    repeat' (first | with_reducible assumption | with_reducible refine And.intro ?_ ?_ | intro _)
    all_goals first | omega | skip
noncomputable def spLessS  : Spec := Spec.of (ι := ByteArray × ByteArray) [false, false] (fun i => [.d (.one (.str i.1)), .d (.one (.str i.2))]) (fun _ => True) (fun i => [.d (.one (.bool (decide (sl i.1 i.2))))]) (fun _ => [.gone, .gone])
theorem spLessS_inj : ∀ i j : ByteArray × ByteArray, (fun (i : ByteArray × ByteArray) => ([.d (.one (.str i.1)), .d (.one (.str i.2))] : List AV)) i = (fun (i : ByteArray × ByteArray) => ([.d (.one (.str i.1)), .d (.one (.str i.2))] : List AV)) j → i = j := by
  rintro ⟨a, b⟩ ⟨a', b'⟩ h
  simp only [Prod.mk.injEq]
  simpa [strs_eq, T.enc_eq, encL_eq, F.enc_eq, encF_eq, Tk.enc_eq, encTk_eq, Gn.enc_eq, ints_eq, Int.natCast_inj] using h
theorem spLessS_md  : (spLessS).md = [false, false] := rfl
theorem spLessS_pre  (a : ByteArray) (b : ByteArray) : (spLessS).pre [.d (.one (.str a)), .d (.one (.str b))] = (True) := Spec.of_pre' spLessS_inj (a, b)
theorem spLessS_alts  : (spLessS).alts = none := rfl
theorem spLessS_res  (a : ByteArray) (b : ByteArray) : (spLessS).res [.d (.one (.str a)), .d (.one (.str b))] = [.d (.one (.bool (decide (sl a b))))] := Spec.of_res spLessS_inj (a, b)
theorem spLessS_out  (a : ByteArray) (b : ByteArray) : (spLessS).out [.d (.one (.str a)), .d (.one (.str b))] = [.gone, .gone] := Spec.of_out spLessS_inj (a, b)
theorem lessS_sound : Sound Go.Proofs.Try.prog 52 spLessS := by
  refine sound_fam (GOK.cons (l := []) call_nanS nanS_sound GOK.nil) Go.Proofs.Try.func52 (c := Go.Proofs.Try.f52.body.getD .skip) rfl (n := 17) rfl chk_lessS rs_lessS (fun _ => by simp) ?_ ?_
  · exact spLessS_inj
  · rintro ⟨a, b⟩ _
    simp only [x_lessS, rg, go_sem, seval, spNanS_md, spNanS_pre, spNanS_alts, spNanS_res, spNanS_out]
    repeat' (first | with_reducible assumption | with_reducible refine And.intro ?_ ?_ | intro _)
    all_goals first | omega | skip
open Classical in
noncomputable def spBinS  : Spec := Spec.of (ι := (List ByteArray) × ByteArray) [false, false] (fun i => [.d (.one (.row 1 (strs i.1))), .d (.one (.str i.2))]) (fun i => Asc i.1 ∧ lenB 1000000 i.1.length) (fun i => [.d (.one (.int .i64 (posS i.2 i.1))), .d (.one (.bool (decide (i.1[posS i.2 i.1]? = some i.2))))]) (fun _ => [.gone, .gone])
theorem spBinS_inj : ∀ i j : (List ByteArray) × ByteArray, (fun (i : (List ByteArray) × ByteArray) => ([.d (.one (.row 1 (strs i.1))), .d (.one (.str i.2))] : List AV)) i = (fun (i : (List ByteArray) × ByteArray) => ([.d (.one (.row 1 (strs i.1))), .d (.one (.str i.2))] : List AV)) j → i = j := by
  rintro ⟨ks, key⟩ ⟨ks', key'⟩ h
  simp only [Prod.mk.injEq]
  simpa [strs_eq, T.enc_eq, encL_eq, F.enc_eq, encF_eq, Tk.enc_eq, encTk_eq, Gn.enc_eq, ints_eq, Int.natCast_inj] using h
theorem spBinS_md  : (spBinS).md = [false, false] := rfl
theorem spBinS_pre  (ks : List ByteArray) (key : ByteArray) : (spBinS).pre [.d (.one (.row 1 (strs ks))), .d (.one (.str key))] = (Asc ks ∧ lenB 1000000 ks.length) := Spec.of_pre' spBinS_inj (ks, key)
theorem spBinS_alts  : (spBinS).alts = none := rfl
theorem spBinS_res  (ks : List ByteArray) (key : ByteArray) : (spBinS).res [.d (.one (.row 1 (strs ks))), .d (.one (.str key))] = [.d (.one (.int .i64 (posS key ks))), .d (.one (.bool (decide (ks[posS key ks]? = some key))))] := Spec.of_res spBinS_inj (ks, key)
theorem spBinS_out  (ks : List ByteArray) (key : ByteArray) : (spBinS).out [.d (.one (.row 1 (strs ks))), .d (.one (.str key))] = [.gone, .gone] := Spec.of_out spBinS_inj (ks, key)
theorem BinS_sound : Sound Go.Proofs.Try.prog 44 spBinS := by
  refine sound_fam (GOK.cons (l := [(53, spNanS2)]) call_lessS lessS_sound (GOK.cons call_nanS2 nanS2_sound GOK.nil)) Go.Proofs.Try.func44 (c := Go.Proofs.Try.f44.body.getD .skip) rfl (n := 54) rfl chk_BinS rs_BinS (fun _ => by simp) ?_ ?_
  · exact spBinS_inj
  · rintro ⟨ks, key⟩ ⟨ha, h1⟩
    simp only [lenB] at h1
    simp only at ha
    have hp := posS_le key ks
    simp only [x_BinS, rg, go_sem, seval, Prod.fst, strs_len]
    repeat' (first | with_reducible assumption | with_reducible refine And.intro ?_ ?_ | intro _)
    all_goals first | (show _ ≤ (_ : Int); omega) | (show _ < (_ : Int); omega) | skip
    refine pw_loop (ι := Nat × Nat) (fun i => i.2 - i.1) (fun i => i.1 ≤ posS key ks ∧ posS key ks ≤ i.2 ∧ i.2 ≤ ks.length)
      (fun i => ⟨[(0, .q (.c (.row 1 (strs ks)))), (1, .q (.c (.str key))), (6, .q (.c (.int .i64 ks.length))), (7, .q (.c (.int .i64 i.1))), (8, .q (.c (.int .i64 i.2)))], [], []⟩) (0, ks.length) ⟨Nat.zero_le _, hp, Nat.le_refl _⟩ (Le.refl _) ?_
    rintro ⟨i, j⟩ ⟨g1, g2, g3⟩
    simp only at g1 g2 g3
    rcases Nat.lt_or_ge i j with hlt | hge
    · obtain ⟨h, hh⟩ : ∃ h : Nat, h = (i + j) / 2 := ⟨_, rfl⟩
      obtain ⟨y, hy, _, _⟩ := drop_at (l := ks) (i := h) (by omega)
      have b1 : ((i : Int) < (j : Int)) = True := eq_true (by omega)
      have b2 : ((i : Int) + j) / 2 = (h : Int) := by omega
      have a1 := strs_at hy
      simp only [rg, go_sem, seval, Prod.fst, b1, b2, a1, strs_len, spLessS_md, spLessS_pre, spLessS_alts, spLessS_res, spLessS_out]
      repeat' (first | with_reducible assumption | with_reducible refine And.intro ?_ ?_ | intro _)
      all_goals first | (show _ ≤ (_ : Int); omega) | (show _ < (_ : Int); omega) | (show False; omega) | skip
      · have hs := (posS_lt ha hy).1 (by assumption)
        exact ⟨(h + 1, j), ⟨by show h + 1 ≤ _; omega, g2, g3⟩, by show j - (h + 1) < j - i; omega, Le.refl _⟩
      · have hs : ¬ h < posS key ks := fun k => absurd ((posS_lt ha hy).2 k) (by assumption)
        exact ⟨(i, h), ⟨g1, by show posS key ks ≤ h; omega, by show h ≤ _; omega⟩, by show h - i < j - i; omega, Le.refl _⟩
    · have b1 : ((i : Int) < (j : Int)) = False := eq_false (by omega)
      obtain rfl : i = posS key ks := by omega
      rcases Nat.lt_or_ge (posS key ks) ks.length with hlt | hge'
      · obtain ⟨y, hy, _, _⟩ := drop_at hlt
        have a1 := strs_at hy
        have b2 : ((posS key ks : Int) < (ks.length : Int)) = True := eq_true (by omega)
        by_cases c : y = key
        · have e : (ks[posS key ks]? = some key) = True := eq_true (by rw [hy, c])
          simp only [rg, go_sem, seval, Prod.fst, b1, b2, a1, c, e, strs_len, spNanS2_md, spNanS2_pre, spNanS2_alts, spNanS2_res, spNanS2_out]
          repeat' (first | with_reducible assumption | with_reducible refine And.intro ?_ ?_ | intro _)
          all_goals first | (show _ ≤ (_ : Int); omega) | (show _ < (_ : Int); omega) | (show False; omega) | skip
        · have e : (ks[posS key ks]? = some key) = False := eq_false (by rw [hy]; intro h; exact c (Option.some.inj h))
          simp only [rg, go_sem, seval, Prod.fst, b1, b2, a1, c, e, strs_len, spNanS2_md, spNanS2_pre, spNanS2_alts, spNanS2_res, spNanS2_out]
          repeat' (first | with_reducible assumption | with_reducible refine And.intro ?_ ?_ | intro _)
          all_goals first | (show _ ≤ (_ : Int); omega) | (show _ < (_ : Int); omega) | (show False; omega) | exact ⟨_, rfl⟩ | skip
      · have b2 : ((posS key ks : Int) < (ks.length : Int)) = False := eq_false (by omega)
        have a1 : (strs ks).getD (posS key ks) [] = [] := by rw [List.getD_eq_getElem?_getD, List.getElem?_eq_none (by rw [strs_len]; exact hge')]; rfl
        have e : (ks[posS key ks]? = some key) = False := eq_false (by rw [List.getElem?_eq_none hge']; simp)
        simp only [rg, go_sem, seval, Prod.fst, b1, b2, a1, e, strs_len, spNanS2_md, spNanS2_pre, spNanS2_alts, spNanS2_res, spNanS2_out]
        repeat' (first | with_reducible assumption | with_reducible refine And.intro ?_ ?_ | intro _)
        all_goals first | (show _ ≤ (_ : Int); omega) | (show _ < (_ : Int); omega) | (show False; omega) | skip
noncomputable def spPut  : Spec := Spec.of (ι := T × ByteArray × T) [false, false, false] (fun i => [.d (.agg i.1.enc), .d (.one (.str i.2.1)), .d (.agg i.2.2.enc)]) (fun i => Asc i.1.keys ∧ lenB 1000000 i.1.keys.length ∧ i.1.keys.length = i.1.list.length) (fun i => [.d (.agg (putT i.1 i.2.1 i.2.2).enc)]) (fun _ => [.gone, .gone, .gone])
theorem spPut_inj : ∀ i j : T × ByteArray × T, (fun (i : T × ByteArray × T) => ([.d (.agg i.1.enc), .d (.one (.str i.2.1)), .d (.agg i.2.2.enc)] : List AV)) i = (fun (i : T × ByteArray × T) => ([.d (.agg i.1.enc), .d (.one (.str i.2.1)), .d (.agg i.2.2.enc)] : List AV)) j → i = j := by
  rintro ⟨v, key, x⟩ ⟨v', key', x'⟩ h
  simp only [Prod.mk.injEq]
  simpa [strs_eq, T.enc_eq, encL_eq, F.enc_eq, encF_eq, Tk.enc_eq, encTk_eq, Gn.enc_eq, ints_eq, Int.natCast_inj] using h
theorem spPut_md  : (spPut).md = [false, false, false] := rfl
theorem spPut_pre  (v : T) (key : ByteArray) (x : T) : (spPut).pre [.d (.agg v.enc), .d (.one (.str key)), .d (.agg x.enc)] = (Asc v.keys ∧ lenB 1000000 v.keys.length ∧ v.keys.length = v.list.length) := Spec.of_pre' spPut_inj (v, key, x)
theorem spPut_alts  : (spPut).alts = none := rfl
theorem spPut_res  (v : T) (key : ByteArray) (x : T) : (spPut).res [.d (.agg v.enc), .d (.one (.str key)), .d (.agg x.enc)] = [.d (.agg (putT v key x).enc)] := Spec.of_res spPut_inj (v, key, x)
theorem spPut_out  (v : T) (key : ByteArray) (x : T) : (spPut).out [.d (.agg v.enc), .d (.one (.str key)), .d (.agg x.enc)] = [.gone, .gone, .gone] := Spec.of_out spPut_inj (v, key, x)
set_option maxHeartbeats 4000000 in
theorem put_sound : Sound Go.Proofs.Try.prog 28 spPut := by
  refine sound_fam (GOK.cons (l := [(43, spCloneV), (44, spBinS), (45, spInsS), (46, spInsV)]) call_CloneS CloneS_sound (GOK.cons call_CloneV CloneV_sound (GOK.cons call_BinS BinS_sound (GOK.cons call_InsS InsS_sound (GOK.cons call_InsV InsV_sound GOK.nil))))) Go.Proofs.Try.func28 (c := Go.Proofs.Try.f28.body.getD .skip) rfl (n := 46) rfl chk_put rs_put (fun _ => by simp) ?_ ?_
  · exact spPut_inj
  · rintro ⟨v, key, x⟩ ⟨ha, h1, h2⟩
    obtain ⟨k, n, s, ks, l⟩ := v
    simp only [T.keys, T.list, lenB] at ha h1 h2
    have fx := T.enc_len x
    have hp := posS_le key ks
    have ha' : Asc ks = True := eq_true ha
    by_cases c : ks[posS key ks]? = some key
    · have hlt : posS key ks < l.length := by have := (List.getElem?_eq_some_iff.1 c).1; omega
      have c' : (ks[posS key ks]? = some key) = True := eq_true c
      have hx := List.getElem?_eq_getElem hlt
      have a1 := encL_at hx
      have f1 := T.enc_drop5 l[posS key ks]
      have e : putT (T.mk k n s ks l) key x = .mk 6 0 ⟨#[]⟩ ks (l.set (posS key ks) x) := by
        simp only [putT, T.keys, T.list, putS_in ha h2 c]
      simp only [x_put, rg, go_sem, seval, Prod.fst, e, ha', c', a1, f1, T.enc, fx, strs_len, List.append_nil, encL_set, spCloneS_md, spCloneS_pre, spCloneS_alts, spCloneS_res, spCloneS_out, spCloneV_md, spCloneV_pre, spCloneV_alts, spCloneV_res, spCloneV_out, spBinS_md, spBinS_pre, spBinS_alts, spBinS_res, spBinS_out]
      repeat' (first | with_reducible assumption | with_reducible refine And.intro ?_ ?_ | intro _)
      all_goals first | (show _ ≤ (_ : Int); omega) | (show _ < (_ : Int); omega) | (show _ < (_ : Nat); omega) | assumption | skip
    · have c' : (ks[posS key ks]? = some key) = False := eq_false c
      have e : putT (T.mk k n s ks l) key x = .mk 6 0 ⟨#[]⟩ (ks.take (posS key ks) ++ key :: ks.drop (posS key ks)) (l.take (posS key ks) ++ x :: l.drop (posS key ks)) := by
        simp only [putT, T.keys, T.list, putS_new ha h2 c]
      have k1 : [[C.str key]] = strs [key] := rfl
      simp only [x_put, rg, go_sem, seval, Prod.fst, e, ha', c', T.enc, fx, k1, encL_one, strs_len, spCloneS_md, spCloneS_pre, spCloneS_alts, spCloneS_res, spCloneS_out, spCloneV_md, spCloneV_pre, spCloneV_alts, spCloneV_res, spCloneV_out, spBinS_md, spBinS_pre, spBinS_alts, spBinS_res, spBinS_out, spInsS_md, spInsS_pre, spInsS_alts, spInsS_res, spInsS_out, spInsV_md, spInsV_pre, spInsV_alts, spInsV_res, spInsV_out]
      repeat' (first | with_reducible assumption | with_reducible refine And.intro ?_ ?_ | intro _)
      all_goals first | (show _ ≤ (_ : Int); omega) | (show _ < (_ : Int); omega) | (show _ < (_ : Nat); omega) | (show _ ≤ (_ : Nat); omega) | assumption | skip
end Go.Proofs.Pw
