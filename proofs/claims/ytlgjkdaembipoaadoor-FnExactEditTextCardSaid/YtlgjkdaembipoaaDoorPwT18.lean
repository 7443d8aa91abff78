/- Edits in the laws' text: their size, copies of them, comparing them. -/
import Derived.Test.YtlgjkdaembipoaaDoorPwT13
import Derived.Test.YtlgjkdaembipoaaDoorPwT16
import Derived.Test.YtlgjkdaembipoaaDoorPwT17
import Derived.Test.YtlgjkdaembipoaaDoorPwT15
import Derived.Test.YtlgjkdaembipoaaDoorPwT9
import Derived.ProofKit
import Derived.ChangeOld
import Derived.Below
import Derived.Carry
import Derived.SizedLaws
import Derived.ChangeArms
import Derived.ChangeVars
import Derived.WalkSmall
import Derived.LaidHandle
import Derived.ChangeSlices
import Derived.Test.YtlgjkdaembipoaaDoorPwT10
import Derived.Lib.LaidTab
import Derived.LaidMore
set_option linter.unusedSimpArgs false
set_option linter.unusedVariables false
set_option linter.unusedSimpArgs false
set_option maxRecDepth 20000
namespace Go.Proofs.Pw
set_option linter.unusedSectionVars false
variable [Globs]
def x_szEdit : X := (.seq (.reg [⟨some 2, none, .box (.t 0) (some 13)⟩, ⟨some 4, none, .mv (.k (.c (.int .i64 0)))⟩] none [1, 2]) (.seq (.reg [⟨some 5, none, .fa (.t 2) 0⟩, ⟨some 6, none, .load (.t 5) none⟩, ⟨some 7, none, .mv (.t 1)⟩, ⟨some 8, none, .call 33 [(.t 6), (.t 7)]⟩, ⟨some 1, none, .mv (.t 8)⟩] none [1, 2]) (.seq (.seq (.reg [⟨some 9, none, .mv (.t 1)⟩, ⟨some 10, none, .bin false .lss (.t 9) (.k (.c (.int .i64 0)))⟩] none [1, 2, 10]) (.cond (.t 10) (.seq (.reg [⟨some 4, none, .mv (.k (.c (.int .i64 (-1))))⟩] none [4]) .ret) .skip)) (.seq (.reg [⟨some 11, none, .fa (.t 2) 1⟩, ⟨some 12, none, .load (.t 11) (some 5)⟩, ⟨some 13, none, .mv (.t 1)⟩, ⟨some 14, none, .call 23 [(.t 12), (.t 13)]⟩, ⟨some 1, none, .mv (.t 14)⟩] none [1, 2]) (.seq (.seq (.reg [⟨some 15, none, .mv (.t 1)⟩, ⟨some 16, none, .bin false .lss (.t 15) (.k (.c (.int .i64 0)))⟩] none [1, 2, 16]) (.cond (.t 16) (.seq (.reg [⟨some 4, none, .mv (.k (.c (.int .i64 (-1))))⟩] none [4]) .ret) .skip)) (.seq (.reg [⟨some 17, none, .fa (.t 2) 7⟩, ⟨some 18, none, .load (.t 17) (some 5)⟩, ⟨some 19, none, .mv (.t 1)⟩, ⟨some 20, none, .call 23 [(.t 18), (.t 19)]⟩, ⟨some 1, none, .mv (.t 20)⟩] none [1]) (.seq (.seq (.reg [⟨some 21, none, .mv (.t 1)⟩, ⟨some 22, none, .bin false .lss (.t 21) (.k (.c (.int .i64 0)))⟩] none [1, 22]) (.cond (.t 22) (.seq (.reg [⟨some 4, none, .mv (.k (.c (.int .i64 (-1))))⟩] none [4]) .ret) .skip)) (.seq (.reg [⟨some 23, none, .mv (.t 1)⟩, ⟨some 4, none, .mv (.t 23)⟩] none [4]) .ret))))))))
theorem chk_szEdit : chkX Go.Proofs.Tryd.prog 24 (Go.Proofs.Tryd.f15.body.getD .skip) x_szEdit = true := by kernel_rfl
theorem rs_szEdit : okRs Go.Proofs.Tryd.prog Go.Proofs.Tryd.f15.results.toList [.tmp 4] = true := by kernel_rfl
theorem call_szEdit : okCallee Go.Proofs.Tryd.prog 15 = true := by kernel_rfl
def x_szEditS : X := (.seq (.reg [⟨some 4, none, .mv (.k (.c (.int .i64 0)))⟩] none [0, 1]) (.seq (.reg [⟨some 6, none, .mv (.t 1)⟩, ⟨some 7, none, .mv (.t 0)⟩, ⟨some 8, none, .len (.t 7) false⟩, ⟨some 9, none, .bin false .sub (.t 6) (.t 8)⟩, ⟨some 1, none, .mv (.t 9)⟩] none [0, 1]) (.seq (.seq (.reg [⟨some 10, none, .mv (.t 1)⟩, ⟨some 11, none, .bin false .lss (.t 10) (.k (.c (.int .i64 0)))⟩] none [0, 1, 11]) (.cond (.t 11) (.seq (.reg [⟨some 4, none, .mv (.k (.c (.int .i64 (-1))))⟩] none [4]) .ret) .skip)) (.seq (.seq (.reg [⟨some 5, none, .mv (.k (.c (.int .i64 0)))⟩] none [0, 1, 5]) (.block 0 (.loop (.seq (.seq (.reg [⟨some 12, none, .mv (.t 5)⟩, ⟨some 13, none, .mv (.t 0)⟩, ⟨some 14, none, .len (.t 13) false⟩, ⟨some 15, none, .bin false .lss (.t 12) (.t 14)⟩] none [0, 1, 5, 15]) (.cond (.t 15) .skip (.exit 0))) (.seq (.block 1 (.seq (.reg [⟨some 18, none, .mv (.t 0)⟩, ⟨some 19, none, .mv (.t 5)⟩, ⟨some 20, none, .ia (.t 18) (.t 19) 13⟩, ⟨some 21, none, .load (.t 20) (some 13)⟩, ⟨some 22, none, .mv (.t 1)⟩, ⟨some 23, none, .call 15 [(.t 21), (.t 22)]⟩, ⟨some 1, none, .mv (.t 23)⟩] none [0, 1, 5]) (.seq (.reg [⟨some 24, none, .mv (.t 1)⟩, ⟨some 25, none, .bin false .lss (.t 24) (.k (.c (.int .i64 0)))⟩] none [0, 1, 5, 25]) (.cond (.t 25) (.seq (.reg [⟨some 4, none, .mv (.k (.c (.int .i64 (-1))))⟩] none [4]) .ret) .skip)))) (.reg [⟨some 16, none, .mv (.t 5)⟩, ⟨some 17, none, .bin false .add (.t 16) (.k (.c (.int .i64 1)))⟩, ⟨some 5, none, .mv (.t 17)⟩] none [0, 1, 5])))))) (.seq (.reg [⟨some 26, none, .mv (.t 1)⟩, ⟨some 4, none, .mv (.t 26)⟩] none [4]) .ret)))))
theorem chk_szEditS : chkX Go.Proofs.Tryd.prog 27 (Go.Proofs.Tryd.f5.body.getD .skip) x_szEditS = true := by kernel_rfl
theorem rs_szEditS : okRs Go.Proofs.Tryd.prog Go.Proofs.Tryd.f5.results.toList [.tmp 4] = true := by kernel_rfl
theorem call_szEditS : okCallee Go.Proofs.Tryd.prog 5 = true := by kernel_rfl
def x_toEdit : X := (.seq (.reg [⟨some 1, none, .box (.t 0) (some 13)⟩, ⟨some 2, none, .alloc [(.z 3), (.c (.int .i64 0)), (.c (.int .i64 0)), (.c (.str ⟨#[]⟩)), (.z 1), (.z 5), (.c (.bool false)), (.c (.int .i64 0)), (.c (.int .i64 0)), (.c (.str ⟨#[]⟩)), (.z 1), (.z 5), (.c (.bool false))]⟩] none [1, 2]) (.seq (.reg [⟨some 3, none, .alloc [(.z 3), (.c (.int .i64 0)), (.c (.int .i64 0)), (.c (.str ⟨#[]⟩)), (.z 1), (.z 5), (.c (.bool false)), (.c (.int .i64 0)), (.c (.int .i64 0)), (.c (.str ⟨#[]⟩)), (.z 1), (.z 5), (.c (.bool false))]⟩] none [1, 2, 3]) (.seq (.reg [⟨some 4, none, .fa (.t 1) 0⟩, ⟨some 5, none, .load (.t 4) none⟩, ⟨some 6, none, .call 37 [(.t 5)]⟩, ⟨some 7, none, .fa (.t 3) 0⟩, ⟨none, none, .st (.t 7) (.t 6) none⟩] none [1, 2, 3]) (.seq (.reg [⟨some 8, none, .fa (.t 1) 1⟩, ⟨some 9, none, .load (.t 8) (some 5)⟩, ⟨some 10, none, .call 27 [(.t 9)]⟩, ⟨some 11, none, .fa (.t 3) 1⟩, ⟨none, none, .st (.t 11) (.t 10) (some 5)⟩] none [1, 2, 3]) (.seq (.reg [⟨some 12, none, .fa (.t 1) 6⟩, ⟨some 13, none, .load (.t 12) none⟩, ⟨some 14, none, .fa (.t 3) 6⟩, ⟨none, none, .st (.t 14) (.t 13) none⟩] none [1, 2, 3]) (.seq (.reg [⟨some 15, none, .fa (.t 1) 7⟩, ⟨some 16, none, .load (.t 15) (some 5)⟩, ⟨some 17, none, .call 27 [(.t 16)]⟩, ⟨some 18, none, .fa (.t 3) 7⟩, ⟨none, none, .st (.t 18) (.t 17) (some 5)⟩] none [1, 2, 3]) (.seq (.reg [⟨some 19, none, .fa (.t 1) 12⟩, ⟨some 20, none, .load (.t 19) none⟩, ⟨some 21, none, .fa (.t 3) 12⟩, ⟨none, none, .st (.t 21) (.t 20) none⟩] none [2, 3]) (.seq (.reg [⟨some 22, none, .load (.t 3) (some 13)⟩, ⟨none, none, .st (.t 2) (.t 22) (some 13)⟩] none [2]) .ret))))))))
theorem chk_toEdit : chkX Go.Proofs.Tryd.prog 23 (Go.Proofs.Tryd.f18.body.getD .skip) x_toEdit = true := by kernel_rfl
theorem rs_toEdit : okRs Go.Proofs.Tryd.prog Go.Proofs.Tryd.f18.results.toList [.cell 2 (some 13)] = true := by kernel_rfl
theorem call_toEdit : okCallee Go.Proofs.Tryd.prog 18 = true := by kernel_rfl
def x_toEditS : X := (.seq (.reg [⟨some 2, none, .mv (.k (.z 13))⟩] none [0]) (.seq (.reg [⟨some 5, none, .mv (.t 0)⟩, ⟨some 6, none, .len (.t 5) false⟩, ⟨some 7, none, .mk (.t 6) [(.row 3 []), (.int .i64 0), (.int .i64 0), (.str ⟨#[]⟩), (.row 1 []), (.row 5 []), (.bool false), (.int .i64 0), (.int .i64 0), (.str ⟨#[]⟩), (.row 1 []), (.row 5 []), (.bool false)] 200⟩, ⟨some 3, none, .mv (.t 7)⟩] none [0, 3]) (.seq (.seq (.reg [⟨some 4, none, .mv (.k (.c (.int .i64 0)))⟩] none [0, 3, 4]) (.block 0 (.loop (.seq (.seq (.reg [⟨some 8, none, .mv (.t 4)⟩, ⟨some 9, none, .mv (.t 0)⟩, ⟨some 10, none, .len (.t 9) false⟩, ⟨some 11, none, .bin false .lss (.t 8) (.t 10)⟩] none [0, 3, 4, 11]) (.cond (.t 11) .skip (.exit 0))) (.seq (.block 1 (.reg [⟨some 14, none, .mv (.t 3)⟩, ⟨some 15, none, .mv (.t 4)⟩, ⟨some 16, none, .mv (.t 0)⟩, ⟨some 17, none, .mv (.t 4)⟩, ⟨some 18, none, .ia (.t 16) (.t 17) 13⟩, ⟨some 19, none, .load (.t 18) (some 13)⟩, ⟨some 20, none, .call 18 [(.t 19)]⟩, ⟨some 21, none, .ia (.t 14) (.t 15) 13⟩, ⟨none, none, .st (.t 21) (.t 20) (some 13)⟩] none [0, 3, 4])) (.reg [⟨some 12, none, .mv (.t 4)⟩, ⟨some 13, none, .bin false .add (.t 12) (.k (.c (.int .i64 1)))⟩, ⟨some 4, none, .mv (.t 13)⟩] none [0, 3, 4])))))) (.seq (.reg [⟨some 22, none, .mv (.t 3)⟩, ⟨some 2, none, .mv (.t 22)⟩] none [2]) .ret))))
theorem chk_toEditS : chkX Go.Proofs.Tryd.prog 23 (Go.Proofs.Tryd.f7.body.getD .skip) x_toEditS = true := by kernel_rfl
theorem rs_toEditS : okRs Go.Proofs.Tryd.prog Go.Proofs.Tryd.f7.results.toList [.tmp 2] = true := by kernel_rfl
theorem call_toEditS : okCallee Go.Proofs.Tryd.prog 7 = true := by kernel_rfl
def x_eqEdit : X := (.seq (.reg [⟨some 2, none, .box (.t 0) (some 13)⟩, ⟨some 3, none, .box (.t 1) (some 13)⟩, ⟨some 4, none, .mv (.k (.c (.bool false)))⟩] none [2, 3]) (.seq (.seq (.reg [⟨some 5, none, .fa (.t 2) 0⟩, ⟨some 6, none, .load (.t 5) none⟩, ⟨some 7, none, .fa (.t 3) 0⟩, ⟨some 8, none, .load (.t 7) none⟩, ⟨some 9, none, .callb 42 [(.t 6), (.t 8)]⟩, ⟨some 10, none, .not (.t 9)⟩] none [2, 3, 10]) (.cond (.t 10) (.seq (.reg [⟨some 4, none, .mv (.k (.c (.bool false)))⟩] none [4]) .ret) .skip)) (.seq (.seq (.reg [⟨some 11, none, .fa (.t 2) 1⟩, ⟨some 12, none, .load (.t 11) (some 5)⟩, ⟨some 13, none, .fa (.t 3) 1⟩, ⟨some 14, none, .load (.t 13) (some 5)⟩, ⟨some 15, none, .call 31 [(.t 12), (.t 14)]⟩, ⟨some 16, none, .not (.t 15)⟩] none [2, 3, 16]) (.cond (.t 16) (.seq (.reg [⟨some 4, none, .mv (.k (.c (.bool false)))⟩] none [4]) .ret) .skip)) (.seq (.seq (.reg [⟨some 17, none, .fa (.t 2) 6⟩, ⟨some 18, none, .load (.t 17) none⟩, ⟨some 19, none, .fa (.t 3) 6⟩, ⟨some 20, none, .load (.t 19) none⟩, ⟨some 21, none, .bin true .neq (.t 18) (.t 20)⟩] none [2, 3, 21]) (.cond (.t 21) (.seq (.reg [⟨some 4, none, .mv (.k (.c (.bool false)))⟩] none [4]) .ret) .skip)) (.seq (.seq (.reg [⟨some 22, none, .fa (.t 2) 7⟩, ⟨some 23, none, .load (.t 22) (some 5)⟩, ⟨some 24, none, .fa (.t 3) 7⟩, ⟨some 25, none, .load (.t 24) (some 5)⟩, ⟨some 26, none, .call 31 [(.t 23), (.t 25)]⟩, ⟨some 27, none, .not (.t 26)⟩] none [2, 3, 27]) (.cond (.t 27) (.seq (.reg [⟨some 4, none, .mv (.k (.c (.bool false)))⟩] none [4]) .ret) .skip)) (.seq (.seq (.reg [⟨some 28, none, .fa (.t 2) 12⟩, ⟨some 29, none, .load (.t 28) none⟩, ⟨some 30, none, .fa (.t 3) 12⟩, ⟨some 31, none, .load (.t 30) none⟩, ⟨some 32, none, .bin true .neq (.t 29) (.t 31)⟩] none [32]) (.cond (.t 32) (.seq (.reg [⟨some 4, none, .mv (.k (.c (.bool false)))⟩] none [4]) .ret) .skip)) (.seq (.reg [⟨some 4, none, .mv (.k (.c (.bool true)))⟩] none [4]) .ret)))))))
theorem chk_eqEdit : chkX Go.Proofs.Tryd.prog 33 (Go.Proofs.Tryd.f22.body.getD .skip) x_eqEdit = true := by kernel_rfl
theorem rs_eqEdit : okRs Go.Proofs.Tryd.prog Go.Proofs.Tryd.f22.results.toList [.tmp 4] = true := by kernel_rfl
theorem call_eqEdit : okCallee Go.Proofs.Tryd.prog 22 = true := by kernel_rfl
def x_eqEditS : X := (.seq (.reg [⟨some 4, none, .mv (.k (.c (.bool false)))⟩] none [0, 1]) (.seq (.seq (.reg [⟨some 6, none, .mv (.t 0)⟩, ⟨some 7, none, .len (.t 6) false⟩, ⟨some 8, none, .mv (.t 1)⟩, ⟨some 9, none, .len (.t 8) false⟩, ⟨some 10, none, .bin false .neq (.t 7) (.t 9)⟩] none [0, 1, 10]) (.cond (.t 10) (.seq (.reg [⟨some 4, none, .mv (.k (.c (.bool false)))⟩] none [4]) .ret) .skip)) (.seq (.seq (.reg [⟨some 5, none, .mv (.k (.c (.int .i64 0)))⟩] none [0, 1, 5]) (.block 0 (.loop (.seq (.seq (.reg [⟨some 11, none, .mv (.t 5)⟩, ⟨some 12, none, .mv (.t 0)⟩, ⟨some 13, none, .len (.t 12) false⟩, ⟨some 14, none, .bin false .lss (.t 11) (.t 13)⟩] none [0, 1, 5, 14]) (.cond (.t 14) .skip (.exit 0))) (.seq (.block 1 (.seq (.reg [⟨some 17, none, .mv (.t 0)⟩, ⟨some 18, none, .mv (.t 5)⟩, ⟨some 19, none, .ia (.t 17) (.t 18) 13⟩, ⟨some 20, none, .load (.t 19) (some 13)⟩, ⟨some 21, none, .mv (.t 1)⟩, ⟨some 22, none, .mv (.t 5)⟩, ⟨some 23, none, .ia (.t 21) (.t 22) 13⟩, ⟨some 24, none, .load (.t 23) (some 13)⟩, ⟨some 25, none, .call 22 [(.t 20), (.t 24)]⟩, ⟨some 26, none, .not (.t 25)⟩] (some 8) [0, 1, 5, 26]) (.cond (.t 26) (.seq (.reg [⟨some 4, none, .mv (.k (.c (.bool false)))⟩] none [4]) .ret) .skip))) (.reg [⟨some 15, none, .mv (.t 5)⟩, ⟨some 16, none, .bin false .add (.t 15) (.k (.c (.int .i64 1)))⟩, ⟨some 5, none, .mv (.t 16)⟩] none [0, 1, 5])))))) (.seq (.reg [⟨some 4, none, .mv (.k (.c (.bool true)))⟩] none [4]) .ret))))
theorem chk_eqEditS : chkX Go.Proofs.Tryd.prog 27 (Go.Proofs.Tryd.f9.body.getD .skip) x_eqEditS = true := by kernel_rfl
theorem rs_eqEditS : okRs Go.Proofs.Tryd.prog Go.Proofs.Tryd.f9.results.toList [.tmp 4] = true := by kernel_rfl
theorem call_eqEditS : okCallee Go.Proofs.Tryd.prog 9 = true := by kernel_rfl
theorem foldVe (vk vn : Int) (vs : ByteArray) (vks : List ByteArray) (vl : List T) : DV.agg [C.int .i64 vk, C.int .i64 vn, C.str vs, C.row 1 (strs vks), C.row 5 (encL vl)] = DV.agg (T.mk vk vn vs vks vl).enc := rfl
noncomputable def spSzEd  : Spec := Spec.of (ι := Ed × Int) [false, false] (fun i => [.d (.agg i.1.enc), .d (.one (.int .i64 i.2))]) (fun i => i.1.fitI ∧ 0 ≤ i.2 ∧ i.2 ≤ 1048576) (fun i => [.d (.one (.int .i64 (szEd i.1 i.2)))]) (fun _ => [.gone, .gone])
theorem spSzEd_inj : ∀ i j : Ed × Int, (fun (i : Ed × Int) => ([.d (.agg i.1.enc), .d (.one (.int .i64 i.2))] : List AV)) i = (fun (i : Ed × Int) => ([.d (.agg i.1.enc), .d (.one (.int .i64 i.2))] : List AV)) j → i = j := by
  rintro ⟨e, l⟩ ⟨e', l'⟩ h
  simp only [Prod.mk.injEq]
  simpa [strs_eq, T.enc_eq, encL_eq, F.enc_eq, encF_eq, Tk.enc_eq, encTk_eq, Gn.enc_eq, ints_eq, encS_eq, encE_eq, Ed.enc_eq, Stp.enc_eq] using h
theorem spSzEd_md  : (spSzEd).md = [false, false] := rfl
theorem spSzEd_pre  (e : Ed) (l : Int) : (spSzEd).pre [.d (.agg e.enc), .d (.one (.int .i64 l))] = (e.fitI ∧ 0 ≤ l ∧ l ≤ 1048576) := Spec.of_pre' spSzEd_inj (e, l)
theorem spSzEd_alts  : (spSzEd).alts = none := rfl
theorem spSzEd_res  (e : Ed) (l : Int) : (spSzEd).res [.d (.agg e.enc), .d (.one (.int .i64 l))] = [.d (.one (.int .i64 (szEd e l)))] := Spec.of_res spSzEd_inj (e, l)
theorem spSzEd_out  (e : Ed) (l : Int) : (spSzEd).out [.d (.agg e.enc), .d (.one (.int .i64 l))] = [.gone, .gone] := Spec.of_out spSzEd_inj (e, l)
theorem szEd_sound : Sound Go.Proofs.Tryd.prog 15 spSzEd := by
  refine sound_fam (GOK.cons (l := [(23, spSzV)]) call_szStepS szStpS_sound (GOK.cons call_szVal szV_sound GOK.nil)) Go.Proofs.Tryd.func15 (c := Go.Proofs.Tryd.f15.body.getD .skip) rfl (n := 24) rfl chk_szEdit rs_szEdit (fun _ => by simp) ?_ ?_
  · exact spSzEd_inj
  · rintro ⟨⟨p, ⟨wk, wn, ws, wks, wl⟩, hd, ⟨nk, nn, ns, nks, nl⟩, hs⟩, left⟩ ⟨⟨f1, f2, f3⟩, h2, h3⟩
    simp only at f1 f2 f3 h2 h3
    have e1 := szStpS_le (p := p) (left := left)
    have e2 := szT_le (t := .mk wk wn ws wks wl) (left := szStpS p left)
    have e3 := szT_le (t := .mk nk nn ns nks nl) (left := szT (.mk wk wn ws wks wl) (szStpS p left))
    have e4 : szEd ⟨p, .mk wk wn ws wks wl, hd, .mk nk nn ns nks nl, hs⟩ left = if szStpS p left < 0 then -1 else if szT (.mk wk wn ws wks wl) (szStpS p left) < 0 then -1 else if szT (.mk nk nn ns nks nl) (szT (.mk wk wn ws wks wl) (szStpS p left)) < 0 then -1 else szT (.mk nk nn ns nks nl) (szT (.mk wk wn ws wks wl) (szStpS p left)) := rfl
    simp only [x_szEdit, Ed.enc, T.enc, List.cons_append, List.nil_append, go_sem, seval, Prod.fst, rg, foldVe, spSzStpS_md, spSzStpS_pre, spSzStpS_alts, spSzStpS_res, spSzStpS_out, spSzV_md, spSzV_pre, spSzV_alts, spSzV_res, spSzV_out]
    rw [e4]
    repeat' (first | with_reducible assumption | with_reducible refine And.intro ?_ ?_ | intro _)
    all_goals first | omega | with_reducible assumption | skip
noncomputable def spSzEdS  : Spec := Spec.of (ι := (List Ed) × Int) [false, false] (fun i => [.d (.one (.row 13 (encE i.1))), .d (.one (.int .i64 i.2))]) (fun i => lenB 140737488355328 i.1.length ∧ fitE i.1 ∧ 0 ≤ i.2 ∧ i.2 ≤ 1048576) (fun i => [.d (.one (.int .i64 (szEdS i.1 i.2)))]) (fun _ => [.gone, .gone])
theorem spSzEdS_inj : ∀ i j : (List Ed) × Int, (fun (i : (List Ed) × Int) => ([.d (.one (.row 13 (encE i.1))), .d (.one (.int .i64 i.2))] : List AV)) i = (fun (i : (List Ed) × Int) => ([.d (.one (.row 13 (encE i.1))), .d (.one (.int .i64 i.2))] : List AV)) j → i = j := by
  rintro ⟨ks, l⟩ ⟨ks', l'⟩ h
  simp only [Prod.mk.injEq]
  simpa [strs_eq, T.enc_eq, encL_eq, F.enc_eq, encF_eq, Tk.enc_eq, encTk_eq, Gn.enc_eq, ints_eq, encS_eq, encE_eq, Ed.enc_eq, Stp.enc_eq] using h
theorem spSzEdS_md  : (spSzEdS).md = [false, false] := rfl
theorem spSzEdS_pre  (ks : List Ed) (l : Int) : (spSzEdS).pre [.d (.one (.row 13 (encE ks))), .d (.one (.int .i64 l))] = (lenB 140737488355328 ks.length ∧ fitE ks ∧ 0 ≤ l ∧ l ≤ 1048576) := Spec.of_pre' spSzEdS_inj (ks, l)
theorem spSzEdS_alts  : (spSzEdS).alts = none := rfl
theorem spSzEdS_res  (ks : List Ed) (l : Int) : (spSzEdS).res [.d (.one (.row 13 (encE ks))), .d (.one (.int .i64 l))] = [.d (.one (.int .i64 (szEdS ks l)))] := Spec.of_res spSzEdS_inj (ks, l)
theorem spSzEdS_out  (ks : List Ed) (l : Int) : (spSzEdS).out [.d (.one (.row 13 (encE ks))), .d (.one (.int .i64 l))] = [.gone, .gone] := Spec.of_out spSzEdS_inj (ks, l)
theorem szEdS_sound : Sound Go.Proofs.Tryd.prog 5 spSzEdS := by
  refine sound_fam (GOK.cons call_szEdit szEd_sound GOK.nil) Go.Proofs.Tryd.func5 (c := Go.Proofs.Tryd.f5.body.getD .skip) rfl (n := 27) rfl chk_szEditS rs_szEditS (fun _ => by simp) ?_ ?_
  · exact spSzEdS_inj
  · rintro ⟨ks, left⟩ ⟨h1, h2, h3, h4⟩
    try simp only at h1 h2 h3 h4
    simp only [lenB] at h1
    simp only [x_szEditS, rg, go_sem, seval]
    refine ⟨by omega, fun _ => ⟨fun h => by simp only [szEdS]; rw [if_pos h], fun h => ?_⟩⟩
    refine pw_loop (ι := Nat × Int) (fun i => ks.length - i.1) (fun i => i.1 ≤ ks.length ∧ 0 ≤ i.2 ∧ i.2 ≤ left ∧ szEdL (ks.drop i.1) i.2 = szEdS ks left)
      (fun i => ⟨[(0, .q (.c (.row 13 (encE ks)))), (1, .q (.c (.int .i64 i.2))), (5, .q (.c (.int .i64 i.1)))], [], []⟩) (0, left - ks.length) ⟨by omega, by omega, by omega, by simp only [szEdS, List.drop_zero]; rw [if_neg h]⟩ (Le.refl _) ?_
    rintro ⟨i, l⟩ ⟨hi, hl0, hl, heq⟩
    simp only at hi hl0 hl heq
    rcases Nat.lt_or_ge i ks.length with hlt | hge
    · obtain ⟨t, hs, hdr, hmem⟩ := drop_at hlt
      have a1 := encE_at hs
      have a2 := fitE_mem h2 t hmem
      have a4 : ((i : Int) < (ks.length : Int)) = True := by simp; omega
      have a5 := szEd_le (t := t) hl0
      have a6 := Ed.enc_len t
      have a7 : (szEd t l < 0 → szEdS ks left = -1) ∧ (¬ szEd t l < 0 → szEdL (ks.drop (i + 1)) (szEd t l) = szEdS ks left) := by
        rw [hdr] at heq
        simp only [szEdL] at heq
        refine ⟨fun h => ?_, fun h => ?_⟩
        · rw [if_pos h] at heq; exact heq.symm
        · rw [if_neg h] at heq; exact heq
      simp only [go_sem, seval, rg, a1, a4, a6, toD_map, spSzEd_md, spSzEd_pre, spSzEd_alts, spSzEd_res, spSzEd_out]
      repeat' (first | with_reducible assumption | with_reducible refine And.intro ?_ ?_ | intro _)
      all_goals first | omega | (exact a7.1 (by assumption)) | skip
      exact ⟨(i + 1, szEd t l), ⟨by simp only; omega, by simp only; omega, by simp only; omega, a7.2 (by omega)⟩, by simp only; omega, Le.refl _⟩
    · have h7 : ((i : Int) < (ks.length : Int)) = False := by simp; omega
      rw [List.drop_eq_nil_of_le hge] at heq
      simp only [szEdL] at heq
      simp only [go_sem, seval, h7]
      exact heq.symm
noncomputable def spToEd  : Spec := Spec.of (ι := Ed) [false] (fun i => [.d (.agg i.enc)]) (fun i => i.fitM) (fun i => [.d (.agg i.enc)]) (fun _ => [.gone])
theorem spToEd_inj : ∀ i j : Ed, (fun (i : Ed) => ([.d (.agg i.enc)] : List AV)) i = (fun (i : Ed) => ([.d (.agg i.enc)] : List AV)) j → i = j := by
  intro t t' h
  simpa [strs_eq, T.enc_eq, encL_eq, F.enc_eq, encF_eq, Tk.enc_eq, encTk_eq, Gn.enc_eq, ints_eq, encS_eq, encE_eq, Ed.enc_eq, Stp.enc_eq] using h
theorem spToEd_md  : (spToEd).md = [false] := rfl
theorem spToEd_pre  (t : Ed) : (spToEd).pre [.d (.agg t.enc)] = (t.fitM) := Spec.of_pre' spToEd_inj t
theorem spToEd_alts  : (spToEd).alts = none := rfl
theorem spToEd_res  (t : Ed) : (spToEd).res [.d (.agg t.enc)] = [.d (.agg t.enc)] := Spec.of_res spToEd_inj t
theorem spToEd_out  (t : Ed) : (spToEd).out [.d (.agg t.enc)] = [.gone] := Spec.of_out spToEd_inj t
theorem toEd_sound : Sound Go.Proofs.Tryd.prog 18 spToEd := by
  refine sound_fam (GOK.cons (l := [(27, spToV)]) call_toStepS toStpS_sound (GOK.cons call_toVal toV_sound GOK.nil)) Go.Proofs.Tryd.func18 (c := Go.Proofs.Tryd.f18.body.getD .skip) rfl (n := 23) rfl chk_toEdit rs_toEdit (fun _ => by simp) ?_ ?_
  · exact spToEd_inj
  · rintro ⟨p, ⟨wk, wn, ws, wks, wl⟩, hd, ⟨nk, nn, ns, nks, nl⟩, hs⟩ ⟨f1, f2, f3, f4, f5, f6⟩
    simp only at f1 f2 f3 f4 f5 f6
    simp only [x_toEdit, Ed.enc, T.enc, List.cons_append, List.nil_append, go_sem, seval, Prod.fst, rg, foldVe, spToStpS_md, spToStpS_pre, spToStpS_alts, spToStpS_res, spToStpS_out, spToV_md, spToV_pre, spToV_alts, spToV_res, spToV_out]
    repeat' (first | with_reducible assumption | with_reducible refine And.intro ?_ ?_ | intro _)
    all_goals first | omega | with_reducible assumption | skip
noncomputable def spToEdS  : Spec := Spec.of (ι := (List Ed)) [false] (fun i => [.d (.one (.row 13 (encE i)))]) (fun i => lenB 1048576 i.length ∧ fitEM i) (fun i => [.d (.one (.row 13 (encE i)))]) (fun _ => [.gone])
theorem spToEdS_inj : ∀ i j : (List Ed), (fun (i : (List Ed)) => ([.d (.one (.row 13 (encE i)))] : List AV)) i = (fun (i : (List Ed)) => ([.d (.one (.row 13 (encE i)))] : List AV)) j → i = j := by
  intro ks ks' h
  simpa [strs_eq, T.enc_eq, encL_eq, F.enc_eq, encF_eq, Tk.enc_eq, encTk_eq, Gn.enc_eq, ints_eq, encS_eq, encE_eq, Ed.enc_eq, Stp.enc_eq] using h
theorem spToEdS_md  : (spToEdS).md = [false] := rfl
theorem spToEdS_pre  (ks : List Ed) : (spToEdS).pre [.d (.one (.row 13 (encE ks)))] = (lenB 1048576 ks.length ∧ fitEM ks) := Spec.of_pre' spToEdS_inj ks
theorem spToEdS_alts  : (spToEdS).alts = none := rfl
theorem spToEdS_res  (ks : List Ed) : (spToEdS).res [.d (.one (.row 13 (encE ks)))] = [.d (.one (.row 13 (encE ks)))] := Spec.of_res spToEdS_inj ks
theorem spToEdS_out  (ks : List Ed) : (spToEdS).out [.d (.one (.row 13 (encE ks)))] = [.gone] := Spec.of_out spToEdS_inj ks
theorem toEdS_sound : Sound Go.Proofs.Tryd.prog 7 spToEdS := by
  refine sound_fam (GOK.cons call_toEdit toEd_sound GOK.nil) Go.Proofs.Tryd.func7 (c := Go.Proofs.Tryd.f7.body.getD .skip) rfl (n := 23) rfl chk_toEditS rs_toEditS (fun _ => by simp) ?_ ?_
  · exact spToEdS_inj
  · intro ks h1
    obtain ⟨h1, h2⟩ := h1
    simp only [lenB] at h1
    simp only [x_toEditS, rg, go_sem, seval]
    repeat' (first | with_reducible assumption | with_reducible refine And.intro ?_ ?_ | intro _)
    all_goals first | omega | skip
    have hl : (encE ks).length = (List.replicate ks.length [C.row 3 [], C.int .i64 0, C.int .i64 0, C.str ⟨#[]⟩, C.row 1 [], C.row 5 [], C.bool false, C.int .i64 0, C.int .i64 0, C.str ⟨#[]⟩, C.row 1 [], C.row 5 [], C.bool false]).length := by simp [encE_len]
    refine pw_loop (ι := Nat) (fun i => ks.length - i) (fun i => i ≤ ks.length)
      (fun i => ⟨[(0, .q (.c (.row 13 (encE ks)))), (3, .q (.own 7)), (4, .q (.c (.int .i64 i)))], [], [(7, 13, (encE ks).take i ++ (List.replicate ks.length [C.row 3 [], C.int .i64 0, C.int .i64 0, C.str ⟨#[]⟩, C.row 1 [], C.row 5 [], C.bool false, C.int .i64 0, C.int .i64 0, C.str ⟨#[]⟩, C.row 1 [], C.row 5 [], C.bool false]).drop i)]⟩) 0 (Nat.zero_le _) (Le.refl _) ?_
    intro i hi
    rcases Nat.lt_or_ge i ks.length with hlt | hge
    · obtain ⟨s, hs, hdr, hmem⟩ := drop_at hlt
      have a1 := encE_at hs
      have a2 : ((i : Int) < (ks.length : Int)) = True := by simp; omega
      have a3 : ((encE ks).take i ++ (List.replicate ks.length [C.row 3 [], C.int .i64 0, C.int .i64 0, C.str ⟨#[]⟩, C.row 1 [], C.row 5 [], C.bool false, C.int .i64 0, C.int .i64 0, C.str ⟨#[]⟩, C.row 1 [], C.row 5 [], C.bool false]).drop i).length = ks.length := by rw [fill_len hl]; simp
      have a4 : ((encE ks).take i ++ (List.replicate ks.length [C.row 3 [], C.int .i64 0, C.int .i64 0, C.str ⟨#[]⟩, C.row 1 [], C.row 5 [], C.bool false, C.int .i64 0, C.int .i64 0, C.str ⟨#[]⟩, C.row 1 [], C.row 5 [], C.bool false]).drop i).getD i [] = [C.row 3 [], C.int .i64 0, C.int .i64 0, C.str ⟨#[]⟩, C.row 1 [], C.row 5 [], C.bool false, C.int .i64 0, C.int .i64 0, C.str ⟨#[]⟩, C.row 1 [], C.row 5 [], C.bool false] := by rw [fill_get hl (by rw [encE_len]; exact hlt), getD_rep hlt]
      have a5 : ((encE ks).take i ++ (List.replicate ks.length [C.row 3 [], C.int .i64 0, C.int .i64 0, C.str ⟨#[]⟩, C.row 1 [], C.row 5 [], C.bool false, C.int .i64 0, C.int .i64 0, C.str ⟨#[]⟩, C.row 1 [], C.row 5 [], C.bool false]).drop i).set i s.enc = (encE ks).take (i + 1) ++ (List.replicate ks.length [C.row 3 [], C.int .i64 0, C.int .i64 0, C.str ⟨#[]⟩, C.row 1 [], C.row 5 [], C.bool false, C.int .i64 0, C.int .i64 0, C.str ⟨#[]⟩, C.row 1 [], C.row 5 [], C.bool false]).drop (i + 1) := fill_set hl (by simp [encE, hs])
      have a6 := Ed.enc_len s
      have a7 := fitEM_mem h2 s hmem
      have a9 : placeC [C.row 3 [], C.int .i64 0, C.int .i64 0, C.str ⟨#[]⟩, C.row 1 [], C.row 5 [], C.bool false, C.int .i64 0, C.int .i64 0, C.str ⟨#[]⟩, C.row 1 [], C.row 5 [], C.bool false] 0 s.enc = s.enc := placeC_whole (by rw [a6]; rfl)
      simp only [rg, a9, go_sem, seval, a1, a2, a3, a4, a5, a6, List.length_map, spToEd_md, spToEd_pre, spToEd_alts, spToEd_res, spToEd_out]
      repeat' (first | with_reducible assumption | with_reducible refine And.intro ?_ ?_ | intro _)
      all_goals first | omega | skip
      exact ⟨i + 1, by omega, by omega, Le.refl _⟩
    · have a2 : ((i : Int) < (ks.length : Int)) = False := by simp; omega
      have hie : i = (encE ks).length := by rw [encE_len]; omega
      have a3 : (encE ks).take i ++ (List.replicate ks.length [C.row 3 [], C.int .i64 0, C.int .i64 0, C.str ⟨#[]⟩, C.row 1 [], C.row 5 [], C.bool false, C.int .i64 0, C.int .i64 0, C.str ⟨#[]⟩, C.row 1 [], C.row 5 [], C.bool false]).drop i = encE ks := by rw [hie]; exact fill_all hl
      simp only [go_sem, seval, a2, a3]
noncomputable def spEqEd  : Spec := Spec.of (ι := Ed × Ed) [false, false] (fun i => [.d (.agg i.1.enc), .d (.agg i.2.enc)]) (fun i => i.1.fitM ∧ i.2.fitM) (fun i => [.d (.one (.bool (decide (i.1 = i.2))))]) (fun _ => [.gone, .gone])
theorem spEqEd_inj : ∀ i j : Ed × Ed, (fun (i : Ed × Ed) => ([.d (.agg i.1.enc), .d (.agg i.2.enc)] : List AV)) i = (fun (i : Ed × Ed) => ([.d (.agg i.1.enc), .d (.agg i.2.enc)] : List AV)) j → i = j := by
  rintro ⟨a, b⟩ ⟨a', b'⟩ h
  simp only [Prod.mk.injEq]
  simpa [strs_eq, T.enc_eq, encL_eq, F.enc_eq, encF_eq, Tk.enc_eq, encTk_eq, Gn.enc_eq, ints_eq, encS_eq, encE_eq, Ed.enc_eq, Stp.enc_eq] using h
theorem spEqEd_md  : (spEqEd).md = [false, false] := rfl
theorem spEqEd_pre  (a : Ed) (b : Ed) : (spEqEd).pre [.d (.agg a.enc), .d (.agg b.enc)] = (a.fitM ∧ b.fitM) := Spec.of_pre' spEqEd_inj (a, b)
theorem spEqEd_alts  : (spEqEd).alts = none := rfl
theorem spEqEd_res  (a : Ed) (b : Ed) : (spEqEd).res [.d (.agg a.enc), .d (.agg b.enc)] = [.d (.one (.bool (decide (a = b))))] := Spec.of_res spEqEd_inj (a, b)
theorem spEqEd_out  (a : Ed) (b : Ed) : (spEqEd).out [.d (.agg a.enc), .d (.agg b.enc)] = [.gone, .gone] := Spec.of_out spEqEd_inj (a, b)
theorem eqEd_sound : Sound Go.Proofs.Tryd.prog 22 spEqEd := by
  refine sound_fam (GOK.cons (l := [(31, spEqV)]) call_eqStepS eqStpS_sound (GOK.cons call_eqVal eqV_sound GOK.nil)) Go.Proofs.Tryd.func22 (c := Go.Proofs.Tryd.f22.body.getD .skip) rfl (n := 33) rfl chk_eqEdit rs_eqEdit (fun _ => by simp) ?_ ?_
  · exact spEqEd_inj
  · rintro ⟨⟨p, ⟨wk, wn, ws, wks, wl⟩, hd, ⟨nk, nn, ns, nks, nl⟩, hs⟩, ⟨p', ⟨wk', wn', ws', wks', wl'⟩, hd', ⟨nk', nn', ns', nks', nl'⟩, hs'⟩⟩ ⟨⟨f1, f2, f3, f4, f5, f6⟩, ⟨g1, g2, g3, g4, g5, g6⟩⟩
    simp only at f1 f2 f3 f4 f5 f6 g1 g2 g3 g4 g5 g6
    cases hd <;> cases hd' <;> cases hs <;> cases hs' <;>
      (simp only [x_eqEdit, Ed.enc, T.enc, List.cons_append, List.nil_append, go_sem, seval, Prod.fst, rg, foldVe, Bool.bne_true, Bool.bne_false, spEqStpS_md, spEqStpS_pre, spEqStpS_alts, spEqStpS_res, spEqStpS_out, spEqV_md, spEqV_pre, spEqV_alts, spEqV_res, spEqV_out, Ed.mk.injEq]
       repeat' (first | with_reducible assumption | with_reducible refine And.intro ?_ ?_ | intro _)
       all_goals first | omega | with_reducible assumption | (simp_all; done) | skip)
noncomputable def spEqEdS  : Spec := Spec.of (ι := (List Ed) × (List Ed)) [false, false] (fun i => [.d (.one (.row 13 (encE i.1))), .d (.one (.row 13 (encE i.2)))]) (fun i => lenB 1048576 i.1.length ∧ fitEM i.1 ∧ lenB 1048576 i.2.length ∧ fitEM i.2) (fun i => [.d (.one (.bool (decide (i.1 = i.2))))]) (fun _ => [.gone, .gone])
theorem spEqEdS_inj : ∀ i j : (List Ed) × (List Ed), (fun (i : (List Ed) × (List Ed)) => ([.d (.one (.row 13 (encE i.1))), .d (.one (.row 13 (encE i.2)))] : List AV)) i = (fun (i : (List Ed) × (List Ed)) => ([.d (.one (.row 13 (encE i.1))), .d (.one (.row 13 (encE i.2)))] : List AV)) j → i = j := by
  rintro ⟨a, b⟩ ⟨a', b'⟩ h
  simp only [Prod.mk.injEq]
  simpa [strs_eq, T.enc_eq, encL_eq, F.enc_eq, encF_eq, Tk.enc_eq, encTk_eq, Gn.enc_eq, ints_eq, encS_eq, encE_eq, Ed.enc_eq, Stp.enc_eq] using h
theorem spEqEdS_md  : (spEqEdS).md = [false, false] := rfl
theorem spEqEdS_pre  (a : List Ed) (b : List Ed) : (spEqEdS).pre [.d (.one (.row 13 (encE a))), .d (.one (.row 13 (encE b)))] = (lenB 1048576 a.length ∧ fitEM a ∧ lenB 1048576 b.length ∧ fitEM b) := Spec.of_pre' spEqEdS_inj (a, b)
theorem spEqEdS_alts  : (spEqEdS).alts = none := rfl
theorem spEqEdS_res  (a : List Ed) (b : List Ed) : (spEqEdS).res [.d (.one (.row 13 (encE a))), .d (.one (.row 13 (encE b)))] = [.d (.one (.bool (decide (a = b))))] := Spec.of_res spEqEdS_inj (a, b)
theorem spEqEdS_out  (a : List Ed) (b : List Ed) : (spEqEdS).out [.d (.one (.row 13 (encE a))), .d (.one (.row 13 (encE b)))] = [.gone, .gone] := Spec.of_out spEqEdS_inj (a, b)
theorem eqEdS_sound : Sound Go.Proofs.Tryd.prog 9 spEqEdS := by
  refine sound_fam (GOK.cons call_eqEdit eqEd_sound GOK.nil) Go.Proofs.Tryd.func9 (c := Go.Proofs.Tryd.f9.body.getD .skip) rfl (n := 27) rfl chk_eqEditS rs_eqEditS (fun _ => by simp) ?_ ?_
  · exact spEqEdS_inj
  · rintro ⟨a, b⟩ h1
    obtain h1 := h1
    simp only [lenB] at h1
    have fa := fitEM_mem h1.2.1
    have fb := fitEM_mem h1.2.2.2
    by_cases hl : a.length = b.length
    · have b1 : ((a.length : Int) = (b.length : Int)) = True := by simp [hl]
      simp only [x_eqEditS, rg, go_sem, seval, b1, not_true_eq_false]
      refine pw_loop (ι := Nat) (fun i => a.length - i) (fun i => i ≤ a.length ∧ a.take i = b.take i)
        (fun i => ⟨[(0, .q (.c (.row 13 (encE a)))), (1, .q (.c (.row 13 (encE b)))), (5, .q (.c (.int .i64 i)))], [], []⟩) 0 ⟨Nat.zero_le _, rfl⟩ (Le.refl _) ?_
      rintro i ⟨hi, heq⟩
      rcases Nat.lt_or_ge i a.length with hlt | hge
      · obtain ⟨s, hs, _, hmem⟩ := drop_at hlt
        obtain ⟨s', hs', _, hmem'⟩ := drop_at (l := b) (i := i) (by omega)
        have a1 := encE_at hs
        have a1' := encE_at hs'
        have a2 : ((i : Int) < (a.length : Int)) = True := by simp; omega
        have a3 : ((i : Int) < (b.length : Int)) = True := by simp; omega
        have a6 := Ed.enc_len s
        have a6' := Ed.enc_len s'
        have a7 := fa s hmem
        have a7' := fb s' hmem'
        by_cases hc : s = s'
        · have c1 : (s = s') = True := by simp [hc]
          simp only [go_sem, seval, rg, a1, a1', a2, a3, c1, not_true_eq_false, a6, a6', spEqEd_md, spEqEd_pre, spEqEd_alts, spEqEd_res, spEqEd_out]
          repeat' (first | with_reducible assumption | with_reducible refine And.intro ?_ ?_ | intro _)
          all_goals first | omega | skip
          exact ⟨i + 1, ⟨by omega, take_at hs (hc ▸ hs') heq⟩, by omega, Le.refl _⟩
        · have c1 : (s = s') = False := by simp [hc]
          simp only [go_sem, seval, rg, a1, a1', a2, a3, c1, not_false_eq_true, a6, a6', spEqEd_md, spEqEd_pre, spEqEd_alts, spEqEd_res, spEqEd_out]
          repeat' (first | with_reducible assumption | with_reducible refine And.intro ?_ ?_ | intro _)
          all_goals first | omega | skip
          rename_i h; exact ne_at hs hs' hc h
      · have a2 : ((i : Int) < (a.length : Int)) = False := by simp; omega
        have hie : i = a.length := by omega
        subst hie
        simp only [go_sem, seval, a2]
        exact take_all hl heq
    · have b1 : ((a.length : Int) = (b.length : Int)) = False := by simp; omega
      simp only [x_eqEditS, rg, go_sem, seval, b1, not_false_eq_true]
      exact fun e => hl (by rw [e])
end Go.Proofs.Pw
/- FnExactEditText: the law, run. -/
set_option linter.unusedSimpArgs false
set_option maxRecDepth 20000
namespace Go.Proofs.Pw
set_option linter.unusedSectionVars false
variable [Globs]
def x_law : X := (.seq (.reg [⟨some 2, none, .mv (.k (.c (.bool false)))⟩] none [0]) (.seq (.reg [⟨some 3, none, .mv (.k (.c (.int .i64 1048576)))⟩] none [0, 3]) (.seq (.reg [⟨some 7, none, .mv (.t 0)⟩, ⟨some 8, none, .mv (.t 3)⟩, ⟨some 9, none, .call 5 [(.t 7), (.t 8)]⟩, ⟨some 3, none, .mv (.t 9)⟩] none [0, 3]) (.seq (.seq (.reg [⟨some 10, none, .mv (.t 3)⟩, ⟨some 11, none, .bin false .lss (.t 10) (.k (.c (.int .i64 0)))⟩] none [0, 11]) (.cond (.t 11) (.seq (.reg [⟨some 2, none, .mv (.k (.c (.bool true)))⟩] none [2]) .ret) .skip)) (.seq (.reg [⟨some 12, none, .mv (.t 0)⟩, ⟨some 13, none, .call 7 [(.t 12)]⟩, ⟨some 14, none, .call 6 [(.t 13)]⟩, ⟨some 4, none, .mv (.t 14)⟩] none [0, 4]) (.seq (.reg [⟨some 15, none, .mv (.t 0)⟩, ⟨some 16, none, .call 7 [(.t 15)]⟩, ⟨some 5, none, .mv (.t 16)⟩] none [0, 4, 5]) (.seq (.reg [⟨some 17, none, .mv (.t 5)⟩, ⟨some 18, none, .call 8 [(.t 17)]⟩, ⟨some 6, none, .mv (.t 18)⟩] none [0, 4, 5, 6]) (.seq (.seq (.reg [⟨some 19, none, .mv (.t 6)⟩, ⟨some 20, none, .mv (.t 4)⟩, ⟨some 21, none, .bin false .neq (.t 19) (.t 20)⟩] none [0, 5, 21]) (.cond (.t 21) (.seq (.reg [⟨some 2, none, .mv (.k (.c (.bool false)))⟩] none [2]) .ret) .skip)) (.seq (.seq (.reg [⟨some 22, none, .mv (.t 5)⟩, ⟨some 23, none, .mv (.t 0)⟩, ⟨some 24, none, .call 7 [(.t 23)]⟩, ⟨some 25, none, .call 9 [(.t 22), (.t 24)]⟩, ⟨some 26, none, .not (.t 25)⟩] none [26]) (.cond (.t 26) (.seq (.reg [⟨some 2, none, .mv (.k (.c (.bool false)))⟩] none [2]) .ret) .skip)) (.seq (.reg [⟨some 2, none, .mv (.k (.c (.bool true)))⟩] none [2]) .ret))))))))))
theorem chk_law : chkX Go.Proofs.Tryd.prog 27 (Go.Proofs.Tryd.f3.body.getD .skip) x_law = true := by kernel_rfl
theorem rs_law : okRs Go.Proofs.Tryd.prog Go.Proofs.Tryd.f3.results.toList [.tmp 2] = true := by kernel_rfl
noncomputable def spLawET  : Spec := Spec.of (ι := (List Ed)) [false] (fun i => [.d (.one (.row 13 (encE i)))]) (fun i => lenB 140737488355328 i.length ∧ fitE i) (fun _ => [.d (.one (.bool true))]) (fun _ => [.gone])
theorem spLawET_inj : ∀ i j : (List Ed), (fun (i : (List Ed)) => ([.d (.one (.row 13 (encE i)))] : List AV)) i = (fun (i : (List Ed)) => ([.d (.one (.row 13 (encE i)))] : List AV)) j → i = j := by
  intro g g' h
  simpa [strs_eq, T.enc_eq, encL_eq, F.enc_eq, encF_eq, Tk.enc_eq, encTk_eq, Gn.enc_eq, ints_eq, encE_eq] using h
theorem spLawET_pre  (g : List Ed) : (spLawET).pre [.d (.one (.row 13 (encE g)))] = (lenB 140737488355328 g.length ∧ fitE g) := Spec.of_pre' spLawET_inj g
theorem spLawET_res  (g : List Ed) : (spLawET).res [.d (.one (.row 13 (encE g)))] = [.d (.one (.bool true))] := Spec.of_res spLawET_inj g
set_option maxHeartbeats 2000000 in
theorem lawET_sound (hK : tabK) : Sound Go.Proofs.Tryd.prog 3 spLawET := by
  refine sound_fam (GOK.cons (l := [(7, spToEdS), (6, spEditText), (8, spEditText), (9, spEqEdS)]) call_szEditS szEdS_sound (GOK.cons call_toEditS toEdS_sound (GOK.cons call_EditText editText_sound (GOK.cons call_EditTextI (editTextI_sound hK) (GOK.cons call_eqEditS eqEdS_sound GOK.nil))))) Go.Proofs.Tryd.func3 (c := Go.Proofs.Tryd.f3.body.getD .skip) rfl (n := 27) rfl chk_law rs_law (fun _ => by simp) ?_ ?_
  · exact spLawET_inj
  · rintro g ⟨h1, h2⟩
    by_cases c : szEdS g 1048576 < 0
    · have c' : (szEdS g 1048576 < 0) = True := eq_true c
      simp only [x_law, go_sem, seval, Prod.fst, rg, c', spSzEdS_md, spSzEdS_pre, spSzEdS_alts, spSzEdS_res, spSzEdS_out]
      repeat' (first | with_reducible assumption | with_reducible refine And.intro ?_ ?_ | intro _)
      all_goals first | omega | with_reducible assumption | skip
    · have c' : (szEdS g 1048576 < 0) = False := eq_false c
      obtain ⟨f1, f2⟩ := szEdS_fit h2 (by omega)
      simp only [x_law, go_sem, seval, Prod.fst, rg, c', spSzEdS_md, spSzEdS_pre, spSzEdS_alts, spSzEdS_res, spSzEdS_out, spToEdS_md, spToEdS_pre, spToEdS_alts, spToEdS_res, spToEdS_out, spEditText_md, spEditText_pre, spEditText_alts, spEditText_res, spEditText_out, spEqEdS_md, spEqEdS_pre, spEqEdS_alts, spEqEdS_res, spEqEdS_out]
      repeat' (first | with_reducible assumption | with_reducible refine And.intro ?_ ?_ | intro _)
      all_goals first | omega | with_reducible assumption | skip
end Go.Proofs.Pw
/- From what a law's arguments are told to be, to what is shown of its run. -/
namespace Go.Proofs.Pw
open Go.RowKit
set_option linter.unusedSectionVars false
/-- All blocks that are there. -/
def Old (w : World) (g : Nat) : Prop := g < w.heap.size
theorem cell_lt {w : World} {a : Addr} {v : Value} (h : w.cell? a = some v) : a.block < w.heap.size := by
  unfold World.cell? at h
  rcases Nat.lt_or_ge a.block w.heap.size with hlt | hge
  · exact hlt
  · rw [Array.getElem?_eq_none hge] at h; simp at h
/-- A law that holds of what it is handed, run in whatever world. -/
theorem law_calls [Globs] {P : Program} {f : FuncId} {sp : Spec} (h : Sound P f sp) {args : List AV} (hp : sp.pre args) (ha : sp.alts = none) (hr : sp.res args = [.d (.one (.bool true))]) {W : World} {vs : List Value} (hG : Gl W (Old W))
    (hA : All3 (RepA W (Old W)) args vs (args.map fun _ => fun _ => False)) : Calls P f vs.toArray W fun e w' => e = .returned (.bool true) ∧ Below W.heap.size W w' := by
  refine (h args hp W (Old W) vs _ hG (fun _ h => h) (fun g hg => absurd hg Any_false) Apart_false hA).mono ?_
  rintro e w' ⟨r, o, hro, v, S', rfs, fps', rfl, g1, _, _, _, _, _, g8⟩
  obtain ⟨rfl, rfl⟩ := (Spec.may_none ha).1 hro
  rw [hr] at g1
  refine ⟨?_, ⟨g8.os, g8.tape, g8.output, g8.size, fun k hk => g8.block k hk Any_false⟩⟩
  cases rfs with
  | nil => exact absurd rfl g1.1
  | cons fp r => cases r with
    | nil =>
      obtain ⟨g1, _⟩ := g1
      cases g1; rfl
    | cons _ _ => exact absurd rfl g1.1
end Go.Proofs.Pw
/- Arguments with depth: what they read as, and that they read so still. -/
namespace Go.Proofs.Pw
open Go.RowKit Go.ChangeShapes Go.WideShapes
set_option linter.unusedSectionVars false
section
variable {H : Type} {enc : TypeId × Value → H} {P : Program} {W W' : World} {spare : Nat → Bool} {held : Bool}
theorem trodAll_below (hl : laidOutB P = true) (hb : Below W.heap.size W W') : ∀ {ts : List TypeId} {vs : List Value} {ds : List (DataW H)} {p : List MemPlace}, DataW.TrodAll enc P W 0 (fun _ => true) true ts vs ds p →
    (ts.all fun t => P.readableRec t && decide (t < P.types.size)) = true → (∀ x ∈ p, x.block < W.heap.size) → DataW.TrodAll enc P W' 0 (fun b => decide (b < W.heap.size)) true ts vs ds p := by
  intro ts
  induction ts with
  | nil =>
    intro vs ds p h _ _
    cases vs <;> cases ds <;> first | exact h | exact h.elim
  | cons t ts ih =>
    intro vs ds p h hr hp
    obtain ⟨v, vs', d, ds', p1, q, rfl, rfl, rfl, h1, h2⟩ := trodAll_cons h
    simp only [List.all_cons, Bool.and_eq_true, decide_eq_true_eq] at hr
    exact ⟨p1, q, Below.trod hl hr.1.1 hr.1.2 h1 hb (fun x hx => hp x (by simp [hx])), ih h2 hr.2 (fun x hx => hp x (by simp [hx])), rfl⟩
theorem trodVars_below (hl : laidOutB P = true) (hb : Below W.heap.size W W') : ∀ {ns : List String} {gs : List (DataW H)} {p : List MemPlace}, DataW.TrodVars enc P W (fun _ => true) ns gs p →
    (ns.all fun n => match P.globalNamed n with | some g => (match P.globals[g]? with | some x => P.readableRec x.type && decide (x.type < P.types.size) | none => false) | none => false) = true → (∀ x ∈ p, x.block < W.heap.size) →
    DataW.TrodVars enc P W' (fun b => decide (b < W.heap.size)) ns gs p := by
  intro ns
  induction ns with
  | nil =>
    intro gs p h _ _
    cases gs <;> first | exact h | exact h.elim
  | cons n ns ih =>
    intro gs p h hr hp
    cases gs with
    | nil => exact h.elim
    | cons d gs =>
      obtain ⟨g, t, cs, fuel, p1, q, hg, ht, hv, hd, h2, rfl⟩ := h
      simp only [List.all_cons, Bool.and_eq_true, hg] at hr
      obtain ⟨hr2, hr3⟩ := hr
      have hr1 : g < W.heap.size := by
        unfold World.var? at hv
        simp only [hg, Option.bind_some] at hv
        split at hv
        · rename_i h1; exact (Array.getElem?_eq_some_iff.1 h1).1
        · cases hv
      simp only [Option.map_eq_some_iff] at ht
      obtain ⟨x, hx, rfl⟩ := ht
      simp only [hx, Bool.and_eq_true, decide_eq_true_eq] at hr2
      have hk : DataW.Trod enc P W 0 (fun _ => true) true x.type (.agg cs) d p1 := ⟨fuel, hd⟩
      obtain ⟨fuel', hd'⟩ := Below.trod hl hr2.1 hr2.2 hk hb (fun y hy => hp y (by simp [hy]))
      exact ⟨g, x.type, cs, fuel', p1, q, hg, by rw [hx]; rfl, var?_below hb hg hr1 hv, hd', ih h2 hr3 (fun y hy => hp y (by simp [hy])), rfl⟩
/-- What is left behind a law that gives true, and has turned nothing that was there. -/
theorem law_post {f : Func} {s : ChangeSpec} {args : Array Value} {ds gs : List (DataW H)} {before : List MemPlace} {rt : TypeId} (hl : laidOutB P = true)
    (hW : DataW.Whole enc P f.params.toList s.vars false W args.toList ds gs before) (hrt : f.resultTypes.toList = [rt]) (hrb : P.underlying rt = some .bool) (hsz : f.resultTypes.size = 1)
    (hfn : s.fn H (ds ++ gs) = { results := [.lit (.bool true)], args := ds, vars := gs })
    (hp : (f.params.toList.all fun t => P.readableRec t && decide (t < P.types.size)) = true)
    (hv : (s.vars.all fun n => match P.globalNamed n with | some g => (match P.globals[g]? with | some x => P.readableRec x.type && decide (x.type < P.types.size) | none => false) | none => false) = true)
    (hb : Below W.heap.size W W') : s.post enc P f false true false false W args (.bool true) W' := by
  have hlt := hW.lt
  have hW' := hW
  obtain ⟨p, q, hA, hV, rfl, hfz, hnd⟩ := hW
  refine ⟨ds, gs, _, [], p, q, hW', ?_, ?_, ?_, hb.frame _, fun h => by cases h⟩
  · rw [hfn, hrt, hsz]
    exact trodAll_mk1 (shut_bool hrb _)
  · rw [hfn]; exact trodAll_below hl hb hA hp (fun x hx => hlt x (by simp [hx]))
  · rw [hfn]; exact trodVars_below hl hb hV hv (fun x hx => hlt x (by simp [hx]))
end
end Go.Proofs.Pw
/- What a reading says of the cells: trees. -/
namespace Go.Proofs.Pw
open Go.RowKit Go.ChangeShapes Go.WideShapes
set_option linter.unusedSectionVars false
def RCells (W : World) (cs : List Value) (l : List C) : Prop := cs.length = l.length ∧ ∀ (i : Nat) c, l[i]? = some c → ∃ u, cs[i]? = some u ∧ Rep W (Old W) c u
theorem RCells.append {W : World} {cs cs' : List Value} {l l' : List C} (h : RCells W cs l) (k : RCells W cs' l') : RCells W (cs ++ cs') (l ++ l') := by
  refine ⟨by simp [h.1, k.1], fun i c hi => ?_⟩
  by_cases hlt : i < l.length
  · rw [List.getElem?_append_left hlt] at hi
    obtain ⟨u, h1, h2⟩ := h.2 i c hi
    exact ⟨u, by rw [List.getElem?_append_left (by rw [h.1]; exact hlt)]; exact h1, h2⟩
  · rw [List.getElem?_append_right (by omega)] at hi
    obtain ⟨u, h1, h2⟩ := k.2 _ c hi
    exact ⟨u, by rw [List.getElem?_append_right (by rw [h.1]; omega), h.1]; exact h1, h2⟩
theorem rcells_one {W : World} {c : C} {v : Value} (h : Rep W (Old W) c v) : RCells W [v] [c] := by
  refine ⟨rfl, fun i c' hi => ?_⟩
  cases i with
  | zero => simp at hi; subst hi; exact ⟨v, rfl, h⟩
  | succ i => simp at hi
theorem list_choose {α : Type} {Q : Nat → α → Prop} : ∀ (n : Nat), (∀ i, i < n → ∃ a, Q i a) → ∃ l : List α, l.length = n ∧ ∀ i a, l[i]? = some a → Q i a := by
  intro n
  induction n with
  | zero => intro _; exact ⟨[], rfl, by simp⟩
  | succ n ih =>
    intro h
    obtain ⟨l, h1, h2⟩ := ih (fun i hi => h i (by omega))
    obtain ⟨a, ha⟩ := h n (by omega)
    refine ⟨l ++ [a], by simp [h1], fun i b hi => ?_⟩
    by_cases hlt : i < n
    · rw [List.getElem?_append_left (by omega)] at hi; exact h2 i b hi
    · rw [List.getElem?_append_right (by omega)] at hi
      have : i - l.length = 0 := by
        have := (List.getElem?_eq_some_iff.1 hi).1
        simp at this; omega
      rw [this] at hi; simp at hi; subst hi
      rw [show i = n by omega]; exact ha
section
variable {H : Type} {enc : TypeId × Value → H} {P : Program} {W : World} {spare : Nat → Bool} {held : Bool} {fuel : Nat} {t : TypeId} {cs : List Value} {x : DataW H × List MemPlace}
def WB (P : Program) (t : TypeId) (d : DataW H) : Prop := ∀ n ∈ d.weights P t, n ≤ reachBytes
theorem mem_weightsAll {e : TypeId} {d : DataW H} : ∀ {l : List (DataW H)}, d ∈ l → ∀ n ∈ d.weights P e, n ∈ DataW.weightsAll P e l := by
  intro l
  induction l with
  | nil => intro h; cases h
  | cons y l ih =>
    intro h n hn
    simp only [DataW.weightsAll, List.mem_append]
    rcases List.mem_cons.1 h with rfl | h
    · exact .inl hn
    · exact .inr (ih h n hn)
theorem read_int {k : IntKind} (ht : P.underlying t = some (.int k)) (h : DataW.trod enc P W 0 spare held fuel t cs = some x) : ∃ n, RCells W cs [.int k n] ∧ (Lit.int k n).wf = true := by
  obtain ⟨n, rfl, _, hw⟩ := DataW.trod_int ht h
  exact ⟨n, rcells_one (.int k n), hw⟩
theorem read_bool (ht : P.underlying t = some .bool) (h : DataW.trod enc P W 0 spare held fuel t cs = some x) : ∃ b, RCells W cs [.bool b] := by
  obtain ⟨b, rfl, _⟩ := DataW.trod_bool ht h
  exact ⟨b, rcells_one (.bool b)⟩
theorem read_str (ht : P.underlying t = some .string) (h : DataW.trod enc P W 0 spare held fuel t cs = some x) (hw : WB P t x.1) : ∃ s, RCells W cs [.str s] ∧ s.size ≤ reachBytes := by
  obtain ⟨s, rfl, rfl, _⟩ := DataW.trod_string ht h
  refine ⟨s, rcells_one (.str s), ?_⟩
  have := hw s.data.toList.length (by simp [DataW.weights])
  simpa using this
theorem read_slice {e : TypeId} {α : Type} (en : α → List C) (Good : α → Prop) {sz : Nat} (ht : P.underlying t = some (.slice e)) (hsz : P.cellsOf e = sz) (h0 : 0 < sz) (hby : 0 < P.bytesOf e)
    (helem : ∀ n cs' (y : DataW H × List MemPlace), n < fuel → DataW.trod enc P W 0 spare held n e cs' = some y → WB P e y.1 → ∃ a, RCells W cs' (en a) ∧ Good a)
    (h : DataW.trod enc P W 0 spare held fuel t cs = some x) (hw : WB P t x.1) : ∃ l : List α, RCells W cs [.row sz (l.map en)] ∧ l.length ≤ reachBytes ∧ ∀ a ∈ l, Good a := by
  subst hsz
  rcases DataW.trod_slice ht h with ⟨rfl, rfl⟩ | ⟨a, len, cap, elems, rest, n, rfl, rfl, rfl, hb, hl, hm, hlen, hel, hsp, hns⟩
  · exact ⟨[], rcells_one (.nil ..), by simp, by simp⟩
  · have hlen2 : len ≤ reachBytes := by
      have := hw ((elems.length + rest.length) * P.bytesOf e) (by simp [DataW.weights, ht])
      have h2 := Nat.le_mul_of_pos_right (elems.length + rest.length) hby
      omega
    have each : ∀ i, i < len → ∃ α' : α, ∃ cs', W.cells? 0 (a.add (i * P.cellsOf e)) (P.cellsOf e) = some cs' ∧ RCells W cs' (en α') ∧ Good α' := fun i hi => by
      have h1 := hel i hi
      rw [List.getElem?_eq_getElem (by omega), Option.bind_eq_some_iff] at h1
      obtain ⟨cs', h2, h3⟩ := h1
      obtain ⟨α', h4, h5⟩ := helem n cs' _ (Nat.lt_succ_self n) h3 (fun m hm => hw m (by
        simp only [DataW.weights, ht, List.mem_cons, List.mem_append]
        exact .inr (.inl (mem_weightsAll (List.mem_map.2 ⟨_, List.getElem_mem (by omega), rfl⟩) m hm))))
      exact ⟨α', cs', h2, h4, h5⟩
    obtain ⟨l, hl1, hl2⟩ := list_choose len each
    refine ⟨l, rcells_one ?_, by omega, fun b hb => ?_⟩
    · rcases Nat.eq_zero_or_pos len with h0' | h0'
      · subst h0'
        have : l = [] := List.eq_nil_of_length_eq_zero hl1
        subst this; exact .nil ..
      · have key : ∀ (i j : Nat) e' c, (l.map en)[i]? = some e' → e'[j]? = some c → W.cell? (a.add (i * P.cellsOf e + j)) = some ((W.cell? (a.add (i * P.cellsOf e + j))).getD undef) ∧ Rep W (Old W) c ((W.cell? (a.add (i * P.cellsOf e + j))).getD undef) := fun i j e' c he hj => by
          simp only [List.getElem?_map, Option.map_eq_some_iff] at he
          obtain ⟨b, hb, rfl⟩ := he
          obtain ⟨cs', h1, h2, _⟩ := hl2 i b hb
          obtain ⟨u, h3, h4⟩ := h2.2 j c hj
          obtain ⟨_, h5, h6⟩ := World.cells?_some h1
          have hj' : j < P.cellsOf e := by rw [← h5]; exact (List.getElem?_eq_some_iff.1 h3).1
          have h7 := h6 j hj'
          rw [add_add] at h7
          rw [h3] at h7
          rw [h7]; exact ⟨rfl, h4⟩
        have := Rep.row (w := W) (S := Old W) (P.cellsOf e) (l.map en) a cap (fun k => (W.cell? (a.add k)).getD undef) (by simp; omega) (by
          obtain ⟨b, hb⟩ : ∃ b, l[0]? = some b := ⟨l[0], by simp⟩
          obtain ⟨cs', h1, h2, _⟩ := hl2 0 b hb
          obtain ⟨_, h5, h6⟩ := World.cells?_some h1
          have h7 := h6 0 h0
          rw [List.getElem?_eq_getElem (by omega)] at h7
          have := cell_lt h7
          rwa [add_block, add_block] at this) (fun i e' he => by
          simp only [List.getElem?_map, Option.map_eq_some_iff] at he
          obtain ⟨b, hb, rfl⟩ := he
          obtain ⟨cs', h1, h2, _⟩ := hl2 i b hb
          obtain ⟨_, h5, _⟩ := World.cells?_some h1
          rw [← h2.1, h5]) (fun i j e' c he hj => (key i j e' c he hj).1) (fun i j e' c he hj => (key i j e' c he hj).2)
        rw [List.length_map, hl1] at this
        exact this
    · obtain ⟨i, hi⟩ := List.getElem?_of_mem hb
      obtain ⟨_, _, _, h⟩ := hl2 i b hi
      exact h
end
theorem rc_step {W : World} {cs : List Value} {o n : Nat} {l l' : List C} (h : RCells W ((cs.drop o).take n) l) (k : RCells W (cs.drop (o + n)) l') : RCells W (cs.drop o) (l ++ l') := by
  have := h.append k
  rwa [show cs.drop (o + n) = (cs.drop o).drop n by rw [List.drop_drop], List.take_append_drop] at this
theorem rc_end {W : World} {cs : List Value} {o : Nat} (h : cs.length = o) : RCells W (cs.drop o) [] := by
  subst h; rw [List.drop_length]; exact ⟨rfl, by simp⟩
theorem fitL_ofV {B : Int} {l : List T} (h : ∀ t ∈ l, t.fit B) : fitL B l := by
  induction l with
  | nil => exact trivial
  | cons x l ih => exact ⟨h x (by simp), ih (fun t ht => h t (by simp [ht]))⟩
theorem wf_i64 {n : Int} (h : (Lit.int .i64 n).wf = true) : i64 n := by
  simp only [Lit.wf, Bool.and_eq_true, decide_eq_true_eq] at h
  simp only [IntKind.min, IntKind.max, IntKind.signed, IntKind.bits] at h
  unfold i64; simp at h; omega
section
variable {H : Type} {enc : TypeId × Value → H} {P : Program} {W : World} {spare : Nat → Bool} {held : Bool}
theorem read_fields {fuel : Nat} {t : TypeId} {cs : List Value} {x : DataW H × List MemPlace} {fs : Array Field} {l : List (TypeId × Nat)} (ht : P.underlying t = some (.struct fs)) (hfs : fs.toList.map (fun f => (f.type, f.offset)) = l)
    (h : DataW.trod enc P W 0 spare held fuel t cs = some x) (hw : WB P t x.1) : cs.length = P.cellsOf t ∧ ∃ n, n < fuel ∧ ∀ (i : Nat) ty off, l[i]? = some (ty, off) →
      ∃ y, DataW.trod enc P W 0 spare held n ty ((cs.drop off).take (P.cellsOf ty)) = some y ∧ WB P ty y.1 := by
  obtain ⟨xs, n, rfl, rfl, h1, h2, h3⟩ := DataW.trod_struct ht h
  refine ⟨h1, n, Nat.lt_succ_self n, fun i ty off hi => ?_⟩
  rw [← hfs] at hi
  simp only [List.getElem?_map, Option.map_eq_some_iff] at hi
  obtain ⟨f, hf, he⟩ := hi
  cases he
  have hf' : fs[i]? = some f := by simpa using hf
  have h4 := h3 i f hf'
  have hlt : i < xs.length := by rw [h2]; exact (Array.getElem?_eq_some_iff.1 hf').1
  rw [List.getElem?_eq_getElem hlt] at h4
  refine ⟨_, h4, fun m hm => hw m ?_⟩
  simp only [DataW.weights, ht]
  exact DataW.weights_mem_each (j := i) (t := f.type) (d := (xs[i]).1) (by simp [hf]) (by simp [hlt]) m hm
/-- The types of trees. -/
structure TyT (P : Program) (tI tS tK tV tL : TypeId) : Prop where
  i : P.underlying tI = some (.int .i64)
  s : P.underlying tS = some .string
  k : P.underlying tK = some (.slice tS)
  v : ∃ fs, P.underlying tV = some (.struct fs) ∧ fs.toList.map (fun f => (f.type, f.offset)) = [(tI, 0), (tI, 1), (tS, 2), (tK, 3), (tL, 4)]
  l : P.underlying tL = some (.slice tV)
  c : P.cellsOf tI = 1 ∧ P.cellsOf tS = 1 ∧ P.cellsOf tK = 1 ∧ P.cellsOf tV = 5 ∧ P.cellsOf tL = 1
  b : 0 < P.bytesOf tS ∧ 0 < P.bytesOf tV
variable {tI tS tK tV tL : TypeId}
theorem reach_le {n : Nat} (h : n ≤ reachBytes) : lenB 140737488355328 n := by unfold lenB; have := reachBytes_lt; omega
theorem read_T (T0 : TyT P tI tS tK tV tL) : ∀ (fuel : Nat) (cs : List Value) (x : DataW H × List MemPlace), DataW.trod enc P W 0 spare held fuel tV cs = some x → WB P tV x.1 →
    ∃ t : T, RCells W cs t.enc ∧ t.fit 140737488355328 := by
  intro fuel
  induction fuel using Nat.strongRecOn with
  | ind fuel ih =>
    intro cs x h hw
    obtain ⟨fs, hv, hfs⟩ := T0.v
    obtain ⟨c1, c2, c3, c4, c5⟩ := T0.c
    obtain ⟨hlen, n, hn, hf⟩ := read_fields hv hfs h hw
    obtain ⟨y0, k0, w0⟩ := hf 0 tI 0 rfl
    obtain ⟨y1, k1, w1⟩ := hf 1 tI 1 rfl
    obtain ⟨y2, k2, w2⟩ := hf 2 tS 2 rfl
    obtain ⟨y3, k3, w3⟩ := hf 3 tK 3 rfl
    obtain ⟨y4, k4, w4⟩ := hf 4 tL 4 rfl
    rw [c1] at k0 k1; rw [c2] at k2; rw [c3] at k3; rw [c5] at k4
    obtain ⟨kk, r0, f0⟩ := read_int T0.i k0
    obtain ⟨nn, r1, f1⟩ := read_int T0.i k1
    obtain ⟨s, r2, f2⟩ := read_str T0.s k2 w2
    obtain ⟨ks, r3, f3, f3'⟩ := read_slice (fun s : ByteArray => [C.str s]) (fun s => s.size ≤ reachBytes) T0.k c2 (by omega) T0.b.1 (fun n cs' y _ h hw => read_str T0.s h hw) k3 w3
    obtain ⟨l, r4, f4, f4'⟩ := read_slice T.enc (fun t => t.fit 140737488355328) T0.l c4 (by omega) T0.b.2 (fun m cs' y hm h hw => ih m (by omega) cs' y h hw) k4 w4
    refine ⟨.mk kk nn s ks l, ?_, ?_⟩
    · have e : RCells W (cs.drop 0) (T.mk kk nn s ks l).enc := by
        have h5 := rc_step r4 (rc_end (o := 4 + 1) (by rw [hlen, c4]))
        have h4 := rc_step r3 h5
        have h3 := rc_step r2 h4
        have h2 := rc_step r1 h3
        have h1 := rc_step r0 h2
        simpa [T.enc, strs, encL_map] using h1
      simpa using e
    · exact ⟨wf_i64 f0, wf_i64 f1, reach_le f2, ⟨reach_le f3, fun s hs => reach_le (f3' s hs)⟩, reach_le f4, fitL_ofV f4'⟩
end
end Go.Proofs.Pw
/- What a reading says of the cells: ways. -/
namespace Go.Proofs.Pw
open Go.RowKit Go.ChangeShapes Go.WideShapes
set_option linter.unusedSectionVars false
section
variable {H : Type} {enc : TypeId × Value → H} {P : Program} {W : World} {spare : Nat → Bool} {held : Bool} {tB tS tI tW tP : TypeId}
theorem read_Stp (hB : P.underlying tB = some .bool) (hS : P.underlying tS = some .string) (hI : P.underlying tI = some (.int .i64)) (hW : ∃ fs, P.underlying tW = some (.struct fs) ∧ fs.toList.map (fun f => (f.type, f.offset)) = [(tB, 0), (tS, 1), (tI, 2)])
    (hc : P.cellsOf tB = 1 ∧ P.cellsOf tS = 1 ∧ P.cellsOf tI = 1 ∧ P.cellsOf tW = 3) {fuel : Nat} {cs : List Value} {x : DataW H × List MemPlace} (h : DataW.trod enc P W 0 spare held fuel tW cs = some x) (hw : WB P tW x.1) :
    ∃ s : Stp, RCells W cs s.enc ∧ stpFit s := by
  obtain ⟨fs, hv, hfs⟩ := hW
  obtain ⟨c1, c2, c3, c4⟩ := hc
  obtain ⟨hlen, n, hn, hf⟩ := read_fields hv hfs h hw
  obtain ⟨y0, k0, w0⟩ := hf 0 tB 0 rfl
  obtain ⟨y1, k1, w1⟩ := hf 1 tS 1 rfl
  obtain ⟨y2, k2, w2⟩ := hf 2 tI 2 rfl
  rw [c1] at k0; rw [c2] at k1; rw [c3] at k2
  obtain ⟨b, r0⟩ := read_bool hB k0
  obtain ⟨s, r1, f1⟩ := read_str hS k1 w1
  obtain ⟨a, r2, f2⟩ := read_int hI k2
  refine ⟨⟨b, s, a⟩, ?_, ?_⟩
  · have e : RCells W (cs.drop 0) (Stp.enc ⟨b, s, a⟩) := by
      have h3 := rc_step r2 (rc_end (o := 2 + 1) (by rw [hlen, c4]))
      have h2 := rc_step r1 h3
      have h1 := rc_step r0 h2
      simpa [Stp.enc] using h1
    simpa using e
  · exact ⟨reach_le f1, (wf_i64 f2).1, (wf_i64 f2).2⟩
end
end Go.Proofs.Pw
/- What a reading says of the cells: edits. -/
namespace Go.Proofs.Pw
open Go.RowKit Go.ChangeShapes Go.WideShapes
set_option linter.unusedSectionVars false
/-- The types of edits. -/
structure TyE (P : Program) (tI tS tK tV tL tB tW tP tE tQ : TypeId) : Prop where
  t : TyT P tI tS tK tV tL
  b : P.underlying tB = some .bool
  w : ∃ fs, P.underlying tW = some (.struct fs) ∧ fs.toList.map (fun f => (f.type, f.offset)) = [(tB, 0), (tS, 1), (tI, 2)]
  p : P.underlying tP = some (.slice tW)
  e : ∃ fs, P.underlying tE = some (.struct fs) ∧ fs.toList.map (fun f => (f.type, f.offset)) = [(tP, 0), (tV, 1), (tB, 6), (tV, 7), (tB, 12)]
  q : P.underlying tQ = some (.slice tE)
  c : P.cellsOf tB = 1 ∧ P.cellsOf tW = 3 ∧ P.cellsOf tP = 1 ∧ P.cellsOf tE = 13
  y : 0 < P.bytesOf tW ∧ 0 < P.bytesOf tE
section
variable {H : Type} {enc : TypeId × Value → H} {P : Program} {W : World} {spare : Nat → Bool} {held : Bool} {tI tS tK tV tL tB tW tP tE tQ : TypeId}
theorem read_Ed (T0 : TyE P tI tS tK tV tL tB tW tP tE tQ) {fuel : Nat} {cs : List Value} {x : DataW H × List MemPlace} (h : DataW.trod enc P W 0 spare held fuel tE cs = some x) (hw : WB P tE x.1) :
    ∃ e : Ed, RCells W cs e.enc ∧ e.fitI := by
  obtain ⟨fs, hv, hfs⟩ := T0.e
  obtain ⟨c1, c2, c3, c4, c5⟩ := T0.t.c
  obtain ⟨d1, d2, d3, d4⟩ := T0.c
  obtain ⟨hlen, n, hn, hf⟩ := read_fields hv hfs h hw
  obtain ⟨y0, k0, w0⟩ := hf 0 tP 0 rfl
  obtain ⟨y1, k1, w1⟩ := hf 1 tV 1 rfl
  obtain ⟨y2, k2, w2⟩ := hf 2 tB 6 rfl
  obtain ⟨y3, k3, w3⟩ := hf 3 tV 7 rfl
  obtain ⟨y4, k4, w4⟩ := hf 4 tB 12 rfl
  rw [d3] at k0; rw [c4] at k1 k3; rw [d1] at k2 k4
  obtain ⟨p, r0, f0, f0'⟩ := read_slice Stp.enc stpFit T0.p d2 (by omega) T0.y.1 (fun n cs' y _ h hw => read_Stp T0.b T0.t.s T0.t.i T0.w ⟨d1, c2, c1, d2⟩ h hw) k0 w0
  obtain ⟨a, r1, f1⟩ := read_T T0.t n _ _ k1 w1
  obtain ⟨hd, r2⟩ := read_bool T0.b k2
  obtain ⟨b, r3, f3⟩ := read_T T0.t n _ _ k3 w3
  obtain ⟨hs, r4⟩ := read_bool T0.b k4
  refine ⟨⟨p, a, hd, b, hs⟩, ?_, ⟨reach_le f0, f0'⟩, f1, f3⟩
  have e : RCells W (cs.drop 0) (Ed.enc ⟨p, a, hd, b, hs⟩) := by
    have h5 := rc_step r4 (rc_end (o := 12 + 1) (by rw [hlen, d4]))
    have h4 := rc_step (o := 7) (n := 5) r3 h5
    have h3 := rc_step r2 h4
    have h2 := rc_step (o := 1) (n := 5) r1 h3
    have h1 := rc_step r0 h2
    simpa [Ed.enc, encS] using h1
  simpa using e
theorem read_edits (T0 : TyE P tI tS tK tV tL tB tW tP tE tQ) {fuel : Nat} {v : Value} {x : DataW H × List MemPlace} (h : DataW.trod enc P W 0 spare held fuel tQ [v] = some x) (hw : WB P tQ x.1) :
    ∃ l : List Ed, RepD W (Old W) (.one (.row 13 (encE l))) v ∧ lenB 140737488355328 l.length ∧ fitE l := by
  obtain ⟨l, r, f1, f2⟩ := read_slice Ed.enc Ed.fitI T0.q T0.c.2.2.2 (by omega) T0.y.2 (fun n cs' y _ h hw => read_Ed T0 h hw) h hw
  obtain ⟨u, hu, hr⟩ := r.2 0 _ rfl
  cases hu
  exact ⟨l, hr, reach_le f1, f2⟩
end
end Go.Proofs.Pw
/- What a law is told of a row of octets. -/
namespace Go.Proofs.Pw
def bytes (bs : List Int) : Prop := (∀ b ∈ bs, 0 ≤ b ∧ b ≤ 255) ∧ lenB 140737488355328 bs.length
end Go.Proofs.Pw
/- A row of octets handed over. -/
namespace Go.Proofs.Pw
open Go.RowKit Go.ChangeShapes Go.WideShapes
set_option linter.unusedSectionVars false
section
variable {H : Type} {enc : TypeId × Value → H} {P : Program} {W : World}
end
end Go.Proofs.Pw
/- A listed table reads as it is told. -/
namespace Go.Proofs.Pw
open Go.RowKit Go.ChangeShapes Go.WideShapes
set_option linter.unusedSectionVars false
end Go.Proofs.Pw
/- Listed arrays of numbers and lists of texts read as they are told. -/
namespace Go.Proofs.Pw
open Go.RowKit Go.ChangeShapes Go.WideShapes
set_option linter.unusedSectionVars false
theorem laid_rest {P : Program} {W : World} {x : String × DataW Unit} {r : List (String × DataW Unit)} {ps : List MemPlace} (h : DataW.LaidVars P W (x :: r) ps) : ∃ ps', DataW.LaidVars P W r ps' := by
  obtain ⟨g', t', cs, fuel, p, q, hg', ht', hv, htr, hr, _⟩ := h
  exact ⟨q, hr⟩
/-- A listed array of whole numbers. -/
theorem laid_tab {P : Program} {W : World} {nm : String} {d : DataW Unit} {ns : List Int} {r : List (String × DataW Unit)} {ps : List MemPlace} {g n : Nat} {t e : TypeId} {k : IntKind} (hg : P.globalNamed nm = some g) (ht : (P.globals[g]?).map (·.type) = some t)
    (hu : P.underlying t = some (.array n e)) (he : P.underlying e = some (.int k)) (hc : P.cellsOf e = 1) (hct : P.cellsOf t = n) (hd : d = Lib.tabData k ns) (h : DataW.LaidVars P W ((nm, d) :: r) ps) :
    Old W g ∧ ∃ ty x, W.heap[g]? = some (.cells (ns.map fun z => Value.int k z).toArray ty x) := by
  obtain ⟨g', t', cs, fuel, p, q, hg', ht', hv, htr, hr, _⟩ := h
  obtain rfl := Option.some.inj (hg.symm.trans hg')
  obtain rfl := Option.some.inj (ht.symm.trans ht')
  subst hd
  have hcs := Lib.cells_of_tab hu he hc hct htr
  have hcs' : cs = (ns.map fun z => Value.int k z).toArray := by rw [← hcs]
  unfold World.var? at hv
  rw [hg] at hv
  simp only [Option.bind_some] at hv
  split at hv
  · rename_i cs' ty x hh
    cases hv
    refine ⟨?_, ty, x, by rw [hh, hcs']⟩
    rcases Nat.lt_or_ge g W.heap.size with h | h
    · exact h
    · rw [Array.getElem?_eq_none h] at hh; cases hh
  · cases hv
end Go.Proofs.Pw
