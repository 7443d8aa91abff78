/- FnFiltMany: the law, run. -/
import Derived.Test.YtaiacpgnnfinlaaDoorPwT9
import Derived.Test.YtaiacpgnnfinlaaDoorPwT15
import Derived.Test.YtaiacpgnnfinlaaDoorPwT16
import Derived.Test.YtaiacpgnnfinlaaDoorPwT17
import Derived.ProofKit
import Derived.ChangeOld
import Derived.Below
import Derived.Carry
import Derived.SizedLaws
import Derived.ChangeArms
import Derived.ChangeVars
import Derived.WalkSmall
import Derived.ChangeSlices
import Derived.Test.YtaiacpgnnfinlaaDoorPwT10
import Derived.LaidHandle
import Derived.Lib.LaidTab
import Derived.LaidMore
set_option linter.unusedSimpArgs false
set_option linter.unusedVariables false
set_option linter.unusedSimpArgs false
set_option maxRecDepth 20000
namespace Go.Proofs.Pw
set_option linter.unusedSectionVars false
variable [Globs]
def x_DrawFiltAlike : X := (.seq (.reg [⟨some 2, none, .alloc [(.c (.int .i64 0)), (.c (.int .i64 0)), (.c (.str ⟨#[]⟩)), (.c (.int .i64 0)), (.c (.int .i64 0)), (.c (.str ⟨#[]⟩)), (.z 1), (.z 5), (.z 9)]⟩, ⟨some 3, none, .alloc [(.c (.int .i64 0)), (.c (.int .i64 0)), (.c (.str ⟨#[]⟩)), (.c (.int .i64 0)), (.c (.int .i64 0)), (.c (.str ⟨#[]⟩)), (.z 1), (.z 5), (.z 9)]⟩] none [0, 2, 3]) (.seq (.reg [⟨some 6, none, .mv (.t 0)⟩, ⟨some 7, none, .call 14 [(.t 6)]⟩, ⟨some 8, none, .callr 13 [(.t 7)]⟩, ⟨some 4, none, .alloc [(.c (.int .i64 0)), (.c (.int .i64 0)), (.c (.str ⟨#[]⟩)), (.c (.int .i64 0)), (.c (.int .i64 0)), (.c (.str ⟨#[]⟩)), (.z 1), (.z 5), (.z 9)]⟩, ⟨none, none, .st (.t 4) (.t 8) (some 9)⟩] none [0, 2, 3, 4]) (.seq (.reg [⟨some 9, none, .mv (.t 0)⟩, ⟨some 10, none, .call 14 [(.t 9)]⟩, ⟨some 11, none, .callr 13 [(.t 10)]⟩, ⟨some 5, none, .alloc [(.c (.int .i64 0)), (.c (.int .i64 0)), (.c (.str ⟨#[]⟩)), (.c (.int .i64 0)), (.c (.int .i64 0)), (.c (.str ⟨#[]⟩)), (.z 1), (.z 5), (.z 9)]⟩, ⟨none, none, .st (.t 5) (.t 11) (some 9)⟩] none [0, 2, 3, 4, 5]) (.seq (.seq (.reg [⟨some 12, none, .mv (.t 0)⟩, ⟨some 13, none, .len (.t 12) false⟩, ⟨some 14, none, .bin false .gtr (.t 13) (.k (.c (.int .i64 0)))⟩, ⟨some 15, none, .mv (.t 14)⟩, ⟨some 16, some (15, true), .mv (.t 0)⟩, ⟨some 17, some (15, true), .ia (.t 16) (.k (.c (.int .i64 0))) 1⟩, ⟨some 18, some (15, true), .load (.t 17) none⟩, ⟨some 19, some (15, true), .bin false .rem (.t 18) (.k (.c (.int .u8 2)))⟩, ⟨some 20, some (15, true), .bin false .eql (.t 19) (.k (.c (.int .u8 1)))⟩, ⟨some 21, none, .pick (.t 15) (.t 20) (.k (.c (.bool false)))⟩] none [2, 3, 4, 5, 21]) (.cond (.t 21) (.reg [⟨some 22, none, .fa (.t 5) 1⟩, ⟨some 23, none, .load (.t 22) none⟩, ⟨some 24, none, .bin false .add (.t 23) (.k (.c (.int .i64 1)))⟩, ⟨some 25, none, .fa (.t 5) 1⟩, ⟨none, none, .st (.t 25) (.t 24) none⟩] none [2, 3, 4, 5]) .skip)) (.seq (.mix [⟨some 26, none, .load (.t 4) (some 9)⟩, ⟨some 27, none, .load (.t 5) (some 9)⟩, ⟨none, none, .st (.t 2) (.t 26) (some 9)⟩] [⟨none, none, .st (.t 3) (.t 27) (some 9)⟩] [[], [], [1]] [2, 3]) .ret)))))
theorem chk_DrawFiltAlike : chkX Go.Proofs.Tryd.prog 28 (Go.Proofs.Tryd.f4.body.getD .skip) x_DrawFiltAlike = true := by kernel_rfl
theorem rs_DrawFiltAlike : okRs Go.Proofs.Tryd.prog Go.Proofs.Tryd.f4.results.toList [.cell 2 (some 9), .cell 3 (some 9)] = true := by kernel_rfl
theorem call_DrawFiltAlike : okCallee Go.Proofs.Tryd.prog 4 = true := by kernel_rfl
def x_DrawFiltMany : X := (.seq (.reg [⟨some 2, none, .alloc [(.c (.int .i64 0)), (.c (.int .i64 0)), (.c (.str ⟨#[]⟩)), (.c (.int .i64 0)), (.c (.int .i64 0)), (.c (.str ⟨#[]⟩)), (.z 1), (.z 5), (.z 9)]⟩] none [0, 2]) (.seq (.reg [⟨some 3, none, .mv (.t 0)⟩, ⟨some 4, none, .call 14 [(.t 3)]⟩, ⟨some 5, none, .callr 13 [(.t 4)]⟩, ⟨none, none, .st (.t 2) (.t 5) (some 9)⟩] none [2]) .ret))
theorem chk_DrawFiltMany : chkX Go.Proofs.Tryd.prog 6 (Go.Proofs.Tryd.f5.body.getD .skip) x_DrawFiltMany = true := by kernel_rfl
theorem rs_DrawFiltMany : okRs Go.Proofs.Tryd.prog Go.Proofs.Tryd.f5.results.toList [.cell 2 (some 9)] = true := by kernel_rfl
theorem call_DrawFiltMany : okCallee Go.Proofs.Tryd.prog 5 = true := by kernel_rfl
def x_lawFM : X := (.seq (.reg [⟨some 4, none, .mv (.k (.c (.bool false)))⟩] none [0, 1]) (.seq (.seq (.reg [⟨some 11, none, .mv (.t 0)⟩, ⟨some 12, none, .len (.t 11) false⟩, ⟨some 13, none, .bin false .gtr (.t 12) (.k (.c (.int .i64 1048576)))⟩, ⟨some 14, none, .mv (.t 13)⟩, ⟨some 15, some (14, false), .mv (.t 1)⟩, ⟨some 16, some (14, false), .len (.t 15) false⟩, ⟨some 17, some (14, false), .bin false .gtr (.t 16) (.k (.c (.int .i64 1048576)))⟩, ⟨some 18, none, .pick (.t 14) (.k (.c (.bool true))) (.t 17)⟩] none [0, 1, 18]) (.cond (.t 18) (.seq (.reg [⟨some 4, none, .mv (.k (.c (.bool true)))⟩] none [4]) .ret) .skip)) (.seq (.reg [⟨some 20, none, .mv (.t 0)⟩, ⟨some 21, none, .callr 4 [(.t 20)]⟩, ⟨some 19, none, .mv (.t 21)⟩, ⟨some 22, none, .ext (.t 19) 0⟩, ⟨some 23, none, .ext (.t 19) 1⟩, ⟨some 5, none, .alloc [(.c (.int .i64 0)), (.c (.int .i64 0)), (.c (.str ⟨#[]⟩)), (.c (.int .i64 0)), (.c (.int .i64 0)), (.c (.str ⟨#[]⟩)), (.z 1), (.z 5), (.z 9)]⟩, ⟨some 6, none, .alloc [(.c (.int .i64 0)), (.c (.int .i64 0)), (.c (.str ⟨#[]⟩)), (.c (.int .i64 0)), (.c (.int .i64 0)), (.c (.str ⟨#[]⟩)), (.z 1), (.z 5), (.z 9)]⟩, ⟨none, none, .st (.t 5) (.t 22) (some 9)⟩, ⟨none, none, .st (.t 6) (.t 23) (some 9)⟩] none [1, 5, 6]) (.seq (.reg [⟨some 24, none, .mv (.t 1)⟩, ⟨some 25, none, .callr 5 [(.t 24)]⟩, ⟨some 7, none, .alloc [(.c (.int .i64 0)), (.c (.int .i64 0)), (.c (.str ⟨#[]⟩)), (.c (.int .i64 0)), (.c (.int .i64 0)), (.c (.str ⟨#[]⟩)), (.z 1), (.z 5), (.z 9)]⟩, ⟨none, none, .st (.t 7) (.t 25) (some 9)⟩] none [5, 6, 7]) (.seq (.reg [⟨some 26, none, .load (.t 5) (some 9)⟩, ⟨some 27, none, .call 6 [(.t 26)]⟩, ⟨some 8, none, .mv (.t 27)⟩] none [5, 6, 7, 8]) (.seq (.seq (.reg [⟨some 28, none, .mv (.t 8)⟩, ⟨some 29, none, .load (.t 5) (some 9)⟩, ⟨some 30, none, .call 7 [(.t 29)]⟩, ⟨some 31, none, .bin false .neq (.t 28) (.t 30)⟩, ⟨some 32, none, .mv (.t 31)⟩, ⟨some 33, some (32, false), .mv (.t 8)⟩, ⟨some 34, some (32, false), .bin false .gtr (.t 33) (.k (.c (.int .i64 0)))⟩, ⟨some 35, some (32, false), .load (.t 5) (some 9)⟩, ⟨some 36, some (32, false), .call 8 [(.t 35)]⟩, ⟨some 37, some (32, false), .bin true .neq (.t 34) (.t 36)⟩, ⟨some 38, none, .pick (.t 32) (.k (.c (.bool true))) (.t 37)⟩, ⟨some 39, none, .mv (.t 38)⟩, ⟨some 40, some (39, false), .load (.t 5) (some 9)⟩, ⟨some 41, some (39, false), .load (.t 6) (some 9)⟩, ⟨some 42, some (39, false), .call 9 [(.t 40), (.t 41)]⟩, ⟨some 43, some (39, false), .load (.t 5) (some 9)⟩, ⟨some 44, some (39, false), .load (.t 6) (some 9)⟩, ⟨some 45, some (39, false), .call 10 [(.t 43), (.t 44)]⟩, ⟨some 46, some (39, false), .bin true .neq (.t 42) (.t 45)⟩, ⟨some 47, none, .pick (.t 39) (.k (.c (.bool true))) (.t 46)⟩, ⟨some 48, none, .mv (.t 47)⟩, ⟨some 49, some (48, false), .load (.t 5) (some 9)⟩, ⟨some 50, some (48, false), .load (.t 5) (some 9)⟩, ⟨some 51, some (48, false), .call 9 [(.t 49), (.t 50)]⟩, ⟨some 52, some (48, false), .not (.t 51)⟩, ⟨some 53, none, .pick (.t 48) (.k (.c (.bool true))) (.t 52)⟩] (some 23) [5, 6, 7, 8, 53]) (.cond (.t 53) (.seq (.reg [⟨some 4, none, .mv (.k (.c (.bool false)))⟩] none [4]) .ret) .skip)) (.seq (.reg [⟨some 54, none, .load (.t 5) (some 9)⟩, ⟨some 55, none, .bsl 9 [((.t 54), (some 9))]⟩, ⟨some 56, none, .build [(.c (.int .i64 0)), (.c (.int .i64 0)), (.c (.str ⟨#[]⟩)), (.c (.int .i64 0)), (.c (.int .i64 0)), (.c (.str ⟨#[]⟩)), (.z 1), (.z 5), (.z 9)] [(0, (.k (.c (.int .i64 17))), none), (8, (.t 55), none)]⟩, ⟨some 9, none, .alloc [(.c (.int .i64 0)), (.c (.int .i64 0)), (.c (.str ⟨#[]⟩)), (.c (.int .i64 0)), (.c (.int .i64 0)), (.c (.str ⟨#[]⟩)), (.z 1), (.z 5), (.z 9)]⟩, ⟨none, none, .st (.t 9) (.t 56) (some 9)⟩] none [5, 6, 7, 8, 9]) (.seq (.reg [⟨some 57, none, .load (.t 5) (some 9)⟩, ⟨some 58, none, .load (.t 7) (some 9)⟩, ⟨some 59, none, .bsl 9 [((.t 57), (some 9)), ((.t 58), (some 9))]⟩, ⟨some 60, none, .build [(.c (.int .i64 0)), (.c (.int .i64 0)), (.c (.str ⟨#[]⟩)), (.c (.int .i64 0)), (.c (.int .i64 0)), (.c (.str ⟨#[]⟩)), (.z 1), (.z 5), (.z 9)] [(0, (.k (.c (.int .i64 6))), none), (8, (.t 59), none)]⟩, ⟨some 10, none, .alloc [(.c (.int .i64 0)), (.c (.int .i64 0)), (.c (.str ⟨#[]⟩)), (.c (.int .i64 0)), (.c (.int .i64 0)), (.c (.str ⟨#[]⟩)), (.z 1), (.z 5), (.z 9)]⟩, ⟨none, none, .st (.t 10) (.t 60) (some 9)⟩] none [5, 6, 7, 8, 9, 10]) (.seq (.seq (.reg [⟨some 61, none, .load (.t 9) (some 9)⟩, ⟨some 62, none, .call 11 [(.t 61)]⟩, ⟨some 63, none, .mv (.t 62)⟩, ⟨some 64, some (63, true), .load (.t 9) (some 9)⟩, ⟨some 65, some (63, true), .call 6 [(.t 64)]⟩, ⟨some 66, some (63, true), .mv (.t 8)⟩, ⟨some 67, some (63, true), .bin false .add (.t 66) (.k (.c (.int .i64 1)))⟩, ⟨some 68, some (63, true), .bin false .neq (.t 65) (.t 67)⟩, ⟨some 69, none, .pick (.t 63) (.t 68) (.k (.c (.bool false)))⟩, ⟨some 70, none, .mv (.t 69)⟩, ⟨some 71, some (70, false), .load (.t 10) (some 9)⟩, ⟨some 72, some (70, false), .call 11 [(.t 71)]⟩, ⟨some 73, some (70, false), .mv (.t 72)⟩, ⟨some 74, some (73, true), .load (.t 10) (some 9)⟩, ⟨some 75, some (73, true), .call 6 [(.t 74)]⟩, ⟨some 76, some (73, true), .mv (.t 8)⟩, ⟨some 77, some (73, true), .load (.t 7) (some 9)⟩, ⟨some 78, some (73, true), .call 6 [(.t 77)]⟩, ⟨some 79, some (73, true), .bin false .add (.t 76) (.t 78)⟩, ⟨some 80, some (73, true), .bin false .add (.t 79) (.k (.c (.int .i64 1)))⟩, ⟨some 81, some (73, true), .bin false .neq (.t 75) (.t 80)⟩, ⟨some 82, some (70, false), .pick (.t 73) (.t 81) (.k (.c (.bool false)))⟩, ⟨some 83, none, .pick (.t 70) (.k (.c (.bool true))) (.t 82)⟩] (some 18) [5, 6, 7, 83]) (.cond (.t 83) (.seq (.reg [⟨some 4, none, .mv (.k (.c (.bool false)))⟩] none [4]) .ret) .skip)) (.seq (.seq (.reg [⟨some 84, none, .load (.t 5) (some 9)⟩, ⟨some 85, none, .call 8 [(.t 84)]⟩, ⟨some 86, none, .not (.t 85)⟩, ⟨some 87, none, .mv (.t 86)⟩, ⟨some 88, some (87, false), .load (.t 6) (some 9)⟩, ⟨some 89, some (87, false), .call 8 [(.t 88)]⟩, ⟨some 90, some (87, false), .not (.t 89)⟩, ⟨some 91, none, .pick (.t 87) (.k (.c (.bool true))) (.t 90)⟩, ⟨some 92, none, .mv (.t 91)⟩, ⟨some 93, some (92, false), .load (.t 7) (some 9)⟩, ⟨some 94, some (92, false), .call 8 [(.t 93)]⟩, ⟨some 95, some (92, false), .not (.t 94)⟩, ⟨some 96, none, .pick (.t 92) (.k (.c (.bool true))) (.t 95)⟩] none [5, 6, 7, 96]) (.cond (.t 96) (.seq (.reg [⟨some 4, none, .mv (.k (.c (.bool true)))⟩] none [4]) .ret) .skip)) (.seq (.reg [⟨some 97, none, .load (.t 5) (some 9)⟩, ⟨some 98, none, .load (.t 6) (some 9)⟩, ⟨some 99, none, .call 9 [(.t 97), (.t 98)]⟩, ⟨some 100, none, .load (.t 5) (some 9)⟩, ⟨some 101, none, .call 12 [(.t 100)]⟩, ⟨some 102, none, .load (.t 6) (some 9)⟩, ⟨some 103, none, .call 12 [(.t 102)]⟩, ⟨some 104, none, .bin false .eql (.t 101) (.t 103)⟩, ⟨some 105, none, .bin true .eql (.t 99) (.t 104)⟩, ⟨some 106, none, .mv (.t 105)⟩, ⟨some 107, some (106, true), .load (.t 5) (some 9)⟩, ⟨some 108, some (106, true), .load (.t 7) (some 9)⟩, ⟨some 109, some (106, true), .call 9 [(.t 107), (.t 108)]⟩, ⟨some 110, some (106, true), .load (.t 5) (some 9)⟩, ⟨some 111, some (106, true), .call 12 [(.t 110)]⟩, ⟨some 112, some (106, true), .load (.t 7) (some 9)⟩, ⟨some 113, some (106, true), .call 12 [(.t 112)]⟩, ⟨some 114, some (106, true), .bin false .eql (.t 111) (.t 113)⟩, ⟨some 115, some (106, true), .bin true .eql (.t 109) (.t 114)⟩, ⟨some 116, none, .pick (.t 106) (.t 115) (.k (.c (.bool false)))⟩, ⟨some 4, none, .mv (.t 116)⟩] (some 16) [4]) .ret)))))))))))
theorem chk_lawFM : chkX Go.Proofs.Tryd.prog 117 (Go.Proofs.Tryd.f3.body.getD .skip) x_lawFM = true := by kernel_rfl
theorem rs_lawFM : okRs Go.Proofs.Tryd.prog Go.Proofs.Tryd.f3.results.toList [.tmp 4] = true := by kernel_rfl
theorem DrawFiltMany_sound : Sound Go.Proofs.Tryd.prog 5 spDFilt := by
  refine sound_famR (GOK.cons (l := [(13, spBentF)]) call_l11Open l11Open_sound (GOK.cons call_l4Bent l4Bent_sound GOK.nil)) Go.Proofs.Tryd.func5 (c := Go.Proofs.Tryd.f5.body.getD .skip) rfl (n := 6) rfl chk_DrawFiltMany rs_DrawFiltMany (fun _ => by simp) ?_
  · rintro bs ⟨hb, h1⟩
    have hy := byt_take hb
    simp only [x_DrawFiltMany, rg, go_sem, seval, Prod.fst, F.enc_len, spOpen_md, spOpen_pre, spOpen_alts, spOpen_res, spOpen_out, spBentF_md, spBentF_pre, spBentF_ne, ↓spBentF_all, spBentF_all]
    repeat' (first | with_reducible assumption | with_reducible refine And.intro ?_ ?_ | intro _)
    all_goals first | omega | skip
    rename_i k n s vk vn vs vks vl l q hd
    exact ⟨(k, n, s, vk, vn, vs, vks, vl, l), hd.1, rfl⟩
theorem drFW_up {m k n : Int} {s : ByteArray} {v : T} {l : List F} (h : drFW m (.mk k n s v l)) : (Pw.F.mk k (n + 1) s v l).fit 100000 ∧ smallF (.mk k (n + 1) s v l) ∧ sizeF (.mk k (n + 1) s v l) ≤ m := by
  obtain ⟨⟨h1, h2, h3, h4, h5, h6⟩, h7, h8, h9, h10⟩ := h
  have h9' : (-1000 : Int) ≤ n := h9
  have h10' : n ≤ (1000 : Int) := h10
  simp only [smallF, sizeF] at h7 h8
  exact ⟨⟨h1, by unfold i64; omega, h3, h4, h5, h6⟩, by simp only [smallF]; exact h7, by simpa only [sizeF] using h8⟩
def spDAlike  : Spec := Spec.ofR (ι := (List Int)) (κ := Int × Int × ByteArray × Int × Int × ByteArray × (List ByteArray) × (List T) × (List Pw.F) × Int × Int × ByteArray × Int × Int × ByteArray × (List ByteArray) × (List T) × (List Pw.F)) [false] (fun i => [.d (.one (.row 1 (ints .u8 i)))]) (fun i => (∀ b ∈ i, 0 ≤ b ∧ b ≤ 255) ∧ lenB 140737488355328 i.length) (fun i k => drFW 140010 (Pw.F.mk k.1 k.2.1 k.2.2.1 (.mk k.2.2.2.1 k.2.2.2.2.1 k.2.2.2.2.2.1 k.2.2.2.2.2.2.1 k.2.2.2.2.2.2.2.1) k.2.2.2.2.2.2.2.2.1) ∧ (Pw.F.mk k.2.2.2.2.2.2.2.2.2.1 k.2.2.2.2.2.2.2.2.2.2.1 k.2.2.2.2.2.2.2.2.2.2.2.1 (.mk k.2.2.2.2.2.2.2.2.2.2.2.2.1 k.2.2.2.2.2.2.2.2.2.2.2.2.2.1 k.2.2.2.2.2.2.2.2.2.2.2.2.2.2.1 k.2.2.2.2.2.2.2.2.2.2.2.2.2.2.2.1 k.2.2.2.2.2.2.2.2.2.2.2.2.2.2.2.2.1) k.2.2.2.2.2.2.2.2.2.2.2.2.2.2.2.2.2).fit 100000 ∧ smallF (Pw.F.mk k.2.2.2.2.2.2.2.2.2.1 k.2.2.2.2.2.2.2.2.2.2.1 k.2.2.2.2.2.2.2.2.2.2.2.1 (.mk k.2.2.2.2.2.2.2.2.2.2.2.2.1 k.2.2.2.2.2.2.2.2.2.2.2.2.2.1 k.2.2.2.2.2.2.2.2.2.2.2.2.2.2.1 k.2.2.2.2.2.2.2.2.2.2.2.2.2.2.2.1 k.2.2.2.2.2.2.2.2.2.2.2.2.2.2.2.2.1) k.2.2.2.2.2.2.2.2.2.2.2.2.2.2.2.2.2) ∧ sizeF (Pw.F.mk k.2.2.2.2.2.2.2.2.2.1 k.2.2.2.2.2.2.2.2.2.2.1 k.2.2.2.2.2.2.2.2.2.2.2.1 (.mk k.2.2.2.2.2.2.2.2.2.2.2.2.1 k.2.2.2.2.2.2.2.2.2.2.2.2.2.1 k.2.2.2.2.2.2.2.2.2.2.2.2.2.2.1 k.2.2.2.2.2.2.2.2.2.2.2.2.2.2.2.1 k.2.2.2.2.2.2.2.2.2.2.2.2.2.2.2.2.1) k.2.2.2.2.2.2.2.2.2.2.2.2.2.2.2.2.2) ≤ 140010) (fun i k => [.d (.agg (Pw.F.mk k.1 k.2.1 k.2.2.1 (.mk k.2.2.2.1 k.2.2.2.2.1 k.2.2.2.2.2.1 k.2.2.2.2.2.2.1 k.2.2.2.2.2.2.2.1) k.2.2.2.2.2.2.2.2.1).enc), .d (.agg (Pw.F.mk k.2.2.2.2.2.2.2.2.2.1 k.2.2.2.2.2.2.2.2.2.2.1 k.2.2.2.2.2.2.2.2.2.2.2.1 (.mk k.2.2.2.2.2.2.2.2.2.2.2.2.1 k.2.2.2.2.2.2.2.2.2.2.2.2.2.1 k.2.2.2.2.2.2.2.2.2.2.2.2.2.2.1 k.2.2.2.2.2.2.2.2.2.2.2.2.2.2.2.1 k.2.2.2.2.2.2.2.2.2.2.2.2.2.2.2.2.1) k.2.2.2.2.2.2.2.2.2.2.2.2.2.2.2.2.2).enc)]) (fun i k => [.gone])
theorem spDAlike_inj : ∀ i j : (List Int), (fun (i : (List Int)) => ([.d (.one (.row 1 (ints .u8 i)))] : List AV)) i = (fun (i : (List Int)) => ([.d (.one (.row 1 (ints .u8 i)))] : List AV)) j → i = j := by
  intro bs bs' h
  simpa [strs_eq, T.enc_eq, encL_eq, F.enc_eq, encF_eq, Tk.enc_eq, encTk_eq, Gn.enc_eq, ints_eq] using h
theorem spDAlike_md  : (spDAlike).md = [false] := rfl
theorem spDAlike_pre  (bs : List Int) : (spDAlike).pre [.d (.one (.row 1 (ints .u8 bs)))] = ((∀ b ∈ bs, 0 ≤ b ∧ b ≤ 255) ∧ lenB 140737488355328 bs.length) := Spec.ofR_pre spDAlike_inj bs
theorem spDAlike_all  (bs : List Int) (F : List AV → List AV → Prop) : (spDAlike).all [.d (.one (.row 1 (ints .u8 bs)))] F = (∀ (k : Int) (n : Int) (s : ByteArray) (vk : Int) (vn : Int) (vs : ByteArray) (vks : List ByteArray) (vl : List T) (l : List Pw.F) (k2 : Int) (n2 : Int) (s2 : ByteArray) (vk2 : Int) (vn2 : Int) (vs2 : ByteArray) (vks2 : List ByteArray) (vl2 : List T) (l2 : List Pw.F), (drFW 140010 (Pw.F.mk k n s (.mk vk vn vs vks vl) l) ∧ (Pw.F.mk k2 n2 s2 (.mk vk2 vn2 vs2 vks2 vl2) l2).fit 100000 ∧ smallF (Pw.F.mk k2 n2 s2 (.mk vk2 vn2 vs2 vks2 vl2) l2) ∧ sizeF (Pw.F.mk k2 n2 s2 (.mk vk2 vn2 vs2 vks2 vl2) l2) ≤ 140010) → F [.d (.agg (Pw.F.mk k n s (.mk vk vn vs vks vl) l).enc), .d (.agg (Pw.F.mk k2 n2 s2 (.mk vk2 vn2 vs2 vks2 vl2) l2).enc)] [.gone]) := by
  refine (Spec.ofR_all spDAlike_inj bs F).trans (propext ⟨fun h k n s vk vn vs vks vl l k2 n2 s2 vk2 vn2 vs2 vks2 vl2 l2 hr => h (k, n, s, vk, vn, vs, vks, vl, l, k2, n2, s2, vk2, vn2, vs2, vks2, vl2, l2) hr, fun h k hr => ?_⟩)
  exact h k.1 k.2.1 k.2.2.1 k.2.2.2.1 k.2.2.2.2.1 k.2.2.2.2.2.1 k.2.2.2.2.2.2.1 k.2.2.2.2.2.2.2.1 k.2.2.2.2.2.2.2.2.1 k.2.2.2.2.2.2.2.2.2.1 k.2.2.2.2.2.2.2.2.2.2.1 k.2.2.2.2.2.2.2.2.2.2.2.1 k.2.2.2.2.2.2.2.2.2.2.2.2.1 k.2.2.2.2.2.2.2.2.2.2.2.2.2.1 k.2.2.2.2.2.2.2.2.2.2.2.2.2.2.1 k.2.2.2.2.2.2.2.2.2.2.2.2.2.2.2.1 k.2.2.2.2.2.2.2.2.2.2.2.2.2.2.2.2.1 k.2.2.2.2.2.2.2.2.2.2.2.2.2.2.2.2.2 hr
set_option maxHeartbeats 2000000 in
theorem DrawFiltAlike_sound : Sound Go.Proofs.Tryd.prog 4 spDAlike := by
  refine sound_famR (GOK.cons (l := [(13, spBentF)]) call_l11Open l11Open_sound (GOK.cons call_l4Bent l4Bent_sound GOK.nil)) Go.Proofs.Tryd.func4 (c := Go.Proofs.Tryd.f4.body.getD .skip) rfl (n := 28) rfl chk_DrawFiltAlike rs_DrawFiltAlike (fun _ => by simp) ?_
  · rintro bs ⟨hb, h1⟩
    have hy := byt_take hb
    simp only [lenB] at h1
    cases bs with
    | nil =>
      have b0 : (ints .u8 []).getD 0 [] = [] := rfl
      simp only [x_DrawFiltAlike, rg, go_sem, seval, Prod.fst, ints_len, b0, F.enc, T.enc, List.cons_append, List.nil_append, spOpen_md, spOpen_pre, spOpen_alts, spOpen_res, spOpen_out, spBentF_md, spBentF_pre, spBentF_ne, ↓spBentF_all, spBentF_all]
      repeat' (first | with_reducible assumption | with_reducible refine And.intro ?_ ?_ | intro _)
      all_goals first | omega | exact hy | (unfold lenB; omega) | skip
      rename_i k n s vk vn vs vks vl l q hd _ k2 n2 s2 vk2 vn2 vs2 vks2 vl2 l2 q2 hd2
      exact ⟨(k, n, s, vk, vn, vs, vks, vl, l, k2, n2, s2, vk2, vn2, vs2, vks2, vl2, l2), ⟨hd.1, hd2.1.1, hd2.1.2.1, hd2.1.2.2.1⟩, ⟨⟨rfl, rfl, rfl, rfl, rfl, rfl, rfl, rfl, rfl⟩, rfl, rfl, rfl, rfl, rfl, rfl, rfl, rfl, rfl⟩⟩
    | cons b bs =>
      have b0 : (ints .u8 (b :: bs)).getD 0 [] = [.int .u8 b] := rfl
      simp only [List.length_cons] at h1
      simp only [x_DrawFiltAlike, rg, go_sem, seval, Prod.fst, ints_len, b0, F.enc, T.enc, List.cons_append, List.nil_append, spOpen_md, spOpen_pre, spOpen_alts, spOpen_res, spOpen_out, spBentF_md, spBentF_pre, spBentF_ne, ↓spBentF_all, spBentF_all]
      repeat' (first | with_reducible assumption | with_reducible refine And.intro ?_ ?_ | intro _)
      all_goals first | omega | exact hy | (unfold lenB; omega) | skip
      · rename_i k n s vk vn vs vks vl l q hd _ k2 n2 s2 vk2 vn2 vs2 vks2 vl2 l2 q2 hd2 _ _
        have hn : (-1000 : Int) ≤ n2 := hd2.1.2.2.2.1
        omega
      · rename_i k n s vk vn vs vks vl l q hd _ k2 n2 s2 vk2 vn2 vs2 vks2 vl2 l2 q2 hd2 _ _
        have hn : n2 ≤ (1000 : Int) := hd2.1.2.2.2.2
        omega
      · rename_i k n s vk vn vs vks vl l q hd _ k2 n2 s2 vk2 vn2 vs2 vks2 vl2 l2 q2 hd2 _ _ _
        exact ⟨(k, n, s, vk, vn, vs, vks, vl, l, k2, n2 + 1, s2, vk2, vn2, vs2, vks2, vl2, l2), ⟨hd.1, drFW_up hd2.1⟩, ⟨⟨rfl, rfl, rfl, rfl, rfl, rfl, rfl, rfl, rfl⟩, rfl, rfl, rfl, rfl, rfl, rfl, rfl, rfl, rfl⟩⟩
      · rename_i k n s vk vn vs vks vl l q hd _ k2 n2 s2 vk2 vn2 vs2 vks2 vl2 l2 q2 hd2 _ _
        exact ⟨(k, n, s, vk, vn, vs, vks, vl, l, k2, n2, s2, vk2, vn2, vs2, vks2, vl2, l2), ⟨hd.1, hd2.1.1, hd2.1.2.1, hd2.1.2.2.1⟩, ⟨⟨rfl, rfl, rfl, rfl, rfl, rfl, rfl, rfl, rfl⟩, rfl, rfl, rfl, rfl, rfl, rfl, rfl, rfl, rfl⟩⟩
theorem tryF_size (f : F) : sizeF (.mk 17 0 ⟨#[]⟩ (.mk 0 0 ⟨#[]⟩ [] []) [f]) = sizeF f + 1 := by simp only [sizeF, sizeFL]; omega
theorem pipeF_size (f g : F) : sizeF (.mk 6 0 ⟨#[]⟩ (.mk 0 0 ⟨#[]⟩ [] []) [f, g]) = sizeF f + sizeF g + 1 := by simp only [sizeF, sizeFL]; omega
theorem tryF_fit {f : F} (h : f.fit 140737488355328) (h2 : smallF f) : (F.mk 17 0 ⟨#[]⟩ (.mk 0 0 ⟨#[]⟩ [] []) [f]).fit 140737488355328 ∧ smallF (.mk 17 0 ⟨#[]⟩ (.mk 0 0 ⟨#[]⟩ [] []) [f]) := by
  refine ⟨⟨by unfold i64; omega, by unfold i64; omega, by unfold lenB; decide, T.fit_mono (by decide) zero_dr.1, by unfold lenB; simp, h, trivial⟩, ?_⟩
  simp only [smallF, smallFL]
  exact ⟨by have := zero_dr.2; show sizeT T.zero ≤ _; omega, h2, trivial⟩
theorem pipeF_fit {f g : F} (h : f.fit 140737488355328) (h2 : smallF f) (h' : g.fit 140737488355328) (h2' : smallF g) : (F.mk 6 0 ⟨#[]⟩ (.mk 0 0 ⟨#[]⟩ [] []) [f, g]).fit 140737488355328 ∧ smallF (.mk 6 0 ⟨#[]⟩ (.mk 0 0 ⟨#[]⟩ [] []) [f, g]) := by
  refine ⟨⟨by unfold i64; omega, by unfold i64; omega, by unfold lenB; decide, T.fit_mono (by decide) zero_dr.1, by unfold lenB; simp, h, h', trivial⟩, ?_⟩
  simp only [smallF, smallFL]
  exact ⟨by have := zero_dr.2; show sizeT T.zero ≤ _; omega, h2, h2', trivial⟩
theorem foldTry (a : F) : DV.agg [C.int .i64 17, C.int .i64 0, C.str ⟨#[]⟩, C.int .i64 0, C.int .i64 0, C.str ⟨#[]⟩, C.row 1 [], C.row 5 [], C.row 9 [a.enc]] = DV.agg (F.mk 17 0 ⟨#[]⟩ (.mk 0 0 ⟨#[]⟩ [] []) [a]).enc := rfl
theorem foldPipe (a b : F) : DV.agg [C.int .i64 6, C.int .i64 0, C.str ⟨#[]⟩, C.int .i64 0, C.int .i64 0, C.str ⟨#[]⟩, C.row 1 [], C.row 5 [], C.row 9 [a.enc, b.enc]] = DV.agg (F.mk 6 0 ⟨#[]⟩ (.mk 0 0 ⟨#[]⟩ [] []) [a, b]).enc := rfl
noncomputable def spLawFM  : Spec := Spec.of (ι := (List Int) × (List Int)) [false, false] (fun i => [.d (.one (.row 1 (ints .u8 i.1))), .d (.one (.row 1 (ints .u8 i.2)))]) (fun i => bytes i.1 ∧ bytes i.2) (fun _ => [.d (.one (.bool true))]) (fun _ => [.gone, .gone])
theorem spLawFM_inj : ∀ i j : (List Int) × (List Int), (fun (i : (List Int) × (List Int)) => ([.d (.one (.row 1 (ints .u8 i.1))), .d (.one (.row 1 (ints .u8 i.2)))] : List AV)) i = (fun (i : (List Int) × (List Int)) => ([.d (.one (.row 1 (ints .u8 i.1))), .d (.one (.row 1 (ints .u8 i.2)))] : List AV)) j → i = j := by
  rintro ⟨a, b⟩ ⟨a', b'⟩ h
  simp only [Prod.mk.injEq]
  simpa [strs_eq, T.enc_eq, encL_eq, F.enc_eq, encF_eq, Tk.enc_eq, encTk_eq, Gn.enc_eq, ints_eq] using h
theorem spLawFM_pre  (a : List Int) (b : List Int) : (spLawFM).pre [.d (.one (.row 1 (ints .u8 a))), .d (.one (.row 1 (ints .u8 b)))] = (bytes a ∧ bytes b) := Spec.of_pre' spLawFM_inj (a, b)
theorem spLawFM_res  (a : List Int) (b : List Int) : (spLawFM).res [.d (.one (.row 1 (ints .u8 a))), .d (.one (.row 1 (ints .u8 b)))] = [.d (.one (.bool true))] := Spec.of_res spLawFM_inj (a, b)
set_option maxHeartbeats 4000000 in
theorem lawFM_sound (hK : tabK) (hW : get? 1 Globs.G = some wtabC) (hG : get? 0 Globs.G = some ktabC) : Sound Go.Proofs.Tryd.prog 3 spLawFM := by
  refine sound_fam (GOK.cons (l := [(5, spDFilt), (7, spFiltMany), (6, spFiltMany), (8, spOkF), (11, spFiltOkI), (10, spAlikeV), (9, spAlikeV), (12, spFiltText)]) call_DrawFiltAlike DrawFiltAlike_sound (GOK.cons call_DrawFiltMany DrawFiltMany_sound (GOK.cons call_FiltMany FiltMany_sound (GOK.cons call_FiltManyI (FiltManyI_sound hG) (GOK.cons call_FiltOk sOkF_sound (GOK.cons call_FiltOkI (filtOkI_sound hG) (GOK.cons call_FiltAlike alikeV_sound (GOK.cons call_FiltAlikeI alikeIV_sound (GOK.cons call_FiltTextI (filtTextI_sound hK hW hG) GOK.nil))))))))) Go.Proofs.Tryd.func3 (c := Go.Proofs.Tryd.f3.body.getD .skip) rfl (n := 117) rfl chk_lawFM rs_lawFM (fun _ => by simp) ?_ ?_
  · exact spLawFM_inj
  · rintro ⟨a, b⟩ ⟨h1, h2⟩
    simp only [bytes, lenB] at h1 h2
    simp only [x_lawFM, rg, go_sem, seval, Prod.fst, ints_len, F.enc_len, spDAlike_md, spDAlike_pre, ↓spDAlike_all, spDAlike_all, spDFilt_md, spDFilt_pre, ↓spDFilt_all, spDFilt_all]
    repeat' (first | with_reducible assumption | with_reducible refine And.intro ?_ ?_ | intro _)
    all_goals first | omega | skip
    · exact (h1.1 _ (by assumption)).1
    · exact (h1.1 _ (by assumption)).2
    · unfold lenB; omega
    · exact (h2.1 _ (by assumption)).1
    · exact (h2.1 _ (by assumption)).2
    · unfold lenB; omega
    rename_i k n s vk vn vs vks vl l k2 n2 s2 vk2 vn2 vs2 vks2 vl2 l2 hd k3 n3 s3 vk3 vn3 vs3 vks3 vl3 l3 hd3
    generalize hA : Pw.F.mk k n s (T.mk vk vn vs vks vl) l = A at *
    generalize hB : Pw.F.mk k2 n2 s2 (T.mk vk2 vn2 vs2 vks2 vl2) l2 = B at *
    generalize hC : Pw.F.mk k3 n3 s3 (T.mk vk3 vn3 vs3 vks3 vl3) l3 = D at *
    clear hA hB hC
    obtain ⟨a1, a2, a3, _⟩ := hd.1
    obtain ⟨b1, b2, b3⟩ := hd.2
    obtain ⟨d1, d2, d3, _⟩ := hd3
    replace a1 : A.fit 140737488355328 := F.fit_mono (by decide) a1
    replace b1 : B.fit 140737488355328 := F.fit_mono (by decide) b1
    replace d1 : D.fit 140737488355328 := F.fit_mono (by decide) d1
    have fA := F.enc_len A
    have fB := F.enc_len B
    have fD := F.enc_len D
    have t1 := tryF_fit a1 a2
    have t2 := pipeF_fit a1 a2 d1 d2
    have t3 := tryF_size A
    have t4 := pipeF_size A D
    have t5 : okF (F.mk 17 0 ⟨#[]⟩ (.mk 0 0 ⟨#[]⟩ [] []) [A]) → okF A := fun h => kid_ok h (by simp)
    have t6 : okF (F.mk 6 0 ⟨#[]⟩ (.mk 0 0 ⟨#[]⟩ [] []) [A, D]) → okF A ∧ okF D := fun h => ⟨kid_ok h (by simp), kid_ok h (by simp)⟩
    generalize hT : F.mk 17 0 ⟨#[]⟩ (.mk 0 0 ⟨#[]⟩ [] []) [A] = TR at *
    generalize hP : F.mk 6 0 ⟨#[]⟩ (.mk 0 0 ⟨#[]⟩ [] []) [A, D] = PI at *
    have fT := foldTry A
    have fP := foldPipe A D
    rw [hT] at fT
    rw [hP] at fP
    have oA : ((okFI A 1 16).1 = true) = okF A := propext (okFI_iff A)
    have oT : ((okFI TR 1 16).1 = true) = okF TR := propext (okFI_iff TR)
    have oP : ((okFI PI 1 16).1 = true) = okF PI := propext (okFI_iff PI)
    obtain ⟨t1, t1'⟩ := t1
    obtain ⟨t2, t2'⟩ := t2
    have sA := sizeF_pos A
    have sD := sizeF_pos D
    have key : ∀ X, okF A → okF X → (A = X) = (filtText A = filtText X) := fun X ha hx => propext ⟨fun h => by rw [h], filtText_inj ha hx⟩
    by_cases cA : okF A
    · have eA : okF A = True := eq_true cA
      have eS : (0 < sizeF A) = True := eq_true (by omega)
      by_cases cT : okF TR <;> by_cases cP : okF PI
      · have eT : okF TR = True := eq_true cT
        have eP : okF PI = True := eq_true cP
        have eD : okF D = True := eq_true (t6 cP).2
        have e2 : (sizeF PI = sizeF A + sizeF D + 1) = True := eq_true (by omega)
        have e1 : (sizeF TR = sizeF A + 1) = True := eq_true (by omega)
        simp only [rg, go_sem, seval, Prod.fst, fA, fB, fD, fT, fP, oA, oT, oP, eA, eS, eT, eP, eD, e2, e1, if_true, if_false, spFiltMany_md, spFiltMany_pre, spFiltMany_alts, spFiltMany_res, spFiltMany_out, spFiltOkI_md, spFiltOkI_pre, spFiltOkI_alts, spFiltOkI_res, spFiltOkI_out, spOkF_md, spOkF_pre, spOkF_alts, spOkF_res, spOkF_out, spAlikeV_md, spAlikeV_pre, spAlikeV_alts, spAlikeV_res, spAlikeV_out, spFiltText_md, spFiltText_pre, spFiltText_alts, spFiltText_res, spFiltText_out]
        repeat' (first | with_reducible assumption | with_reducible refine And.intro ?_ ?_ | intro _)
        all_goals first | omega | with_reducible assumption | skip
        by_cases cB : okF B
        · have eB : okF B = True := eq_true cB
          have k1 := key B cA cB
          have k2 := key D cA (t6 cP).2
          simp only [rg, go_sem, seval, Prod.fst, fA, fB, fD, eA, eB, eD, k1, k2, spFiltMany_md, spFiltMany_pre, spFiltMany_alts, spFiltMany_res, spFiltMany_out, spFiltOkI_md, spFiltOkI_pre, spFiltOkI_alts, spFiltOkI_res, spFiltOkI_out, spOkF_md, spOkF_pre, spOkF_alts, spOkF_res, spOkF_out, spAlikeV_md, spAlikeV_pre, spAlikeV_alts, spAlikeV_res, spAlikeV_out, spFiltText_md, spFiltText_pre, spFiltText_alts, spFiltText_res, spFiltText_out]
          repeat' (first | with_reducible assumption | with_reducible refine And.intro ?_ ?_ | intro _)
          all_goals first | omega | with_reducible assumption | skip
        · have eB : okF B = False := eq_false cB
          simp only [rg, go_sem, seval, Prod.fst, fA, fB, fD, eA, eB, eD, spFiltMany_md, spFiltMany_pre, spFiltMany_alts, spFiltMany_res, spFiltMany_out, spFiltOkI_md, spFiltOkI_pre, spFiltOkI_alts, spFiltOkI_res, spFiltOkI_out, spOkF_md, spOkF_pre, spOkF_alts, spOkF_res, spOkF_out, spAlikeV_md, spAlikeV_pre, spAlikeV_alts, spAlikeV_res, spAlikeV_out, spFiltText_md, spFiltText_pre, spFiltText_alts, spFiltText_res, spFiltText_out]
          repeat' (first | with_reducible assumption | with_reducible refine And.intro ?_ ?_ | intro _)
          all_goals first | omega | with_reducible assumption | skip
      · have eT : okF TR = True := eq_true cT
        have eP : okF PI = False := eq_false cP
        have e1 : (sizeF TR = sizeF A + 1) = True := eq_true (by omega)
        by_cases cD : okF D
        · have eD : okF D = True := eq_true cD
          simp only [rg, go_sem, seval, Prod.fst, fA, fB, fD, fT, fP, oA, oT, oP, eA, eS, eT, eP, e1, eD, if_true, if_false, spFiltMany_md, spFiltMany_pre, spFiltMany_alts, spFiltMany_res, spFiltMany_out, spFiltOkI_md, spFiltOkI_pre, spFiltOkI_alts, spFiltOkI_res, spFiltOkI_out, spOkF_md, spOkF_pre, spOkF_alts, spOkF_res, spOkF_out, spAlikeV_md, spAlikeV_pre, spAlikeV_alts, spAlikeV_res, spAlikeV_out, spFiltText_md, spFiltText_pre, spFiltText_alts, spFiltText_res, spFiltText_out]
          repeat' (first | with_reducible assumption | with_reducible refine And.intro ?_ ?_ | intro _)
          all_goals first | omega | with_reducible assumption | skip
          by_cases cB : okF B
          · have eB : okF B = True := eq_true cB
            have k1 := key B cA cB
            have k2 := key D cA cD
            simp only [rg, go_sem, seval, Prod.fst, fA, fB, fD, eA, eB, eD, k1, k2, spFiltMany_md, spFiltMany_pre, spFiltMany_alts, spFiltMany_res, spFiltMany_out, spFiltOkI_md, spFiltOkI_pre, spFiltOkI_alts, spFiltOkI_res, spFiltOkI_out, spOkF_md, spOkF_pre, spOkF_alts, spOkF_res, spOkF_out, spAlikeV_md, spAlikeV_pre, spAlikeV_alts, spAlikeV_res, spAlikeV_out, spFiltText_md, spFiltText_pre, spFiltText_alts, spFiltText_res, spFiltText_out]
            repeat' (first | with_reducible assumption | with_reducible refine And.intro ?_ ?_ | intro _)
            all_goals first | omega | with_reducible assumption | skip
          · have eB : okF B = False := eq_false cB
            simp only [rg, go_sem, seval, Prod.fst, fA, fB, fD, eA, eB, eD, spFiltMany_md, spFiltMany_pre, spFiltMany_alts, spFiltMany_res, spFiltMany_out, spFiltOkI_md, spFiltOkI_pre, spFiltOkI_alts, spFiltOkI_res, spFiltOkI_out, spOkF_md, spOkF_pre, spOkF_alts, spOkF_res, spOkF_out, spAlikeV_md, spAlikeV_pre, spAlikeV_alts, spAlikeV_res, spAlikeV_out, spFiltText_md, spFiltText_pre, spFiltText_alts, spFiltText_res, spFiltText_out]
            repeat' (first | with_reducible assumption | with_reducible refine And.intro ?_ ?_ | intro _)
            all_goals first | omega | with_reducible assumption | skip
        · have eD : okF D = False := eq_false cD
          simp only [rg, go_sem, seval, Prod.fst, fA, fB, fD, fT, fP, oA, oT, oP, eA, eS, eT, eP, e1, eD, if_true, if_false, spFiltMany_md, spFiltMany_pre, spFiltMany_alts, spFiltMany_res, spFiltMany_out, spFiltOkI_md, spFiltOkI_pre, spFiltOkI_alts, spFiltOkI_res, spFiltOkI_out, spOkF_md, spOkF_pre, spOkF_alts, spOkF_res, spOkF_out, spAlikeV_md, spAlikeV_pre, spAlikeV_alts, spAlikeV_res, spAlikeV_out, spFiltText_md, spFiltText_pre, spFiltText_alts, spFiltText_res, spFiltText_out]
          repeat' (first | with_reducible assumption | with_reducible refine And.intro ?_ ?_ | intro _)
          all_goals first | omega | with_reducible assumption | skip
          by_cases cB : okF B
          · have eB : okF B = True := eq_true cB
            have k1 := key B cA cB
            simp only [rg, go_sem, seval, Prod.fst, fA, fB, fD, eA, eB, eD, k1, spFiltMany_md, spFiltMany_pre, spFiltMany_alts, spFiltMany_res, spFiltMany_out, spFiltOkI_md, spFiltOkI_pre, spFiltOkI_alts, spFiltOkI_res, spFiltOkI_out, spOkF_md, spOkF_pre, spOkF_alts, spOkF_res, spOkF_out, spAlikeV_md, spAlikeV_pre, spAlikeV_alts, spAlikeV_res, spAlikeV_out, spFiltText_md, spFiltText_pre, spFiltText_alts, spFiltText_res, spFiltText_out]
            repeat' (first | with_reducible assumption | with_reducible refine And.intro ?_ ?_ | intro _)
            all_goals first | omega | with_reducible assumption | skip
          · have eB : okF B = False := eq_false cB
            simp only [rg, go_sem, seval, Prod.fst, fA, fB, fD, eA, eB, eD, spFiltMany_md, spFiltMany_pre, spFiltMany_alts, spFiltMany_res, spFiltMany_out, spFiltOkI_md, spFiltOkI_pre, spFiltOkI_alts, spFiltOkI_res, spFiltOkI_out, spOkF_md, spOkF_pre, spOkF_alts, spOkF_res, spOkF_out, spAlikeV_md, spAlikeV_pre, spAlikeV_alts, spAlikeV_res, spAlikeV_out, spFiltText_md, spFiltText_pre, spFiltText_alts, spFiltText_res, spFiltText_out]
            repeat' (first | with_reducible assumption | with_reducible refine And.intro ?_ ?_ | intro _)
            all_goals first | omega | with_reducible assumption | skip
      · have eT : okF TR = False := eq_false cT
        have eP : okF PI = True := eq_true cP
        have eD : okF D = True := eq_true (t6 cP).2
        have e2 : (sizeF PI = sizeF A + sizeF D + 1) = True := eq_true (by omega)
        simp only [rg, go_sem, seval, Prod.fst, fA, fB, fD, fT, fP, oA, oT, oP, eA, eS, eT, eP, eD, e2, if_true, if_false, spFiltMany_md, spFiltMany_pre, spFiltMany_alts, spFiltMany_res, spFiltMany_out, spFiltOkI_md, spFiltOkI_pre, spFiltOkI_alts, spFiltOkI_res, spFiltOkI_out, spOkF_md, spOkF_pre, spOkF_alts, spOkF_res, spOkF_out, spAlikeV_md, spAlikeV_pre, spAlikeV_alts, spAlikeV_res, spAlikeV_out, spFiltText_md, spFiltText_pre, spFiltText_alts, spFiltText_res, spFiltText_out]
        repeat' (first | with_reducible assumption | with_reducible refine And.intro ?_ ?_ | intro _)
        all_goals first | omega | with_reducible assumption | skip
        by_cases cB : okF B
        · have eB : okF B = True := eq_true cB
          have k1 := key B cA cB
          have k2 := key D cA (t6 cP).2
          simp only [rg, go_sem, seval, Prod.fst, fA, fB, fD, eA, eB, eD, k1, k2, spFiltMany_md, spFiltMany_pre, spFiltMany_alts, spFiltMany_res, spFiltMany_out, spFiltOkI_md, spFiltOkI_pre, spFiltOkI_alts, spFiltOkI_res, spFiltOkI_out, spOkF_md, spOkF_pre, spOkF_alts, spOkF_res, spOkF_out, spAlikeV_md, spAlikeV_pre, spAlikeV_alts, spAlikeV_res, spAlikeV_out, spFiltText_md, spFiltText_pre, spFiltText_alts, spFiltText_res, spFiltText_out]
          repeat' (first | with_reducible assumption | with_reducible refine And.intro ?_ ?_ | intro _)
          all_goals first | omega | with_reducible assumption | skip
        · have eB : okF B = False := eq_false cB
          simp only [rg, go_sem, seval, Prod.fst, fA, fB, fD, eA, eB, eD, spFiltMany_md, spFiltMany_pre, spFiltMany_alts, spFiltMany_res, spFiltMany_out, spFiltOkI_md, spFiltOkI_pre, spFiltOkI_alts, spFiltOkI_res, spFiltOkI_out, spOkF_md, spOkF_pre, spOkF_alts, spOkF_res, spOkF_out, spAlikeV_md, spAlikeV_pre, spAlikeV_alts, spAlikeV_res, spAlikeV_out, spFiltText_md, spFiltText_pre, spFiltText_alts, spFiltText_res, spFiltText_out]
          repeat' (first | with_reducible assumption | with_reducible refine And.intro ?_ ?_ | intro _)
          all_goals first | omega | with_reducible assumption | skip
      · have eT : okF TR = False := eq_false cT
        have eP : okF PI = False := eq_false cP
        by_cases cD : okF D
        · have eD : okF D = True := eq_true cD
          simp only [rg, go_sem, seval, Prod.fst, fA, fB, fD, fT, fP, oA, oT, oP, eA, eS, eT, eP, eD, if_true, if_false, spFiltMany_md, spFiltMany_pre, spFiltMany_alts, spFiltMany_res, spFiltMany_out, spFiltOkI_md, spFiltOkI_pre, spFiltOkI_alts, spFiltOkI_res, spFiltOkI_out, spOkF_md, spOkF_pre, spOkF_alts, spOkF_res, spOkF_out, spAlikeV_md, spAlikeV_pre, spAlikeV_alts, spAlikeV_res, spAlikeV_out, spFiltText_md, spFiltText_pre, spFiltText_alts, spFiltText_res, spFiltText_out]
          repeat' (first | with_reducible assumption | with_reducible refine And.intro ?_ ?_ | intro _)
          all_goals first | omega | with_reducible assumption | skip
          by_cases cB : okF B
          · have eB : okF B = True := eq_true cB
            have k1 := key B cA cB
            have k2 := key D cA cD
            simp only [rg, go_sem, seval, Prod.fst, fA, fB, fD, eA, eB, eD, k1, k2, spFiltMany_md, spFiltMany_pre, spFiltMany_alts, spFiltMany_res, spFiltMany_out, spFiltOkI_md, spFiltOkI_pre, spFiltOkI_alts, spFiltOkI_res, spFiltOkI_out, spOkF_md, spOkF_pre, spOkF_alts, spOkF_res, spOkF_out, spAlikeV_md, spAlikeV_pre, spAlikeV_alts, spAlikeV_res, spAlikeV_out, spFiltText_md, spFiltText_pre, spFiltText_alts, spFiltText_res, spFiltText_out]
            repeat' (first | with_reducible assumption | with_reducible refine And.intro ?_ ?_ | intro _)
            all_goals first | omega | with_reducible assumption | skip
          · have eB : okF B = False := eq_false cB
            simp only [rg, go_sem, seval, Prod.fst, fA, fB, fD, eA, eB, eD, spFiltMany_md, spFiltMany_pre, spFiltMany_alts, spFiltMany_res, spFiltMany_out, spFiltOkI_md, spFiltOkI_pre, spFiltOkI_alts, spFiltOkI_res, spFiltOkI_out, spOkF_md, spOkF_pre, spOkF_alts, spOkF_res, spOkF_out, spAlikeV_md, spAlikeV_pre, spAlikeV_alts, spAlikeV_res, spAlikeV_out, spFiltText_md, spFiltText_pre, spFiltText_alts, spFiltText_res, spFiltText_out]
            repeat' (first | with_reducible assumption | with_reducible refine And.intro ?_ ?_ | intro _)
            all_goals first | omega | with_reducible assumption | skip
        · have eD : okF D = False := eq_false cD
          simp only [rg, go_sem, seval, Prod.fst, fA, fB, fD, fT, fP, oA, oT, oP, eA, eS, eT, eP, eD, if_true, if_false, spFiltMany_md, spFiltMany_pre, spFiltMany_alts, spFiltMany_res, spFiltMany_out, spFiltOkI_md, spFiltOkI_pre, spFiltOkI_alts, spFiltOkI_res, spFiltOkI_out, spOkF_md, spOkF_pre, spOkF_alts, spOkF_res, spOkF_out, spAlikeV_md, spAlikeV_pre, spAlikeV_alts, spAlikeV_res, spAlikeV_out, spFiltText_md, spFiltText_pre, spFiltText_alts, spFiltText_res, spFiltText_out]
          repeat' (first | with_reducible assumption | with_reducible refine And.intro ?_ ?_ | intro _)
          all_goals first | omega | with_reducible assumption | skip
          by_cases cB : okF B
          · have eB : okF B = True := eq_true cB
            have k1 := key B cA cB
            simp only [rg, go_sem, seval, Prod.fst, fA, fB, fD, eA, eB, eD, k1, spFiltMany_md, spFiltMany_pre, spFiltMany_alts, spFiltMany_res, spFiltMany_out, spFiltOkI_md, spFiltOkI_pre, spFiltOkI_alts, spFiltOkI_res, spFiltOkI_out, spOkF_md, spOkF_pre, spOkF_alts, spOkF_res, spOkF_out, spAlikeV_md, spAlikeV_pre, spAlikeV_alts, spAlikeV_res, spAlikeV_out, spFiltText_md, spFiltText_pre, spFiltText_alts, spFiltText_res, spFiltText_out]
            repeat' (first | with_reducible assumption | with_reducible refine And.intro ?_ ?_ | intro _)
            all_goals first | omega | with_reducible assumption | skip
          · have eB : okF B = False := eq_false cB
            simp only [rg, go_sem, seval, Prod.fst, fA, fB, fD, eA, eB, eD, spFiltMany_md, spFiltMany_pre, spFiltMany_alts, spFiltMany_res, spFiltMany_out, spFiltOkI_md, spFiltOkI_pre, spFiltOkI_alts, spFiltOkI_res, spFiltOkI_out, spOkF_md, spOkF_pre, spOkF_alts, spOkF_res, spOkF_out, spAlikeV_md, spAlikeV_pre, spAlikeV_alts, spAlikeV_res, spAlikeV_out, spFiltText_md, spFiltText_pre, spFiltText_alts, spFiltText_res, spFiltText_out]
            repeat' (first | with_reducible assumption | with_reducible refine And.intro ?_ ?_ | intro _)
            all_goals first | omega | with_reducible assumption | skip
    · have eA : okF A = False := eq_false cA
      have eT : okF TR = False := eq_false fun h => cA (t5 h)
      have eP : okF PI = False := eq_false fun h => cA (t6 h).1
      simp only [rg, go_sem, seval, Prod.fst, fA, fB, fD, fT, fP, oA, oT, oP, eA, eT, eP, if_true, if_false, spFiltMany_md, spFiltMany_pre, spFiltMany_alts, spFiltMany_res, spFiltMany_out, spFiltOkI_md, spFiltOkI_pre, spFiltOkI_alts, spFiltOkI_res, spFiltOkI_out, spOkF_md, spOkF_pre, spOkF_alts, spOkF_res, spOkF_out, spAlikeV_md, spAlikeV_pre, spAlikeV_alts, spAlikeV_res, spAlikeV_out, spFiltText_md, spFiltText_pre, spFiltText_alts, spFiltText_res, spFiltText_out]
      repeat' (first | with_reducible assumption | with_reducible refine And.intro ?_ ?_ | intro _)
      all_goals first | omega | with_reducible assumption | skip
      all_goals trace_state
end Go.Proofs.Pw
/- From what a law's arguments are told to be, to what is shown of its run. -/
namespace Go.Proofs.Pw
open Go.RowKit
set_option linter.unusedSectionVars false
/-- All blocks that are there. -/
def Old (w : World) (g : Nat) : Prop := g < w.heap.size
theorem cell_lt {w : World} {a : Addr} {v : Value} (h : w.cell? a = some v) : a.block < w.heap.size := by
  unfold World.cell? at h
  rcases Nat.lt_or_ge a.block w.heap.size with hlt | hge
  · exact hlt
  · rw [Array.getElem?_eq_none hge] at h; simp at h
theorem rep_ints {k : IntKind} {w : World} {a : Option Addr} {len cap : Nat} {zs : List Int}
    (h : (a = none ∧ len = 0 ∧ cap = 0 ∧ zs = []) ∨ ∃ x, a = some x ∧ len ≤ cap ∧ cap ≤ maxLen ∧ zs.length = cap ∧ (∀ i, i < zs.length → w.cell? (x.add i) = some (.int k (zs.getD i 0))) ∧ ∀ n ∈ zs, (Lit.int k n).wf = true) :
    Rep w (Old w) (.row 1 (ints k (zs.take len))) (.slice a len cap) ∧ (zs.take len).length = len ∧ ∀ n ∈ zs.take len, (Lit.int k n).wf = true := by
  rcases h with ⟨rfl, rfl, rfl, rfl⟩ | ⟨x, rfl, hl, hm, hz, hc, hw⟩
  · exact ⟨.nil .., rfl, by simp⟩
  · have hlen : (zs.take len).length = len := by simp; omega
    refine ⟨?_, hlen, fun n hn => hw n (List.mem_of_mem_take hn)⟩
    rcases Nat.eq_zero_or_pos len with h0 | h0
    · subst h0; exact .nil ..
    · have key : ∀ (i j : Nat) e c, (ints k (zs.take len))[i]? = some e → e[j]? = some c → j = 0 ∧ i < zs.length ∧ c = .int k (zs.getD i 0) := fun i j e c he hj => by
        simp only [ints, List.getElem?_map, Option.map_eq_some_iff] at he
        obtain ⟨n, hn, rfl⟩ := he
        rw [List.getElem?_take] at hn
        split at hn
        · cases j with
          | zero => simp at hj; subst hj; exact ⟨rfl, (List.getElem?_eq_some_iff.1 hn).1, by simp [hn]⟩
          | succ j => simp at hj
        · cases hn
      have hel : (ints k (zs.take len)).length = len := by rw [ints_len, hlen]
      have := Rep.row (w := w) (S := Old w) 1 (ints k (zs.take len)) x cap (fun i => .int k (zs.getD i 0)) (by omega) (by
        have := cell_lt (hc 0 (by omega)); rwa [add_block] at this) (fun i e he => by
          simp only [ints, List.getElem?_map, Option.map_eq_some_iff] at he
          obtain ⟨n, _, rfl⟩ := he; rfl) (fun i j e c he hj => by
          obtain ⟨rfl, h1, _⟩ := key i j e c he hj
          simpa using hc i h1) (fun i j e c he hj => by
          obtain ⟨rfl, h1, rfl⟩ := key i j e c he hj
          simpa using Rep.int k (zs.getD i 0))
      rwa [hel] at this
/-- A law that holds of what it is handed, run in whatever world. -/
theorem law_calls [Globs] {P : Program} {f : FuncId} {sp : Spec} (h : Sound P f sp) {args : List AV} (hp : sp.pre args) (ha : sp.alts = none) (hr : sp.res args = [.d (.one (.bool true))]) {W : World} {vs : List Value} (hG : Gl W (Old W))
    (hA : All3 (RepA W (Old W)) args vs (args.map fun _ => fun _ => False)) : Calls P f vs.toArray W fun e w' => e = .returned (.bool true) ∧ Below W.heap.size W w' := by
  refine (h args hp W (Old W) vs _ hG (fun _ h => h) (fun g hg => absurd hg Any_false) Apart_false hA).mono ?_
  rintro e w' ⟨r, o, hro, v, S', rfs, fps', rfl, g1, _, _, _, _, _, g8⟩
  obtain ⟨rfl, rfl⟩ := (Spec.may_none ha).1 hro
  rw [hr] at g1
  refine ⟨?_, ⟨g8.os, g8.tape, g8.output, g8.size, fun k hk => g8.block k hk Any_false⟩⟩
  cases rfs with
  | nil => exact absurd rfl g1.1
  | cons fp r => cases r with
    | nil =>
      obtain ⟨g1, _⟩ := g1
      cases g1; rfl
    | cons _ _ => exact absurd rfl g1.1
end Go.Proofs.Pw
/- Arguments with depth: what they read as, and that they read so still. -/
namespace Go.Proofs.Pw
open Go.RowKit Go.ChangeShapes Go.WideShapes
set_option linter.unusedSectionVars false
section
variable {H : Type} {enc : TypeId × Value → H} {P : Program} {W W' : World} {spare : Nat → Bool} {held : Bool}
theorem trodAll_below (hl : laidOutB P = true) (hb : Below W.heap.size W W') : ∀ {ts : List TypeId} {vs : List Value} {ds : List (DataW H)} {p : List MemPlace}, DataW.TrodAll enc P W 0 (fun _ => true) true ts vs ds p →
    (ts.all fun t => P.readableRec t && decide (t < P.types.size)) = true → (∀ x ∈ p, x.block < W.heap.size) → DataW.TrodAll enc P W' 0 (fun b => decide (b < W.heap.size)) true ts vs ds p := by
  intro ts
  induction ts with
  | nil =>
    intro vs ds p h _ _
    cases vs <;> cases ds <;> first | exact h | exact h.elim
  | cons t ts ih =>
    intro vs ds p h hr hp
    obtain ⟨v, vs', d, ds', p1, q, rfl, rfl, rfl, h1, h2⟩ := trodAll_cons h
    simp only [List.all_cons, Bool.and_eq_true, decide_eq_true_eq] at hr
    exact ⟨p1, q, Below.trod hl hr.1.1 hr.1.2 h1 hb (fun x hx => hp x (by simp [hx])), ih h2 hr.2 (fun x hx => hp x (by simp [hx])), rfl⟩
theorem trodVars_below (hl : laidOutB P = true) (hb : Below W.heap.size W W') : ∀ {ns : List String} {gs : List (DataW H)} {p : List MemPlace}, DataW.TrodVars enc P W (fun _ => true) ns gs p →
    (ns.all fun n => match P.globalNamed n with | some g => (match P.globals[g]? with | some x => P.readableRec x.type && decide (x.type < P.types.size) | none => false) | none => false) = true → (∀ x ∈ p, x.block < W.heap.size) →
    DataW.TrodVars enc P W' (fun b => decide (b < W.heap.size)) ns gs p := by
  intro ns
  induction ns with
  | nil =>
    intro gs p h _ _
    cases gs <;> first | exact h | exact h.elim
  | cons n ns ih =>
    intro gs p h hr hp
    cases gs with
    | nil => exact h.elim
    | cons d gs =>
      obtain ⟨g, t, cs, fuel, p1, q, hg, ht, hv, hd, h2, rfl⟩ := h
      simp only [List.all_cons, Bool.and_eq_true, hg] at hr
      obtain ⟨hr2, hr3⟩ := hr
      have hr1 : g < W.heap.size := by
        unfold World.var? at hv
        simp only [hg, Option.bind_some] at hv
        split at hv
        · rename_i h1; exact (Array.getElem?_eq_some_iff.1 h1).1
        · cases hv
      simp only [Option.map_eq_some_iff] at ht
      obtain ⟨x, hx, rfl⟩ := ht
      simp only [hx, Bool.and_eq_true, decide_eq_true_eq] at hr2
      have hk : DataW.Trod enc P W 0 (fun _ => true) true x.type (.agg cs) d p1 := ⟨fuel, hd⟩
      obtain ⟨fuel', hd'⟩ := Below.trod hl hr2.1 hr2.2 hk hb (fun y hy => hp y (by simp [hy]))
      exact ⟨g, x.type, cs, fuel', p1, q, hg, by rw [hx]; rfl, var?_below hb hg hr1 hv, hd', ih h2 hr3 (fun y hy => hp y (by simp [hy])), rfl⟩
/-- What is left behind a law that gives true, and has turned nothing that was there. -/
theorem law_post {f : Func} {s : ChangeSpec} {args : Array Value} {ds gs : List (DataW H)} {before : List MemPlace} {rt : TypeId} (hl : laidOutB P = true)
    (hW : DataW.Whole enc P f.params.toList s.vars false W args.toList ds gs before) (hrt : f.resultTypes.toList = [rt]) (hrb : P.underlying rt = some .bool) (hsz : f.resultTypes.size = 1)
    (hfn : s.fn H (ds ++ gs) = { results := [.lit (.bool true)], args := ds, vars := gs })
    (hp : (f.params.toList.all fun t => P.readableRec t && decide (t < P.types.size)) = true)
    (hv : (s.vars.all fun n => match P.globalNamed n with | some g => (match P.globals[g]? with | some x => P.readableRec x.type && decide (x.type < P.types.size) | none => false) | none => false) = true)
    (hb : Below W.heap.size W W') : s.post enc P f false true false false W args (.bool true) W' := by
  have hlt := hW.lt
  have hW' := hW
  obtain ⟨p, q, hA, hV, rfl, hfz, hnd⟩ := hW
  refine ⟨ds, gs, _, [], p, q, hW', ?_, ?_, ?_, hb.frame _, fun h => by cases h⟩
  · rw [hfn, hrt, hsz]
    exact trodAll_mk1 (shut_bool hrb _)
  · rw [hfn]; exact trodAll_below hl hb hA hp (fun x hx => hlt x (by simp [hx]))
  · rw [hfn]; exact trodVars_below hl hb hV hv (fun x hx => hlt x (by simp [hx]))
end
end Go.Proofs.Pw
/- A row of octets handed over. -/
namespace Go.Proofs.Pw
open Go.RowKit Go.ChangeShapes Go.WideShapes
set_option linter.unusedSectionVars false
section
variable {H : Type} {enc : TypeId × Value → H} {P : Program} {W : World}
theorem wf_u8 {n : Int} (h : (Lit.int .u8 n).wf = true) : 0 ≤ n ∧ n ≤ 255 := by
  simp only [Lit.wf, Bool.and_eq_true, decide_eq_true_eq] at h
  simp only [IntKind.min, IntKind.max, IntKind.signed, IntKind.bits] at h
  simp at h; omega
theorem read_bytes {held : Bool} {r : Reach} {base : Nat} {ts : List TypeId} {ds : List (DataW H)} {j : Nat} {t e : TypeId} {v : Value} {d : DataW H} {p : List MemPlace} (hu : P.underlying t = some (.slice e)) (he : P.underlying e = some (.int .u8)) (hc : P.cellsOf e = 1) (hby : 0 < P.bytesOf e)
    (hval : Value.okWide P W r base t v) (h : DataW.Trod enc P W 0 (fun _ => true) held t v d p) (hz : (DataW.weightsEach P ts ds).all (· ≤ reachBytes) = true) (ht : ts[j]? = some t) (hd : ds[j]? = some d) :
    ∃ l : List Int, RepA W (Old W) (.d (.one (.row 1 (ints .u8 l)))) v (fun _ => False) ∧ bytes l := by
  obtain ⟨a, len, cap, rfl⟩ := okWide_slice hu hval
  obtain ⟨fuel, h⟩ := h
  rcases open_ints hu he hc h with ⟨h1, h2⟩ | ⟨x, l, c, zs, hcs, _, hl, hm, hz', hx, hcell, hwz⟩
  · simp only [Value.cells, List.cons.injEq, and_true] at h1
    cases h1
    refine ⟨[], ⟨.nil .., fun _ h => h⟩, by simp, by unfold lenB; simp⟩
  · simp only [Value.cells, List.cons.injEq, and_true] at hcs
    cases hcs
    simp only [Prod.mk.injEq] at hx
    obtain ⟨rfl, rfl⟩ := hx
    obtain ⟨k1, k2, k3⟩ := rep_ints (k := .u8) (w := W) (a := some x) (len := len) (cap := cap) (zs := zs) (.inr ⟨x, rfl, hl, hm, by simpa using hz', hcell, hwz⟩)
    refine ⟨zs.take len, ⟨k1, fun _ h => h⟩, fun b hb => wf_u8 (k3 b hb), ?_⟩
    have k4 := sized_slice hz ht hd hu
    have k5 : (lits (H := H) .u8 (zs.take len)).length ≤ reachBytes := by
      refine Nat.le_trans (Nat.le_trans (Nat.le_add_right _ (lits (H := H) .u8 (zs.drop len)).length) ?_) k4
      exact Nat.le_mul_of_pos_right _ hby
    have := reachBytes_lt
    simp only [lits, List.length_map] at k5
    unfold lenB; omega
end
end Go.Proofs.Pw
/- A listed table reads as it is told. -/
namespace Go.Proofs.Pw
open Go.RowKit Go.ChangeShapes Go.WideShapes
set_option linter.unusedSectionVars false
theorem lits_inj {H : Type} {k : IntKind} : ∀ {a b : List Int}, lits (H := H) k a = lits k b → a = b := by
  intro a
  induction a with
  | nil => intro b h; cases b with
    | nil => rfl
    | cons _ _ => simp [lits] at h
  | cons x a ih => intro b h; cases b with
    | nil => simp [lits] at h
    | cons y b =>
      simp only [lits, List.map_cons, List.cons.injEq, DataW.lit.injEq, Lit.int.injEq, true_and] at h
      rw [h.1, ih h.2]
/-- A listed slice of whole numbers. -/
theorem laid_ints {P : Program} {W : World} {nm : String} {d : DataW Unit} {ns : List Int} {r : List (String × DataW Unit)} {ps : List MemPlace} {g : Nat} {t e : TypeId} {k : IntKind} (hg : P.globalNamed nm = some g) (ht : (P.globals[g]?).map (·.type) = some t)
    (hu : P.underlying t = some (.slice e)) (he : P.underlying e = some (.int k)) (hc : P.cellsOf e = 1) (hd : d = .slice (lits k ns) []) (h : DataW.LaidVars P W ((nm, d) :: r) ps) :
    (Old W g ∧ ∃ u, W.cell? ⟨g, 0, none⟩ = some u ∧ Rep W (Old W) (.row 1 (ints k ns)) u) ∧ ∃ ps', DataW.LaidVars P W r ps' := by
  obtain ⟨g', t', cs, fuel, p, q, hg', ht', hv, htr, hr, _⟩ := h
  obtain rfl := Option.some.inj (hg.symm.trans hg')
  obtain rfl := Option.some.inj (ht.symm.trans ht')
  refine ⟨?_, q, hr⟩
  subst hd
  rcases open_ints hu he hc htr with ⟨_, hx⟩ | ⟨x, l, c, zs, hcs, _, hl, hm, hz, hx, hcell, hwz⟩
  · simp at hx
  · simp only [Prod.mk.injEq, DataW.slice.injEq] at hx
    have hns := lits_inj hx.1.1
    have h0 : W.cell? ⟨g, 0, none⟩ = some (.slice (some x) l c) := by
      have := World.var?_cell hg hv 0
      rw [Array.eq_one_of_toList hcs] at this
      simpa using this
    have hrep := (rep_ints (w := W) (a := some x) (len := l) (cap := c) (zs := zs) (.inr ⟨x, rfl, hl, hm, by simpa using hz, hcell, hwz⟩)).1
    rw [← hns] at hrep
    exact ⟨cell_lt h0, _, h0, hrep⟩
end Go.Proofs.Pw
/- Listed arrays of numbers and lists of texts read as they are told. -/
namespace Go.Proofs.Pw
open Go.RowKit Go.ChangeShapes Go.WideShapes
set_option linter.unusedSectionVars false
theorem laid_rest {P : Program} {W : World} {x : String × DataW Unit} {r : List (String × DataW Unit)} {ps : List MemPlace} (h : DataW.LaidVars P W (x :: r) ps) : ∃ ps', DataW.LaidVars P W r ps' := by
  obtain ⟨g', t', cs, fuel, p, q, hg', ht', hv, htr, hr, _⟩ := h
  exact ⟨q, hr⟩
/-- A listed array of whole numbers. -/
theorem laid_tab {P : Program} {W : World} {nm : String} {d : DataW Unit} {ns : List Int} {r : List (String × DataW Unit)} {ps : List MemPlace} {g n : Nat} {t e : TypeId} {k : IntKind} (hg : P.globalNamed nm = some g) (ht : (P.globals[g]?).map (·.type) = some t)
    (hu : P.underlying t = some (.array n e)) (he : P.underlying e = some (.int k)) (hc : P.cellsOf e = 1) (hct : P.cellsOf t = n) (hd : d = Lib.tabData k ns) (h : DataW.LaidVars P W ((nm, d) :: r) ps) :
    Old W g ∧ ∃ ty x, W.heap[g]? = some (.cells (ns.map fun z => Value.int k z).toArray ty x) := by
  obtain ⟨g', t', cs, fuel, p, q, hg', ht', hv, htr, hr, _⟩ := h
  obtain rfl := Option.some.inj (hg.symm.trans hg')
  obtain rfl := Option.some.inj (ht.symm.trans ht')
  subst hd
  have hcs := Lib.cells_of_tab hu he hc hct htr
  have hcs' : cs = (ns.map fun z => Value.int k z).toArray := by rw [← hcs]
  unfold World.var? at hv
  rw [hg] at hv
  simp only [Option.bind_some] at hv
  split at hv
  · rename_i cs' ty x hh
    cases hv
    refine ⟨?_, ty, x, by rw [hh, hcs']⟩
    rcases Nat.lt_or_ge g W.heap.size with h | h
    · exact h
    · rw [Array.getElem?_eq_none h] at hh; cases hh
  · cases hv
/-- A listed slice of texts. -/
theorem laid_strs {P : Program} {W : World} {nm : String} {d : DataW Unit} {ws : List ByteArray} {r : List (String × DataW Unit)} {ps : List MemPlace} {g : Nat} {t e : TypeId} (hg : P.globalNamed nm = some g) (ht : (P.globals[g]?).map (·.type) = some t)
    (hu : P.underlying t = some (.slice e)) (he : P.underlying e = some .string) (hc : P.cellsOf e = 1) (h0 : 0 < ws.length) (hd : d = .slice (ws.map fun s => .lit (.string s.data.toList)) []) (h : DataW.LaidVars P W ((nm, d) :: r) ps) :
    Old W g ∧ ∃ u, W.cell? ⟨g, 0, none⟩ = some u ∧ Rep W (Old W) (.row 1 (strs ws)) u := by
  obtain ⟨g', t', cs, fuel, p, q, hg', ht', hv, htr, hr, _⟩ := h
  obtain rfl := Option.some.inj (hg.symm.trans hg')
  obtain rfl := Option.some.inj (ht.symm.trans ht')
  subst hd
  obtain ⟨a, cap, hcs, hle, hcell⟩ := open_row hu hc htr
  rw [List.length_map] at hcs hle
  have key : ∀ (i : Nat) s, ws[i]? = some s → W.cell? (a.add i) = some (.string s) := fun i s hs => by
    obtain ⟨v, n, q', hv', htv⟩ := hcell i (.lit (.string s.data.toList)) (by simp [hs])
    obtain ⟨s', hs1, hs2, _⟩ := DataW.trod_string he htv
    simp only [List.cons.injEq, and_true] at hs1
    simp only [Prod.mk.injEq, DataW.lit.injEq, Lit.string.injEq] at hs2
    rw [hv', hs1]
    have e : s' = s := by
      have := hs2.1
      cases s; cases s'
      simp at this
      rw [this]
    rw [e]
  have hcc := World.var?_cell hg hv 0
  rw [Array.eq_one_of_toList hcs] at hcc
  have hcc' : W.cell? ⟨g, 0, none⟩ = some (.slice (some a) ws.length cap) := by simpa using hcc
  refine ⟨cell_lt hcc', _, hcc', ?_⟩
  have hl : (strs ws).length = ws.length := strs_len ws
  have hk : ∀ (i j : Nat) e' c, (strs ws)[i]? = some e' → e'[j]? = some c → ∃ s, ws[i]? = some s ∧ j = 0 ∧ c = .str s := fun i j e' c he' hj => by
    simp only [strs, List.getElem?_map, Option.map_eq_some_iff] at he'
    obtain ⟨s, hs, rfl⟩ := he'
    cases j with
    | zero => simp at hj; exact ⟨s, hs, rfl, hj.symm⟩
    | succ j => simp at hj
  have := Rep.row (w := W) (S := Old W) 1 (strs ws) a cap (fun i => .string (ws.getD i ⟨#[]⟩)) (by omega) (by
    have := cell_lt (key 0 ws[0] (by simp [h0])); rwa [add_block] at this) (fun i e' he' => by
      simp only [strs, List.getElem?_map, Option.map_eq_some_iff] at he'
      obtain ⟨s, _, rfl⟩ := he'; rfl) (fun i j e' c he' hj => by
      obtain ⟨s, h1, rfl, rfl⟩ := hk i j e' c he' hj
      have := key i s h1
      simp only [Nat.mul_one, Nat.add_zero]
      rw [this]
      simp [List.getD, h1]) (fun i j e' c he' hj => by
      obtain ⟨s, h1, rfl, rfl⟩ := hk i j e' c he' hj
      have e2 : ws.getD (i * 1 + 0) ⟨#[]⟩ = s := by simp [List.getD, h1]
      simp only [e2]
      exact Rep.str s)
  rwa [hl] at this
end Go.Proofs.Pw
