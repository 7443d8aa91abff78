/- FnVal: the law, run. -/
import Derived.Test.YtgpjodcopajlkaaDoorPwT20
import Derived.Test.YtgpjodcopajlkaaDoorPwT19
import Derived.Test.YtgpjodcopajlkaaDoorPwT18
import Derived.Test.YtgpjodcopajlkaaDoorPwT9
import Derived.ProofKit
import Derived.ChangeOld
import Derived.Below
import Derived.Carry
import Derived.SizedLaws
import Derived.ChangeArms
import Derived.ChangeVars
import Derived.WalkSmall
import Derived.ChangeSlices
import Derived.Test.YtgpjodcopajlkaaDoorPwT10
import Derived.LaidHandle
import Derived.Lib.LaidTab
import Derived.LaidMore
import Derived.LaidLaws
set_option linter.unusedSimpArgs false
set_option linter.unusedVariables false
set_option linter.unusedSectionVars false
set_option maxRecDepth 20000
namespace Go.Proofs.Pw
variable [Globs]
def x_DrawValText : X := (.seq (.reg [⟨some 2, none, .alloc [(.c (.int .i64 0)), (.c (.int .i64 0)), (.c (.str ⟨#[]⟩)), (.z 1), (.z 5)]⟩] none [0, 2]) (.seq (.reg [⟨some 3, none, .mv (.t 0)⟩, ⟨some 4, none, .call 31 [(.t 3)]⟩, ⟨some 5, none, .callr 30 [(.t 4)]⟩, ⟨none, none, .st (.t 2) (.t 5) (some 5)⟩] none [2]) .ret))
theorem chk_DrawValText : chkX Tryd.prog 6 (Tryd.f7.body.getD .skip) x_DrawValText = true := by kernel_rfl
theorem rs_DrawValText : okRs Tryd.prog Tryd.f7.results.toList [.cell 2 (some 5)] = true := by kernel_rfl
theorem call_DrawValText : okCallee Tryd.prog 7 = true := by kernel_rfl
def x_DrawValRead : X := (.seq (.reg [⟨some 2, none, .mv (.k (.c (.str ⟨#[]⟩)))⟩] none [0]) (.seq (.reg [⟨some 6, none, .mv (.t 0)⟩, ⟨some 7, none, .call 31 [(.t 6)]⟩, ⟨some 3, none, .mv (.t 7)⟩] none [3]) (.seq (.reg [⟨some 8, none, .mv (.t 3)⟩, ⟨some 9, none, .callr 30 [(.t 8)]⟩, ⟨some 10, none, .call 9 [(.t 9)]⟩, ⟨some 4, none, .mv (.t 10)⟩] none [3, 4]) (.seq (.seq (.reg [⟨some 11, none, .mv (.t 4)⟩, ⟨some 12, none, .len (.t 11) true⟩, ⟨some 13, none, .bin false .eql (.t 12) (.k (.c (.int .i64 0)))⟩, ⟨some 14, none, .mv (.t 13)⟩, ⟨some 15, some (14, false), .mv (.t 3)⟩, ⟨some 16, some (14, false), .callr 48 [(.t 15), (.k (.c (.int .i64 2)))]⟩, ⟨some 17, some (14, false), .bin false .eql (.t 16) (.k (.c (.int .i64 0)))⟩, ⟨some 18, none, .pick (.t 14) (.k (.c (.bool true))) (.t 17)⟩] none [3, 4, 18]) (.cond (.t 18) (.seq (.reg [⟨some 19, none, .mv (.t 4)⟩, ⟨some 2, none, .mv (.t 19)⟩] none [2]) .ret) .skip)) (.seq (.reg [⟨some 20, none, .mv (.t 3)⟩, ⟨some 21, none, .mv (.t 4)⟩, ⟨some 22, none, .len (.t 21) true⟩, ⟨some 23, none, .callr 48 [(.t 20), (.t 22)]⟩, ⟨some 5, none, .mv (.t 23)⟩] none [3, 4, 5]) (.seq (.mix [⟨some 24, none, .mv (.t 4)⟩, ⟨some 25, none, .mv (.t 5)⟩, ⟨some 26, none, .sub (.t 24) none (some (.t 25)) 0⟩, ⟨some 27, none, .mv (.t 3)⟩, ⟨some 28, none, .bsl 1 [((.k (.c (.str ⟨#[]⟩))), none), ((.k (.c (.str ⟨#[48]⟩))), none), ((.k (.c (.str ⟨#[44]⟩))), none), ((.k (.c (.str ⟨#[91, 93]⟩))), none), ((.k (.c (.str ⟨#[39]⟩))), none), ((.k (.c (.str ⟨#[97, 58, 49, 44]⟩))), none), ((.k (.c (.str ⟨#[125]⟩))), none)]⟩, ⟨some 29, none, .callr 49 [(.t 27), (.t 28)]⟩, ⟨some 30, none, .bin false .add (.t 26) (.t 29)⟩, ⟨some 31, none, .mv (.t 4)⟩, ⟨some 32, none, .mv (.t 5)⟩, ⟨some 33, none, .mv (.t 3)⟩, ⟨some 34, none, .callr 48 [(.t 33), (.k (.c (.int .i64 2)))]⟩, ⟨some 35, none, .bin false .add (.t 32) (.t 34)⟩, ⟨some 36, none, .sub (.t 31) (some (.t 35)) none 0⟩] [⟨some 37, none, .bin false .add (.t 30) (.t 36)⟩, ⟨some 2, none, .mv (.t 37)⟩] [[], [], [], [], [], [2], [], [], [], [], [2], [], []] [2]) .ret))))))
theorem chk_DrawValRead : chkX Tryd.prog 38 (Tryd.f18.body.getD .skip) x_DrawValRead = true := by kernel_rfl
theorem rs_DrawValRead : okRs Tryd.prog Tryd.f18.results.toList [.tmp 2] = true := by kernel_rfl
theorem call_DrawValRead : okCallee Tryd.prog 18 = true := by kernel_rfl
def x_lawVal : X := (.seq (.reg [⟨some 4, none, .mv (.k (.c (.bool false)))⟩] none [0, 1]) (.seq (.seq (.reg [⟨some 14, none, .mv (.t 0)⟩, ⟨some 15, none, .len (.t 14) false⟩, ⟨some 16, none, .bin false .gtr (.t 15) (.k (.c (.int .i64 1048576)))⟩, ⟨some 17, none, .mv (.t 16)⟩, ⟨some 18, some (17, false), .mv (.t 1)⟩, ⟨some 19, some (17, false), .len (.t 18) false⟩, ⟨some 20, some (17, false), .bin false .gtr (.t 19) (.k (.c (.int .i64 1048576)))⟩, ⟨some 21, none, .pick (.t 17) (.k (.c (.bool true))) (.t 20)⟩] none [0, 1, 21]) (.cond (.t 21) (.seq (.reg [⟨some 4, none, .mv (.k (.c (.bool true)))⟩] none [4]) .ret) .skip)) (.seq (.reg [⟨some 22, none, .mv (.t 0)⟩, ⟨some 23, none, .callr 7 [(.t 22)]⟩, ⟨some 5, none, .alloc [(.c (.int .i64 0)), (.c (.int .i64 0)), (.c (.str ⟨#[]⟩)), (.z 1), (.z 5)]⟩, ⟨none, none, .st (.t 5) (.t 23) (some 5)⟩] none [1, 5]) (.seq (.reg [⟨some 24, none, .load (.t 5) (some 5)⟩, ⟨some 25, none, .call 8 [(.t 24)]⟩, ⟨some 6, none, .mv (.t 25)⟩] none [1, 5, 6]) (.seq (.reg [⟨some 27, none, .mv (.t 6)⟩, ⟨some 28, none, .call 11 [(.t 27)]⟩, ⟨some 26, none, .mv (.t 28)⟩, ⟨some 29, none, .ext (.t 26) 0⟩, ⟨some 30, none, .ext (.t 26) 1⟩, ⟨some 7, none, .alloc [(.c (.int .i64 0)), (.c (.int .i64 0)), (.c (.str ⟨#[]⟩)), (.z 1), (.z 5)]⟩, ⟨none, none, .st (.t 7) (.t 29) (some 5)⟩, ⟨some 8, none, .mv (.t 30)⟩] none [1, 5, 6, 7, 8]) (.seq (.seq (.reg [⟨some 31, none, .mv (.t 6)⟩, ⟨some 32, none, .load (.t 5) (some 5)⟩, ⟨some 33, none, .call 9 [(.t 32)]⟩, ⟨some 34, none, .bin false .neq (.t 31) (.t 33)⟩, ⟨some 35, none, .mv (.t 34)⟩, ⟨some 36, some (35, false), .load (.t 5) (some 5)⟩, ⟨some 37, some (35, false), .call 12 [(.t 36)]⟩, ⟨some 38, some (35, false), .load (.t 5) (some 5)⟩, ⟨some 39, some (35, false), .call 10 [(.t 38)]⟩, ⟨some 40, some (35, false), .bin true .neq (.t 37) (.t 39)⟩, ⟨some 41, none, .pick (.t 35) (.k (.c (.bool true))) (.t 40)⟩, ⟨some 42, none, .mv (.t 41)⟩, ⟨some 43, some (42, false), .mv (.t 8)⟩, ⟨some 44, some (42, false), .load (.t 5) (some 5)⟩, ⟨some 45, some (42, false), .call 10 [(.t 44)]⟩, ⟨some 46, some (42, false), .mv (.t 45)⟩, ⟨some 47, some (46, true), .mv (.t 6)⟩, ⟨some 48, some (46, true), .len (.t 47) true⟩, ⟨some 49, some (46, true), .bin false .leq (.t 48) (.k (.c (.int .i64 2500)))⟩, ⟨some 50, some (42, false), .pick (.t 46) (.t 49) (.k (.c (.bool false)))⟩, ⟨some 51, some (42, false), .bin true .neq (.t 43) (.t 50)⟩, ⟨some 52, none, .pick (.t 42) (.k (.c (.bool true))) (.t 51)⟩, ⟨some 53, none, .mv (.t 52)⟩, ⟨some 54, some (53, false), .mv (.t 8)⟩, ⟨some 55, some (53, false), .mv (.t 54)⟩, ⟨some 56, some (55, true), .load (.t 7) (some 5)⟩, ⟨some 57, some (55, true), .load (.t 5) (some 5)⟩, ⟨some 58, some (55, true), .call 13 [(.t 56), (.t 57)]⟩, ⟨some 59, some (55, true), .not (.t 58)⟩, ⟨some 60, some (53, false), .pick (.t 55) (.t 59) (.k (.c (.bool false)))⟩, ⟨some 61, none, .pick (.t 53) (.k (.c (.bool true))) (.t 60)⟩] (some 27) [1, 61]) (.cond (.t 61) (.seq (.reg [⟨some 4, none, .mv (.k (.c (.bool false)))⟩] none [4]) .ret) .skip)) (.seq (.reg [⟨some 62, none, .mv (.t 1)⟩, ⟨some 63, none, .callr 18 [(.t 62)]⟩, ⟨some 9, none, .mv (.t 63)⟩] none [9]) (.seq (.reg [⟨some 65, none, .mv (.t 9)⟩, ⟨some 66, none, .call 11 [(.t 65)]⟩, ⟨some 64, none, .mv (.t 66)⟩, ⟨some 67, none, .ext (.t 64) 0⟩, ⟨some 68, none, .ext (.t 64) 1⟩, ⟨some 10, none, .alloc [(.c (.int .i64 0)), (.c (.int .i64 0)), (.c (.str ⟨#[]⟩)), (.z 1), (.z 5)]⟩, ⟨none, none, .st (.t 10) (.t 67) (some 5)⟩, ⟨some 11, none, .mv (.t 68)⟩] none [9, 10, 11]) (.seq (.reg [⟨some 70, none, .mv (.t 9)⟩, ⟨some 71, none, .call 14 [(.t 70)]⟩, ⟨some 69, none, .mv (.t 71)⟩, ⟨some 72, none, .ext (.t 69) 0⟩, ⟨some 73, none, .ext (.t 69) 1⟩, ⟨some 12, none, .alloc [(.c (.int .i64 0)), (.c (.int .i64 0)), (.c (.str ⟨#[]⟩)), (.z 1), (.z 5)]⟩, ⟨none, none, .st (.t 12) (.t 72) (some 5)⟩, ⟨some 13, none, .mv (.t 73)⟩] none [9, 10, 11, 13]) (.seq (.reg [⟨some 74, none, .mv (.t 11)⟩, ⟨some 75, none, .mv (.t 13)⟩, ⟨some 76, none, .bin true .eql (.t 74) (.t 75)⟩, ⟨some 77, none, .mv (.t 76)⟩, ⟨some 78, some (77, true), .mv (.t 11)⟩, ⟨some 79, some (77, true), .not (.t 78)⟩, ⟨some 80, some (77, true), .mv (.t 79)⟩, ⟨some 81, some (80, false), .load (.t 10) (some 5)⟩, ⟨some 82, some (80, false), .call 8 [(.t 81)]⟩, ⟨some 83, some (80, false), .mv (.t 9)⟩, ⟨some 84, some (80, false), .bin false .eql (.t 82) (.t 83)⟩, ⟨some 85, some (80, false), .mv (.t 84)⟩, ⟨some 86, some (85, true), .load (.t 10) (some 5)⟩, ⟨some 87, some (85, true), .call 12 [(.t 86)]⟩, ⟨some 88, some (80, false), .pick (.t 85) (.t 87) (.k (.c (.bool false)))⟩, ⟨some 89, some (77, true), .pick (.t 80) (.k (.c (.bool true))) (.t 88)⟩, ⟨some 90, none, .pick (.t 77) (.t 89) (.k (.c (.bool false)))⟩, ⟨some 4, none, .mv (.t 90)⟩] none [4]) .ret))))))))))
theorem chk_lawVal : chkX Tryd.prog 91 (Tryd.f5.body.getD .skip) x_lawVal = true := by kernel_rfl
theorem rs_lawVal : okRs Tryd.prog Tryd.f5.results.toList [.tmp 4] = true := by kernel_rfl
def spDVT  : Spec := Spec.ofR (ι := (List Int)) (κ := Int × Int × ByteArray × (List ByteArray) × (List T)) [false] (fun i => [.d (.one (.row 1 (ints .u8 i)))]) (fun i => (∀ b ∈ i, 0 <= b /\ b <= 255) /\ lenB 140737488355328 i.length) (fun i k => drW 16000 (.mk k.1 k.2.1 k.2.2.1 k.2.2.2.1 k.2.2.2.2)) (fun i k => [.d (.agg (T.mk k.1 k.2.1 k.2.2.1 k.2.2.2.1 k.2.2.2.2).enc)]) (fun i k => [.gone])
theorem spDVT_inj : ∀ i j : (List Int), (fun (i : (List Int)) => ([.d (.one (.row 1 (ints .u8 i)))] : List AV)) i = (fun (i : (List Int)) => ([.d (.one (.row 1 (ints .u8 i)))] : List AV)) j -> i = j := by
 intro bs bs' h
 simpa [strs_eq, T.enc_eq, encL_eq, F.enc_eq, encF_eq, Tk.enc_eq, encTk_eq, Gn.enc_eq, ints_eq] using h
theorem spDVT_md  : (spDVT).md = [false] := rfl
theorem spDVT_pre  (bs : List Int) : (spDVT).pre [.d (.one (.row 1 (ints .u8 bs)))] = ((∀ b ∈ bs, 0 <= b /\ b <= 255) /\ lenB 140737488355328 bs.length) := Spec.ofR_pre spDVT_inj bs
theorem spDVT_all  (bs : List Int) (F : List AV -> List AV -> Prop) : (spDVT).all [.d (.one (.row 1 (ints .u8 bs)))] F = (∀ (k : Int) (n : Int) (s : ByteArray) (ks : List ByteArray) (l : List T), (drW 16000 (.mk k n s ks l)) -> F [.d (.agg (T.mk k n s ks l).enc)] [.gone]) := by
 refine (Spec.ofR_all spDVT_inj bs F).trans (propext ⟨fun h k n s ks l hr => h (k, n, s, ks, l) hr, fun h k hr => ?_⟩)
 exact h k.1 k.2.1 k.2.2.1 k.2.2.2.1 k.2.2.2.2 hr
theorem DrawValText_sound : Sound Tryd.prog 7 spDVT := by
 refine sound_famR (GOK.cons (l := [(30, spBent)]) call_l11Open l11Open_sound (GOK.cons call_l1Bent l1Bent_sound GOK.nil)) Tryd.func7 (c := Tryd.f7.body.getD .skip) rfl (n := 6) rfl chk_DrawValText rs_DrawValText (fun _ => by simp) ?_
 ·rintro bs ⟨hb, h1⟩
  have hy := byt_take hb
  simp only [x_DrawValText, rg, go_sem, seval, Prod.fst, T.enc_len, spOpen_md, spOpen_pre, spOpen_alts, spOpen_res, spOpen_out, spBent_md, spBent_pre, spBent_ne, ↓spBent_all, spBent_all]
  repeat' (first | with_reducible assumption | with_reducible refine And.intro ?_ ?_ | intro _)
  all_goals first | omega | skip
  rename_i k n s ks l q hd
  exact ⟨(k, n, s, ks, l), hd.1.mono (by decide), rfl⟩
def spDVR  : Spec := Spec.ofR (ι := (List Int)) (κ := ByteArray) [false] (fun i => [.d (.one (.row 1 (ints .u8 i)))]) (fun i => (∀ b ∈ i, 0 <= b /\ b <= 255) /\ lenB 140737488355328 i.length) (fun i k => (k.size : Int) <= 10000) (fun i k => [.d (.one (.str k))]) (fun i k => [.gone])
theorem spDVR_inj : ∀ i j : (List Int), (fun (i : (List Int)) => ([.d (.one (.row 1 (ints .u8 i)))] : List AV)) i = (fun (i : (List Int)) => ([.d (.one (.row 1 (ints .u8 i)))] : List AV)) j -> i = j := by
 intro bs bs' h
 simpa [strs_eq, T.enc_eq, encL_eq, F.enc_eq, encF_eq, Tk.enc_eq, encTk_eq, Gn.enc_eq, ints_eq] using h
theorem spDVR_md  : (spDVR).md = [false] := rfl
theorem spDVR_pre  (bs : List Int) : (spDVR).pre [.d (.one (.row 1 (ints .u8 bs)))] = ((∀ b ∈ bs, 0 <= b /\ b <= 255) /\ lenB 140737488355328 bs.length) := Spec.ofR_pre spDVR_inj bs
theorem spDVR_ne0  (bs : List Int) : (spDVR).ne [.d (.one (.row 1 (ints .u8 bs)))] = (∃ k : ByteArray, (k.size : Int) <= 10000) := Spec.ofR_ne spDVR_inj bs
theorem spDVR_all  (bs : List Int) (F : List AV -> List AV -> Prop) : (spDVR).all [.d (.one (.row 1 (ints .u8 bs)))] F = (∀ (s : ByteArray), ((s.size : Int) <= 10000) -> F [.d (.one (.str s))] [.gone]) := by
 refine (Spec.ofR_all spDVR_inj bs F).trans (propext ⟨fun h s hr => h s hr, fun h k hr => ?_⟩)
 exact h k hr
theorem strs7 (a b c d e f g : ByteArray) : C.row 1 [[C.str a], [C.str b], [C.str c], [C.str d], [C.str e], [C.str f], [C.str g]] = C.row 1 (strs [a, b, c, d, e, f, g]) := rfl
theorem drW_facts {m : Int} {t : T} (h : drW m t) (hm : m <= 1048577) : t.fit 140737488355328 /\ sizeT t <= 1048577 := ⟨h.fit, by have := h.2; omega⟩
set_option maxHeartbeats 1000000 in
theorem DrawValRead_sound : Sound Tryd.prog 18 spDVR := by
 refine sound_famR (GOK.cons (l := [(30, spBent), (9, spValText), (48, spPick), (49, spDof)]) call_l11Open l11Open_sound (GOK.cons call_l1Bent l1Bent_sound (GOK.cons call_ValText valText_sound (GOK.cons (l := [(49, spDof)]) call_pick pick_sound (GOK.cons call_dof dof_sound GOK.nil))))) Tryd.func18 (c := Tryd.f18.body.getD .skip) rfl (n := 38) rfl chk_DrawValRead rs_DrawValRead (fun _ => by simp) ?_
 ·rintro bs ⟨hb, h1⟩
  have hy := byt_take hb
  have u7 : ∀ x : ByteArray, x ∈ [(⟨#[]⟩ : ByteArray), ⟨#[48]⟩, ⟨#[44]⟩, ⟨#[91, 93]⟩, ⟨#[39]⟩, ⟨#[97, 58, 49, 44]⟩, ⟨#[125]⟩] \/ False -> x.size <= 4 := fun x hx => by
   simp only [List.mem_cons, List.not_mem_nil, or_false] at hx
   rcases hx with rfl | rfl | rfl | rfl | rfl | rfl | rfl <;> decide
  simp only [x_DrawValRead, rg, go_sem, seval, Prod.fst, T.enc_len, spOpen_md, spOpen_pre, spOpen_alts, spOpen_res, spOpen_out, spBent_md, spBent_pre, spBent_ne, ↓spBent_all, spBent_all]
  repeat' (first | with_reducible assumption | with_reducible refine And.intro ?_ ?_ | intro _)
  all_goals first | omega | skip
  rename_i k n s ks l q hd
  generalize hT : T.mk k n s ks l = t at *
  have hv := valText_size t
  have hf := drW_facts hd.1 (by decide)
  have hq := hd.2
  by_cases c0 : (valText t).size = 0
  ·have a0 : (((valText t).size : Int) = 0) = True := eq_true (by omega)
   simp only [rg, go_sem, seval, Prod.fst, T.enc_len, a0, spValText_md, spValText_pre, spValText_alts, spValText_res, spValText_out, spPick_md, spPick_pre, spPick_ne, ↓spPick_all, spPick_all]
   repeat' (first | with_reducible assumption | with_reducible refine And.intro ?_ ?_ | intro _)
   all_goals first | omega | exact hf.1 | exact hf.2 | skip
   exact ⟨_, by omega, rfl⟩
  ·have a0 : (((valText t).size : Int) = 0) = False := eq_false (by omega)
   simp only [rg, go_sem, seval, Prod.fst, T.enc_len, a0, strs7, spValText_md, spValText_pre, spValText_alts, spValText_res, spValText_out, spPick_md, spPick_pre, spPick_ne, ↓spPick_all, spPick_all, spDof_md, spDof_pre, spDof_ne, ↓spDof_all, spDof_all]
   repeat' (first | with_reducible assumption | with_reducible refine And.intro ?_ ?_ | intro _)
   all_goals first | omega | exact hf.1 | exact hf.2 | skip
   ·exact ⟨_, by omega, rfl⟩
   ·rename_i x hx
    have e1 := u7 x hx
    simp only [ByteArray.size_extract]
    omega
   ·rename_i x hx _ _
    have e1 := u7 x hx
    simp only [ByteArray.size_extract]
    omega
   ·rename_i x hx _ _ _
    have e1 := u7 x hx
    exact ⟨_, by simp only [ByteArray.size_append, ByteArray.size_extract]; omega, rfl⟩
theorem val_same {s : ByteArray} {t : T} (h : okT t) (e : s = textT t) : valOk s /\ valT s = t := valT_of h e.symm
noncomputable def spLawV  : Spec := Spec.of (ι := (List Int) × (List Int)) [false, false] (fun i => [.d (.one (.row 1 (ints .u8 i.1))), .d (.one (.row 1 (ints .u8 i.2)))]) (fun i => bytes i.1 /\ bytes i.2) (fun _ => [.d (.one (.bool true))]) (fun _ => [.gone, .gone])
theorem spLawV_inj : ∀ i j : (List Int) × (List Int), (fun (i : (List Int) × (List Int)) => ([.d (.one (.row 1 (ints .u8 i.1))), .d (.one (.row 1 (ints .u8 i.2)))] : List AV)) i = (fun (i : (List Int) × (List Int)) => ([.d (.one (.row 1 (ints .u8 i.1))), .d (.one (.row 1 (ints .u8 i.2)))] : List AV)) j -> i = j := by
 rintro ⟨a, b⟩ ⟨a', b'⟩ h
 simp only [Prod.mk.injEq]
 simpa [strs_eq, T.enc_eq, encL_eq, F.enc_eq, encF_eq, Tk.enc_eq, encTk_eq, Gn.enc_eq, ints_eq] using h
theorem spLawV_pre  (a : List Int) (b : List Int) : (spLawV).pre [.d (.one (.row 1 (ints .u8 a))), .d (.one (.row 1 (ints .u8 b)))] = (bytes a /\ bytes b) := Spec.of_pre' spLawV_inj (a, b)
theorem spLawV_res  (a : List Int) (b : List Int) : (spLawV).res [.d (.one (.row 1 (ints .u8 a))), .d (.one (.row 1 (ints .u8 b)))] = [.d (.one (.bool true))] := Spec.of_res spLawV_inj (a, b)
set_option maxHeartbeats 4000000 in
theorem lawVal_sound (hE : errK) (hK : tabK) : Sound Tryd.prog 5 spLawV := by
 refine sound_fam (GOK.cons (l := [(8, spValText), (9, spValText), (11, spRead), (14, spRead), (12, spValOkI), (10, spOkT), (13, spSameIV), (18, spDVR)]) call_DrawValText DrawValText_sound (GOK.cons call_ValTextI (valTextI_sound hK) (GOK.cons call_ValText valText_sound (GOK.cons call_ValReadI (readI_sound hE hK) (GOK.cons call_ValRead read_sound (GOK.cons call_ValOkI valOkI_sound (GOK.cons call_ValOk sOkT_sound (GOK.cons call_ValSameI sameIV_sound (GOK.cons call_DrawValRead DrawValRead_sound GOK.nil))))))))) Tryd.func5 (c := Tryd.f5.body.getD .skip) rfl (n := 91) rfl chk_lawVal rs_lawVal (fun _ => by simp) ?_ ?_
 ·exact spLawV_inj
 ·rintro ⟨a, b⟩ ⟨h1, h2⟩
  simp only [bytes, lenB] at h1 h2
  simp only [x_lawVal, rg, go_sem, seval, Prod.fst, ints_len, T.enc_len, spDVT_md, spDVT_pre, ↓spDVT_all, spDVT_all, spDVR_md, spDVR_pre, ↓spDVR_all, spDVR_all]
  repeat' (first | with_reducible assumption | with_reducible refine And.intro ?_ ?_ | intro _)
  all_goals first | omega | skip
  ·exact (h1.1 _ (by assumption)).1
  ·exact (h1.1 _ (by assumption)).2
  ·unfold lenB; omega
  rename_i k n s ks l hd
  generalize hT : T.mk k n s ks l = t at *
  have hv := valText_size t
  have hf := drW_facts hd (by decide)
  obtain ⟨f1, f2⟩ := hf
  have f3 := T.enc_len t
  have oI : ((okI t 1 60).1 = true) = okT t := propext (okI_iff t)
  have oU : ∀ u, ((okI u 1 60).1 = true) = okT u := fun u => propext (okI_iff u)
  by_cases c0 : okT t
  ·have e0 : okT t = True := eq_true c0
   have e1 : valText t = textT t := by unfold valText; rw [if_pos c0]
   obtain ⟨g1, g2⟩ := val_same c0 e1
   have e2 : valOk (valText t) = True := eq_true g1
   have e3 : (((valText t).size : Int) <= 2500) = True := eq_true (by omega)
   simp only [rg, go_sem, seval, Prod.fst, f3, ints_len, oI, e0, e2, e3, g2, spValText_md, spValText_pre, spValText_alts, spValText_res, spValText_out, spRead_md, spRead_pre, spRead_alts, spRead_res, spRead_out, spValOkI_md, spValOkI_pre, spValOkI_alts, spValOkI_res, spValOkI_out, spOkT_md, spOkT_pre, spOkT_alts, spOkT_res, spOkT_out, spSameIV_md, spSameIV_pre, spSameIV_alts, spSameIV_res, spSameIV_out, spDVR_md, spDVR_pre, spDVR_ne0, ↓spDVR_all, spDVR_all]
   repeat' (first | with_reducible assumption | with_reducible refine And.intro ?_ ?_ | intro _)
   all_goals first | omega | (unfold lenB; omega) | exact f1 | exact (h2.1 _ (by assumption)).1 | exact (h2.1 _ (by assumption)).2 | skip
   rename_i x hx _
   by_cases c1 : valOk x
   ·obtain ⟨g3, g4⟩ := valT_ok c1
    have e4 : valOk x = True := eq_true c1
    have e5 : okT (valT x) = True := eq_true g3
    have e6 : valText (valT x) = x := by unfold valText; rw [if_pos g3]; exact g4
    have e7 := T.enc_len (valT x)
    have e8 := oU (valT x)
    have f4 : (valT x).fit 140737488355328 := T.fit_mono (by decide) (okT_fit g3)
    have f5 := okT_size g3
    simp only [rg, go_sem, seval, Prod.fst, e4, e5, e6, e7, e8, spValText_md, spValText_pre, spValText_alts, spValText_res, spValText_out, spRead_md, spRead_pre, spRead_alts, spRead_res, spRead_out, spValOkI_md, spValOkI_pre, spValOkI_alts, spValOkI_res, spValOkI_out]
    repeat' (first | with_reducible assumption | with_reducible refine And.intro ?_ ?_ | intro _)
    all_goals first | omega | (unfold lenB; omega) | exact f4 | skip
   ·have e4 : valOk x = False := eq_false c1
    have e7 := T.enc_len (valT x)
    simp only [rg, go_sem, seval, Prod.fst, e4, e7, spValText_md, spValText_pre, spValText_alts, spValText_res, spValText_out, spRead_md, spRead_pre, spRead_alts, spRead_res, spRead_out, spValOkI_md, spValOkI_pre, spValOkI_alts, spValOkI_res, spValOkI_out]
    repeat' (first | with_reducible assumption | with_reducible refine And.intro ?_ ?_ | intro _)
    all_goals first | omega | (unfold lenB; omega) | skip
  ·have e0 : okT t = False := eq_false c0
   have e1 : valText t = ⟨#[]⟩ := by unfold valText; rw [if_neg c0]
   have g1 : ¬ valOk (⟨#[]⟩ : ByteArray) := fun h => (valOk_size h).1 rfl
   have e2 : valOk (⟨#[]⟩ : ByteArray) = False := eq_false g1
   have e9 := T.enc_len (valT ⟨#[]⟩)
   simp only [rg, go_sem, seval, Prod.fst, f3, ints_len, oI, e0, e1, e2, e9, spValText_md, spValText_pre, spValText_alts, spValText_res, spValText_out, spRead_md, spRead_pre, spRead_alts, spRead_res, spRead_out, spValOkI_md, spValOkI_pre, spValOkI_alts, spValOkI_res, spValOkI_out, spOkT_md, spOkT_pre, spOkT_alts, spOkT_res, spOkT_out, spSameIV_md, spSameIV_pre, spSameIV_alts, spSameIV_res, spSameIV_out, spDVR_md, spDVR_pre, spDVR_ne0, ↓spDVR_all, spDVR_all]
   repeat' (first | with_reducible assumption | with_reducible refine And.intro ?_ ?_ | intro _)
   all_goals first | omega | (unfold lenB; omega) | exact f1 | exact (h2.1 _ (by assumption)).1 | exact (h2.1 _ (by assumption)).2 | skip
   ·show lenB 140737488355328 0; unfold lenB; omega
   rename_i x hx _
   by_cases c1 : valOk x
   ·obtain ⟨g3, g4⟩ := valT_ok c1
    have e4 : valOk x = True := eq_true c1
    have e5 : okT (valT x) = True := eq_true g3
    have e6 : valText (valT x) = x := by unfold valText; rw [if_pos g3]; exact g4
    have e7 := T.enc_len (valT x)
    have e8 := oU (valT x)
    have f4 : (valT x).fit 140737488355328 := T.fit_mono (by decide) (okT_fit g3)
    have f5 := okT_size g3
    simp only [rg, go_sem, seval, Prod.fst, e4, e5, e6, e7, e8, spValText_md, spValText_pre, spValText_alts, spValText_res, spValText_out, spRead_md, spRead_pre, spRead_alts, spRead_res, spRead_out, spValOkI_md, spValOkI_pre, spValOkI_alts, spValOkI_res, spValOkI_out]
    repeat' (first | with_reducible assumption | with_reducible refine And.intro ?_ ?_ | intro _)
    all_goals first | omega | (unfold lenB; omega) | exact f4 | skip
   ·have e4 : valOk x = False := eq_false c1
    have e7 := T.enc_len (valT x)
    simp only [rg, go_sem, seval, Prod.fst, e4, e7, spValText_md, spValText_pre, spValText_alts, spValText_res, spValText_out, spRead_md, spRead_pre, spRead_alts, spRead_res, spRead_out, spValOkI_md, spValOkI_pre, spValOkI_alts, spValOkI_res, spValOkI_out]
    repeat' (first | with_reducible assumption | with_reducible refine And.intro ?_ ?_ | intro _)
    all_goals first | omega | (unfold lenB; omega) | skip
end Go.Proofs.Pw
namespace Go.Proofs.Pw
open Go.RowKit
def Old (w : World) (g : Nat) : Prop := g < w.heap.size
theorem cell_lt {w : World} {a : Addr} {v : Value} (h : w.cell? a = some v) : a.block < w.heap.size := by
 unfold World.cell? at h
 rcases Nat.lt_or_ge a.block w.heap.size with hlt | hge
 ·exact hlt
 ·rw [Array.getElem?_eq_none hge] at h; simp at h
theorem rep_ints {k : IntKind} {w : World} {a : Option Addr} {len cap : Nat} {zs : List Int}
 (h : (a = none /\ len = 0 /\ cap = 0 /\ zs = []) \/ ∃ x, a = some x /\ len <= cap /\ cap <= maxLen /\ zs.length = cap /\ (∀ i, i < zs.length -> w.cell? (x.add i) = some (.int k (zs.getD i 0))) /\ ∀ n ∈ zs, (Lit.int k n).wf = true) :
 Rep w (Old w) (.row 1 (ints k (zs.take len))) (.slice a len cap) /\ (zs.take len).length = len /\ ∀ n ∈ zs.take len, (Lit.int k n).wf = true := by
 rcases h with ⟨rfl, rfl, rfl, rfl⟩ | ⟨x, rfl, hl, hm, hz, hc, hw⟩
 ·exact ⟨.nil .., rfl, by simp⟩
 ·have hlen : (zs.take len).length = len := by simp; omega
  refine ⟨?_, hlen, fun n hn => hw n (List.mem_of_mem_take hn)⟩
  rcases Nat.eq_zero_or_pos len with h0 | h0
  ·subst h0; exact .nil ..
  ·have key : ∀ (i j : Nat) e c, (ints k (zs.take len))[i]? = some e -> e[j]? = some c -> j = 0 /\ i < zs.length /\ c = .int k (zs.getD i 0) := fun i j e c he hj => by
    simp only [ints, List.getElem?_map, Option.map_eq_some_iff] at he
    obtain ⟨n, hn, rfl⟩ := he
    rw [List.getElem?_take] at hn
    split at hn
    ·cases j with
     | zero => simp at hj; subst hj; exact ⟨rfl, (List.getElem?_eq_some_iff.1 hn).1, by simp [hn]⟩
     | succ j => simp at hj
    ·cases hn
   have hel : (ints k (zs.take len)).length = len := by rw [ints_len, hlen]
   have := Rep.row (w := w) (S := Old w) 1 (ints k (zs.take len)) x cap (fun i => .int k (zs.getD i 0)) (by omega) (by
    have := cell_lt (hc 0 (by omega)); rwa [add_block] at this) (fun i e he => by
     simp only [ints, List.getElem?_map, Option.map_eq_some_iff] at he
     obtain ⟨n, _, rfl⟩ := he; rfl) (fun i j e c he hj => by
     obtain ⟨rfl, h1, _⟩ := key i j e c he hj
     simpa using hc i h1) (fun i j e c he hj => by
     obtain ⟨rfl, h1, rfl⟩ := key i j e c he hj
     simpa using Rep.int k (zs.getD i 0))
   rwa [hel] at this
theorem law_calls [Globs] {P : Program} {f : FuncId} {sp : Spec} (h : Sound P f sp) {args : List AV} (hp : sp.pre args) (ha : sp.alts = none) (hr : sp.res args = [.d (.one (.bool true))]) {W : World} {vs : List Value} (hG : Gl W (Old W))
 (hA : All3 (RepA W (Old W)) args vs (args.map fun _ => fun _ => False)) : Calls P f vs.toArray W fun e w' => e = .returned (.bool true) /\ Below W.heap.size W w' := by
 refine (h args hp W (Old W) vs _ hG (fun _ h => h) (fun g hg => absurd hg Any_false) Apart_false hA).mono ?_
 rintro e w' ⟨r, o, hro, v, S', rfs, fps', rfl, g1, _, _, _, _, _, g8⟩
 obtain ⟨rfl, rfl⟩ := (Spec.may_none ha).1 hro
 rw [hr] at g1
 refine ⟨?_, ⟨g8.os, g8.tape, g8.output, g8.size, fun k hk => g8.block k hk Any_false⟩⟩
 cases rfs with
 | nil => exact absurd rfl g1.1
 | cons fp r => cases r with
   | nil =>
     obtain ⟨g1, _⟩ := g1
     cases g1; rfl
   | cons _ _ => exact absurd rfl g1.1
end Go.Proofs.Pw
namespace Go.Proofs.Pw
open Go.RowKit Go.ChangeShapes Go.WideShapes
section
variable {H : Type} {enc : TypeId × Value -> H} {P : Program} {W W' : World} {spare : Nat -> Bool} {held : Bool}
theorem trodAll_below (hl : laidOutB P = true) (hb : Below W.heap.size W W') : ∀ {ts : List TypeId} {vs : List Value} {ds : List (DataW H)} {p : List MemPlace}, DataW.TrodAll enc P W 0 (fun _ => true) true ts vs ds p ->
 (ts.all fun t => P.readableRec t && decide (t < P.types.size)) = true -> (∀ x ∈ p, x.block < W.heap.size) -> DataW.TrodAll enc P W' 0 (fun b => decide (b < W.heap.size)) true ts vs ds p := by
 intro ts
 induction ts with
 | nil =>
   intro vs ds p h _ _
   cases vs <;> cases ds <;> first | exact h | exact h.elim
 | cons t ts ih =>
   intro vs ds p h hr hp
   obtain ⟨v, vs', d, ds', p1, q, rfl, rfl, rfl, h1, h2⟩ := trodAll_cons h
   simp only [List.all_cons, Bool.and_eq_true, decide_eq_true_eq] at hr
   exact ⟨p1, q, Below.trod hl hr.1.1 hr.1.2 h1 hb (fun x hx => hp x (by simp [hx])), ih h2 hr.2 (fun x hx => hp x (by simp [hx])), rfl⟩
theorem trodVars_below (hl : laidOutB P = true) (hb : Below W.heap.size W W') : ∀ {ns : List String} {gs : List (DataW H)} {p : List MemPlace}, DataW.TrodVars enc P W (fun _ => true) ns gs p ->
 (ns.all fun n => match P.globalNamed n with | some g => (match P.globals[g]? with | some x => P.readableRec x.type && decide (x.type < P.types.size) | none => false) | none => false) = true -> (∀ x ∈ p, x.block < W.heap.size) ->
 DataW.TrodVars enc P W' (fun b => decide (b < W.heap.size)) ns gs p := by
 intro ns
 induction ns with
 | nil =>
   intro gs p h _ _
   cases gs <;> first | exact h | exact h.elim
 | cons n ns ih =>
   intro gs p h hr hp
   cases gs with
   | nil => exact h.elim
   | cons d gs =>
     obtain ⟨g, t, cs, fuel, p1, q, hg, ht, hv, hd, h2, rfl⟩ := h
     simp only [List.all_cons, Bool.and_eq_true, hg] at hr
     obtain ⟨hr2, hr3⟩ := hr
     have hr1 : g < W.heap.size := by
      unfold World.var? at hv
      simp only [hg, Option.bind_some] at hv
      split at hv
      ·rename_i h1; exact (Array.getElem?_eq_some_iff.1 h1).1
      ·cases hv
     simp only [Option.map_eq_some_iff] at ht
     obtain ⟨x, hx, rfl⟩ := ht
     simp only [hx, Bool.and_eq_true, decide_eq_true_eq] at hr2
     have hk : DataW.Trod enc P W 0 (fun _ => true) true x.type (.agg cs) d p1 := ⟨fuel, hd⟩
     obtain ⟨fuel', hd'⟩ := Below.trod hl hr2.1 hr2.2 hk hb (fun y hy => hp y (by simp [hy]))
     exact ⟨g, x.type, cs, fuel', p1, q, hg, by rw [hx]; rfl, var?_below hb hg hr1 hv, hd', ih h2 hr3 (fun y hy => hp y (by simp [hy])), rfl⟩
theorem law_post {f : Func} {s : ChangeSpec} {args : Array Value} {ds gs : List (DataW H)} {before : List MemPlace} {rt : TypeId} (hl : laidOutB P = true)
 (hW : DataW.Whole enc P f.params.toList s.vars false W args.toList ds gs before) (hrt : f.resultTypes.toList = [rt]) (hrb : P.underlying rt = some .bool) (hsz : f.resultTypes.size = 1)
 (hfn : s.fn H (ds ++ gs) = { results := [.lit (.bool true)], args := ds, vars := gs })
 (hp : (f.params.toList.all fun t => P.readableRec t && decide (t < P.types.size)) = true)
 (hv : (s.vars.all fun n => match P.globalNamed n with | some g => (match P.globals[g]? with | some x => P.readableRec x.type && decide (x.type < P.types.size) | none => false) | none => false) = true)
 (hb : Below W.heap.size W W') : s.post enc P f false true false false W args (.bool true) W' := by
 have hlt := hW.lt
 have hW' := hW
 obtain ⟨p, q, hA, hV, rfl, hfz, hnd⟩ := hW
 refine ⟨ds, gs, _, [], p, q, hW', ?_, ?_, ?_, hb.frame _, fun h => by cases h⟩
 ·rw [hfn, hrt, hsz]
  exact trodAll_mk1 (shut_bool hrb _)
 ·rw [hfn]; exact trodAll_below hl hb hA hp (fun x hx => hlt x (by simp [hx]))
 ·rw [hfn]; exact trodVars_below hl hb hV hv (fun x hx => hlt x (by simp [hx]))
end
end Go.Proofs.Pw
namespace Go.Proofs.Pw
open Go.RowKit Go.ChangeShapes Go.WideShapes
section
variable {H : Type} {enc : TypeId × Value -> H} {P : Program} {W : World}
theorem wf_u8 {n : Int} (h : (Lit.int .u8 n).wf = true) : 0 <= n /\ n <= 255 := by
 simp only [Lit.wf, Bool.and_eq_true, decide_eq_true_eq] at h
 simp only [IntKind.min, IntKind.max, IntKind.signed, IntKind.bits] at h
 simp at h; omega
theorem read_bytes {held : Bool} {r : Reach} {base : Nat} {ts : List TypeId} {ds : List (DataW H)} {j : Nat} {t e : TypeId} {v : Value} {d : DataW H} {p : List MemPlace} (hu : P.underlying t = some (.slice e)) (he : P.underlying e = some (.int .u8)) (hc : P.cellsOf e = 1) (hby : 0 < P.bytesOf e)
 (hval : Value.okWide P W r base t v) (h : DataW.Trod enc P W 0 (fun _ => true) held t v d p) (hz : (DataW.weightsEach P ts ds).all (· <= reachBytes) = true) (ht : ts[j]? = some t) (hd : ds[j]? = some d) :
 ∃ l : List Int, RepA W (Old W) (.d (.one (.row 1 (ints .u8 l)))) v (fun _ => False) /\ bytes l := by
 obtain ⟨a, len, cap, rfl⟩ := okWide_slice hu hval
 obtain ⟨fuel, h⟩ := h
 rcases open_ints hu he hc h with ⟨h1, h2⟩ | ⟨x, l, c, zs, hcs, _, hl, hm, hz', hx, hcell, hwz⟩
 ·simp only [Value.cells, List.cons.injEq, and_true] at h1
  cases h1
  refine ⟨[], ⟨.nil .., fun _ h => h⟩, by simp, by unfold lenB; simp⟩
 ·simp only [Value.cells, List.cons.injEq, and_true] at hcs
  cases hcs
  simp only [Prod.mk.injEq] at hx
  obtain ⟨rfl, rfl⟩ := hx
  obtain ⟨k1, k2, k3⟩ := rep_ints (k := .u8) (w := W) (a := some x) (len := len) (cap := cap) (zs := zs) (.inr ⟨x, rfl, hl, hm, by simpa using hz', hcell, hwz⟩)
  refine ⟨zs.take len, ⟨k1, fun _ h => h⟩, fun b hb => wf_u8 (k3 b hb), ?_⟩
  have k4 := sized_slice hz ht hd hu
  have k5 : (lits (H := H) .u8 (zs.take len)).length <= reachBytes := by
   refine Nat.le_trans (Nat.le_trans (Nat.le_add_right _ (lits (H := H) .u8 (zs.drop len)).length) ?_) k4
   exact Nat.le_mul_of_pos_right _ hby
  have := reachBytes_lt
  simp only [lits, List.length_map] at k5
  unfold lenB; omega
end
end Go.Proofs.Pw
namespace Go.Proofs.Pw
open Go.RowKit Go.ChangeShapes Go.WideShapes
end Go.Proofs.Pw
namespace Go.Proofs.Pw
open Go.RowKit Go.ChangeShapes Go.WideShapes
theorem laid_rest {P : Program} {W : World} {x : String × DataW Unit} {r : List (String × DataW Unit)} {ps : List MemPlace} (h : DataW.LaidVars P W (x :: r) ps) : ∃ ps', DataW.LaidVars P W r ps' := by
 obtain ⟨g', t', cs, fuel, p, q, hg', ht', hv, htr, hr, _⟩ := h
 exact ⟨q, hr⟩
theorem laid_tab {P : Program} {W : World} {nm : String} {d : DataW Unit} {ns : List Int} {r : List (String × DataW Unit)} {ps : List MemPlace} {g n : Nat} {t e : TypeId} {k : IntKind} (hg : P.globalNamed nm = some g) (ht : (P.globals[g]?).map (·.type) = some t)
 (hu : P.underlying t = some (.array n e)) (he : P.underlying e = some (.int k)) (hc : P.cellsOf e = 1) (hct : P.cellsOf t = n) (hd : d = Lib.tabData k ns) (h : DataW.LaidVars P W ((nm, d) :: r) ps) :
 Old W g /\ ∃ ty x, W.heap[g]? = some (.cells (ns.map fun z => Value.int k z).toArray ty x) := by
 obtain ⟨g', t', cs, fuel, p, q, hg', ht', hv, htr, hr, _⟩ := h
 obtain rfl := Option.some.inj (hg.symm.trans hg')
 obtain rfl := Option.some.inj (ht.symm.trans ht')
 subst hd
 have hcs := Lib.cells_of_tab hu he hc hct htr
 have hcs' : cs = (ns.map fun z => Value.int k z).toArray := by rw [<- hcs]
 unfold World.var? at hv
 rw [hg] at hv
 simp only [Option.bind_some] at hv
 split at hv
 ·rename_i cs' ty x hh
  cases hv
  refine ⟨?_, ty, x, by rw [hh, hcs']⟩
  rcases Nat.lt_or_ge g W.heap.size with h | h
  ·exact h
  ·rw [Array.getElem?_eq_none h] at hh; cases hh
 ·cases hv
end Go.Proofs.Pw
namespace Go.Proofs.Pw
open Go.RowKit Go.ChangeShapes Go.WideShapes
theorem laid_ifc {P : Program} {W : World} {nm name : String} {d : DataW Unit} {r : List (String × DataW Unit)} {ps : List MemPlace} {g : Nat} {t : TypeId} {ms : Array (String × TypeId)} (hg : P.globalNamed nm = some g) (ht : (P.globals[g]?).map (·.type) = some t)
 (hu : P.underlying t = some (.interface ms)) (h : DataW.LaidVars P W ((nm, .iface name d) :: r) ps) :
 Old W g /\ ∃ u, W.cell? ⟨g, 0, none⟩ = some u /\ Rep W (Old W) .ifc u := by
 obtain ⟨g', t', cs, fuel, p, q, hg', ht', hv, htr, hr, _⟩ := h
 obtain rfl := Option.some.inj (hg.symm.trans hg')
 obtain rfl := Option.some.inj (ht.symm.trans ht')
 obtain ⟨_, u, v, hcs, _, _⟩ := iface_of_trod hu htr
 have hcc := World.var?_cell hg hv 0
 rw [Array.eq_one_of_toList hcs] at hcc
 have hcc' : W.cell? ⟨g, 0, none⟩ = some (.iface u v) := by simpa using hcc
 exact ⟨cell_lt hcc', _, hcc', .ifc _ _⟩
end Go.Proofs.Pw
