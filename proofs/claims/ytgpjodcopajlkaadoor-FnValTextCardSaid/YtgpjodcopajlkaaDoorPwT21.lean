/- FnVal: the law, run. -/
import Derived.Test.YtgpjodcopajlkaaDoorPwT20
import Derived.Test.YtgpjodcopajlkaaDoorPwT19
import Derived.Test.YtgpjodcopajlkaaDoorPwT18
import Derived.Test.YtgpjodcopajlkaaDoorPwT9
import Derived.ProofKit
import Derived.ChangeOld
import Derived.Below
import Derived.Carry
import Derived.SizedLaws
import Derived.ChangeArms
import Derived.ChangeVars
import Derived.WalkSmall
import Derived.ChangeSlices
import Derived.Test.YtgpjodcopajlkaaDoorPwT10
import Derived.LaidHandle
import Derived.Lib.LaidTab
import Derived.LaidMore
import Derived.LaidLaws
set_option linter.unusedSimpArgs false
set_option linter.unusedVariables false
set_option linter.unusedSectionVars false
set_option maxRecDepth 20000
namespace Go.Proofs.Pw
variable [Globs]
def x_DrawValText : X := (.seq (.reg [⟨some 2, none, .alloc [(.c (.int .i64 0)), (.c (.int .i64 0)), (.c (.str ⟨#[]⟩)), (.z 1), (.z 5)]⟩] none [0, 2]) (.seq (.reg [⟨some 3, none, .mv (.t 0)⟩, ⟨some 4, none, .call 31 [(.t 3)]⟩, ⟨some 5, none, .callr 30 [(.t 4)]⟩, ⟨none, none, .st (.t 2) (.t 5) (some 5)⟩] none [2]) .ret))
theorem chk_DrawValText : chkX Tryd.prog 6 (Tryd.f7.body.getD .skip) x_DrawValText = true := by kernel_rfl
theorem rs_DrawValText : okRs Tryd.prog Tryd.f7.results.toList [.cell 2 (some 5)] = true := by kernel_rfl
theorem call_DrawValText : okCallee Tryd.prog 7 = true := by kernel_rfl
def spDVT  : Spec := Spec.ofR (ι := (List Int)) (κ := Int × Int × ByteArray × (List ByteArray) × (List T)) [false] (fun i => [.d (.one (.row 1 (ints .u8 i)))]) (fun i => (∀ b ∈ i, 0 <= b /\ b <= 255) /\ lenB 140737488355328 i.length) (fun i k => drW 16000 (.mk k.1 k.2.1 k.2.2.1 k.2.2.2.1 k.2.2.2.2)) (fun i k => [.d (.agg (T.mk k.1 k.2.1 k.2.2.1 k.2.2.2.1 k.2.2.2.2).enc)]) (fun i k => [.gone])
theorem spDVT_inj : ∀ i j : (List Int), (fun (i : (List Int)) => ([.d (.one (.row 1 (ints .u8 i)))] : List AV)) i = (fun (i : (List Int)) => ([.d (.one (.row 1 (ints .u8 i)))] : List AV)) j -> i = j := by
 intro bs bs' h
 simpa [strs_eq, T.enc_eq, encL_eq, F.enc_eq, encF_eq, Tk.enc_eq, encTk_eq, Gn.enc_eq, ints_eq] using h
theorem spDVT_md  : (spDVT).md = [false] := rfl
theorem spDVT_pre  (bs : List Int) : (spDVT).pre [.d (.one (.row 1 (ints .u8 bs)))] = ((∀ b ∈ bs, 0 <= b /\ b <= 255) /\ lenB 140737488355328 bs.length) := Spec.ofR_pre spDVT_inj bs
theorem spDVT_all  (bs : List Int) (F : List AV -> List AV -> Prop) : (spDVT).all [.d (.one (.row 1 (ints .u8 bs)))] F = (∀ (k : Int) (n : Int) (s : ByteArray) (ks : List ByteArray) (l : List T), (drW 16000 (.mk k n s ks l)) -> F [.d (.agg (T.mk k n s ks l).enc)] [.gone]) := by
 refine (Spec.ofR_all spDVT_inj bs F).trans (propext ⟨fun h k n s ks l hr => h (k, n, s, ks, l) hr, fun h k hr => ?_⟩)
 exact h k.1 k.2.1 k.2.2.1 k.2.2.2.1 k.2.2.2.2 hr
theorem DrawValText_sound : Sound Tryd.prog 7 spDVT := by
 refine sound_famR (GOK.cons (l := [(30, spBent)]) call_l11Open l11Open_sound (GOK.cons call_l1Bent l1Bent_sound GOK.nil)) Tryd.func7 (c := Tryd.f7.body.getD .skip) rfl (n := 6) rfl chk_DrawValText rs_DrawValText (fun _ => by simp) ?_
 ·rintro bs ⟨hb, h1⟩
  have hy := byt_take hb
  simp only [x_DrawValText, rg, go_sem, seval, Prod.fst, T.enc_len, spOpen_md, spOpen_pre, spOpen_alts, spOpen_res, spOpen_out, spBent_md, spBent_pre, spBent_ne, ↓spBent_all, spBent_all]
  repeat' (first | with_reducible assumption | with_reducible refine And.intro ?_ ?_ | intro _)
  all_goals first | omega | skip
  rename_i k n s ks l q hd
  exact ⟨(k, n, s, ks, l), hd.1.mono (by decide), rfl⟩
theorem drW_facts {m : Int} {t : T} (h : drW m t) (hm : m <= 1048577) : t.fit 140737488355328 /\ sizeT t <= 1048577 := ⟨h.fit, by have := h.2; omega⟩
end Go.Proofs.Pw
namespace Go.Proofs.Pw
variable [Globs]
def x_lawVT : X := (.seq (.reg [⟨some 4, none, .mv (.k (.c (.bool false)))⟩] none [0, 1]) (.seq (.seq (.reg [⟨some 17, none, .mv (.t 0)⟩, ⟨some 18, none, .len (.t 17) false⟩, ⟨some 19, none, .bin false .gtr (.t 18) (.k (.c (.int .i64 1048576)))⟩, ⟨some 20, none, .mv (.t 19)⟩, ⟨some 21, some (20, false), .mv (.t 1)⟩, ⟨some 22, some (20, false), .len (.t 21) false⟩, ⟨some 23, some (20, false), .bin false .gtr (.t 22) (.k (.c (.int .i64 1048576)))⟩, ⟨some 24, none, .pick (.t 20) (.k (.c (.bool true))) (.t 23)⟩] none [0, 1, 24]) (.cond (.t 24) (.seq (.reg [⟨some 4, none, .mv (.k (.c (.bool true)))⟩] none [4]) .ret) .skip)) (.seq (.reg [⟨some 25, none, .mv (.t 0)⟩, ⟨some 26, none, .callr 7 [(.t 25)]⟩, ⟨some 5, none, .alloc [(.c (.int .i64 0)), (.c (.int .i64 0)), (.c (.str ⟨#[]⟩)), (.z 1), (.z 5)]⟩, ⟨none, none, .st (.t 5) (.t 26) (some 5)⟩] none [1, 5]) (.seq (.reg [⟨some 27, none, .mv (.t 1)⟩, ⟨some 28, none, .callr 7 [(.t 27)]⟩, ⟨some 6, none, .alloc [(.c (.int .i64 0)), (.c (.int .i64 0)), (.c (.str ⟨#[]⟩)), (.z 1), (.z 5)]⟩, ⟨none, none, .st (.t 6) (.t 28) (some 5)⟩] none [5, 6]) (.seq (.reg [⟨some 29, none, .load (.t 5) (some 5)⟩, ⟨some 30, none, .call 8 [(.t 29)]⟩, ⟨some 7, none, .mv (.t 30)⟩] none [5, 6, 7]) (.seq (.seq (.reg [⟨some 31, none, .mv (.t 7)⟩, ⟨some 32, none, .load (.t 5) (some 5)⟩, ⟨some 33, none, .call 9 [(.t 32)]⟩, ⟨some 34, none, .bin false .neq (.t 31) (.t 33)⟩, ⟨some 35, none, .mv (.t 34)⟩, ⟨some 36, some (35, false), .load (.t 5) (some 5)⟩, ⟨some 37, some (35, false), .call 10 [(.t 36)]⟩, ⟨some 38, some (35, false), .not (.t 37)⟩, ⟨some 39, none, .pick (.t 35) (.k (.c (.bool true))) (.t 38)⟩, ⟨some 40, none, .mv (.t 39)⟩, ⟨some 41, some (40, false), .load (.t 6) (some 5)⟩, ⟨some 42, some (40, false), .call 10 [(.t 41)]⟩, ⟨some 43, some (40, false), .not (.t 42)⟩, ⟨some 44, none, .pick (.t 40) (.k (.c (.bool true))) (.t 43)⟩] none [5, 6, 7, 44]) (.cond (.t 44) (.seq (.reg [⟨some 45, none, .mv (.t 7)⟩, ⟨some 46, none, .load (.t 5) (some 5)⟩, ⟨some 47, none, .call 9 [(.t 46)]⟩, ⟨some 48, none, .bin false .eql (.t 45) (.t 47)⟩, ⟨some 4, none, .mv (.t 48)⟩] none [4]) .ret) .skip)) (.seq (.reg [⟨some 49, none, .load (.t 6) (some 5)⟩, ⟨some 50, none, .call 8 [(.t 49)]⟩, ⟨some 8, none, .mv (.t 50)⟩] none [5, 6, 7, 8]) (.seq (.reg [⟨some 51, none, .load (.t 5) (some 5)⟩, ⟨some 52, none, .load (.t 6) (some 5)⟩, ⟨some 53, none, .bsl 5 [((.t 51), (some 5)), ((.t 52), (some 5))]⟩, ⟨some 54, none, .build [(.c (.int .i64 0)), (.c (.int .i64 0)), (.c (.str ⟨#[]⟩)), (.z 1), (.z 5)] [(0, (.k (.c (.int .i64 5))), none), (4, (.t 53), none)]⟩, ⟨some 9, none, .alloc [(.c (.int .i64 0)), (.c (.int .i64 0)), (.c (.str ⟨#[]⟩)), (.z 1), (.z 5)]⟩, ⟨none, none, .st (.t 9) (.t 54) (some 5)⟩] none [5, 6, 7, 8, 9]) (.seq (.reg [⟨some 55, none, .bsl 1 [((.k (.c (.str ⟨#[120]⟩))), none), ((.k (.c (.str ⟨#[121]⟩))), none)]⟩, ⟨some 56, none, .load (.t 5) (some 5)⟩, ⟨some 57, none, .load (.t 6) (some 5)⟩, ⟨some 58, none, .bsl 5 [((.t 56), (some 5)), ((.t 57), (some 5))]⟩, ⟨some 59, none, .build [(.c (.int .i64 0)), (.c (.int .i64 0)), (.c (.str ⟨#[]⟩)), (.z 1), (.z 5)] [(0, (.k (.c (.int .i64 6))), none), (3, (.t 55), none), (4, (.t 58), none)]⟩, ⟨some 10, none, .alloc [(.c (.int .i64 0)), (.c (.int .i64 0)), (.c (.str ⟨#[]⟩)), (.z 1), (.z 5)]⟩, ⟨none, none, .st (.t 10) (.t 59) (some 5)⟩] none [7, 8, 9, 10]) (.seq (.reg [⟨some 61, none, .mv (.t 7)⟩, ⟨some 62, none, .bin false .add (.k (.c (.str ⟨#[91]⟩))) (.t 61)⟩, ⟨some 63, none, .bin false .add (.t 62) (.k (.c (.str ⟨#[44]⟩)))⟩, ⟨some 64, none, .mv (.t 8)⟩, ⟨some 65, none, .bin false .add (.t 63) (.t 64)⟩, ⟨some 66, none, .bin false .add (.t 65) (.k (.c (.str ⟨#[93]⟩)))⟩, ⟨some 67, none, .call 11 [(.t 66)]⟩, ⟨some 60, none, .mv (.t 67)⟩, ⟨some 68, none, .ext (.t 60) 0⟩, ⟨some 69, none, .ext (.t 60) 1⟩, ⟨some 11, none, .alloc [(.c (.int .i64 0)), (.c (.int .i64 0)), (.c (.str ⟨#[]⟩)), (.z 1), (.z 5)]⟩, ⟨none, none, .st (.t 11) (.t 68) (some 5)⟩, ⟨some 12, none, .mv (.t 69)⟩] none [7, 8, 9, 10, 11, 12]) (.seq (.reg [⟨some 71, none, .mv (.t 7)⟩, ⟨some 72, none, .bin false .add (.k (.c (.str ⟨#[123, 120, 58]⟩))) (.t 71)⟩, ⟨some 73, none, .bin false .add (.t 72) (.k (.c (.str ⟨#[44, 121, 58]⟩)))⟩, ⟨some 74, none, .mv (.t 8)⟩, ⟨some 75, none, .bin false .add (.t 73) (.t 74)⟩, ⟨some 76, none, .bin false .add (.t 75) (.k (.c (.str ⟨#[125]⟩)))⟩, ⟨some 77, none, .call 11 [(.t 76)]⟩, ⟨some 70, none, .mv (.t 77)⟩, ⟨some 78, none, .ext (.t 70) 0⟩, ⟨some 79, none, .ext (.t 70) 1⟩, ⟨some 13, none, .alloc [(.c (.int .i64 0)), (.c (.int .i64 0)), (.c (.str ⟨#[]⟩)), (.z 1), (.z 5)]⟩, ⟨none, none, .st (.t 13) (.t 78) (some 5)⟩, ⟨some 14, none, .mv (.t 79)⟩] none [7, 8, 9, 10, 11, 12, 13, 14]) (.seq (.reg [⟨some 81, none, .mv (.t 7)⟩, ⟨some 82, none, .bin false .add (.k (.c (.str ⟨#[123, 121, 58]⟩))) (.t 81)⟩, ⟨some 83, none, .bin false .add (.t 82) (.k (.c (.str ⟨#[44, 120, 58]⟩)))⟩, ⟨some 84, none, .mv (.t 8)⟩, ⟨some 85, none, .bin false .add (.t 83) (.t 84)⟩, ⟨some 86, none, .bin false .add (.t 85) (.k (.c (.str ⟨#[125]⟩)))⟩, ⟨some 87, none, .call 11 [(.t 86)]⟩, ⟨some 80, none, .mv (.t 87)⟩, ⟨some 88, none, .ext (.t 80) 0⟩, ⟨some 89, none, .ext (.t 80) 1⟩, ⟨some 15, none, .alloc [(.c (.int .i64 0)), (.c (.int .i64 0)), (.c (.str ⟨#[]⟩)), (.z 1), (.z 5)]⟩, ⟨none, none, .st (.t 15) (.t 88) (some 5)⟩, ⟨some 16, none, .mv (.t 89)⟩] none [9, 10, 11, 12, 13, 14, 16]) (.seq (.reg [⟨some 90, none, .mv (.t 12)⟩, ⟨some 91, none, .load (.t 9) (some 5)⟩, ⟨some 92, none, .call 12 [(.t 91)]⟩, ⟨some 93, none, .bin true .eql (.t 90) (.t 92)⟩, ⟨some 94, none, .mv (.t 93)⟩, ⟨some 95, some (94, true), .mv (.t 12)⟩, ⟨some 96, some (94, true), .not (.t 95)⟩, ⟨some 97, some (94, true), .mv (.t 96)⟩, ⟨some 98, some (97, false), .load (.t 11) (some 5)⟩, ⟨some 99, some (97, false), .load (.t 9) (some 5)⟩, ⟨some 100, some (97, false), .call 13 [(.t 98), (.t 99)]⟩, ⟨some 101, some (94, true), .pick (.t 97) (.k (.c (.bool true))) (.t 100)⟩, ⟨some 102, none, .pick (.t 94) (.t 101) (.k (.c (.bool false)))⟩, ⟨some 103, none, .mv (.t 102)⟩, ⟨some 104, some (103, true), .mv (.t 14)⟩, ⟨some 105, some (103, true), .load (.t 10) (some 5)⟩, ⟨some 106, some (103, true), .call 12 [(.t 105)]⟩, ⟨some 107, some (103, true), .bin true .eql (.t 104) (.t 106)⟩, ⟨some 108, none, .pick (.t 103) (.t 107) (.k (.c (.bool false)))⟩, ⟨some 109, none, .mv (.t 108)⟩, ⟨some 110, some (109, true), .mv (.t 14)⟩, ⟨some 111, some (109, true), .not (.t 110)⟩, ⟨some 112, some (109, true), .mv (.t 111)⟩, ⟨some 113, some (112, false), .load (.t 13) (some 5)⟩, ⟨some 114, some (112, false), .load (.t 10) (some 5)⟩, ⟨some 115, some (112, false), .call 13 [(.t 113), (.t 114)]⟩, ⟨some 116, some (109, true), .pick (.t 112) (.k (.c (.bool true))) (.t 115)⟩, ⟨some 117, none, .pick (.t 109) (.t 116) (.k (.c (.bool false)))⟩, ⟨some 118, none, .mv (.t 117)⟩, ⟨some 119, some (118, true), .mv (.t 16)⟩, ⟨some 120, some (118, true), .not (.t 119)⟩, ⟨some 121, none, .pick (.t 118) (.t 120) (.k (.c (.bool false)))⟩, ⟨some 4, none, .mv (.t 121)⟩] none [4]) .ret)))))))))))))
theorem chk_lawVT : chkX Tryd.prog 122 (Tryd.f3.body.getD .skip) x_lawVT = true := by kernel_rfl
theorem rs_lawVT : okRs Tryd.prog Tryd.f3.results.toList [.tmp 4] = true := by kernel_rfl
theorem valOk_form {t : T} {d : Int} (h : formT t d) : (valOk (textT t) ↔ okT t) /\ (okT t -> valT (textT t) = t) := by
 refine ⟨⟨?_, fun h => ⟨t, h, rfl⟩⟩, fun h => (valT_of h rfl).2⟩
 rintro ⟨u, h1, h2⟩
 have := (textT_inj u (b := t) (x := []) (y := []) h1.1 h trivial trivial (by rw [h2])).1
 rw [<- this]; exact h1
theorem okS_one {c : UInt8} (h : letter c) : okS ⟨#[c]⟩ := ⟨fun x hx => by simp at hx; rw [hx]; exact h, by show 1 <= 12; decide⟩
theorem okS_xy : okS ⟨#[120]⟩ /\ okS ⟨#[121]⟩ := ⟨okS_one (by unfold letter; decide), okS_one (by unfold letter; decide)⟩
theorem sl_xy : sl ⟨#[120]⟩ ⟨#[121]⟩ /\ ¬ sl ⟨#[121]⟩ ⟨#[120]⟩ := by unfold sl; simp only [ByteArray.toList_eq]; decide
theorem row_form {a b : T} (ha : okT a) (hb : okT b) : formT (.mk 5 0 ⟨#[]⟩ [] [a, b]) 7 := by
 simp only [formT, formL]
 exact ⟨by omega, .inr trivial, .inr trivial, .inr trivial, .inl (by omega), by omega, by omega, by omega, by omega, okS_nil, fun h => by omega, ha.1, hb.1, trivial⟩
theorem map_form {a b : T} (ha : okT a) (hb : okT b) : formT (.mk 6 0 ⟨#[]⟩ [⟨#[120]⟩, ⟨#[121]⟩] [a, b]) 7 := by
 simp only [formT, formL]
 refine ⟨by omega, .inr trivial, .inr trivial, .inl trivial, .inl (by omega), by omega, by omega, by omega, by omega, okS_nil, fun _ => ⟨rfl, ?_⟩, ha.1, hb.1, trivial⟩
 refine ⟨fun j k hj hk => ?_, fun j x y hj hx hy => ?_⟩
 ·rcases j with _ | _ | j
  ·simp at hk; rw [<- hk]; exact okS_xy.1
  ·simp at hk; rw [<- hk]; exact okS_xy.2
  ·simp at hk
 ·rcases j with _ | j
  ·simp at hx hy; rw [<- hx, <- hy]; exact sl_xy.1
  ·simp at hj; omega
theorem row_text (a b : T) : textT (.mk 5 0 ⟨#[]⟩ [] [a, b]) = ⟨#[91]⟩ ++ textT a ++ ⟨#[44]⟩ ++ textT b ++ ⟨#[93]⟩ := by
 apply tL_inj
 rw [tT_eq]
 simp [TRj, TR, tL_app]
 rfl
theorem map_text (x y : UInt8) (a b : T) : textT (.mk 6 0 ⟨#[]⟩ [⟨#[x]⟩, ⟨#[y]⟩] [a, b]) = ⟨#[123, x, 58]⟩ ++ textT a ++ ⟨#[44, y, 58]⟩ ++ textT b ++ ⟨#[125]⟩ := by
 apply tL_inj
 rw [tT_eq]
 simp [TMj, TM, tL_app]
 rfl
theorem bad_text {a b : T} (ha : okT a) (hb : okT b) : ¬ valOk (textT (.mk 6 0 ⟨#[]⟩ [⟨#[121]⟩, ⟨#[120]⟩] [a, b])) := by
 rintro ⟨t, h1, h2⟩
 obtain ⟨k, n, s, ks, l⟩ := t
 have h3 := congrArg tL h2
 obtain ⟨c, r, e1, e2, _⟩ := textT_first h1.1
 rw [tT_eq 6, if_neg (by decide), if_neg (by decide), if_neg (by decide), if_neg (by decide), if_neg (by decide), if_pos rfl, e1] at h3
 have hc : c = 123 := (List.cons.inj h3).1
 rw [hc] at e2
 have hk : k = 6 := e2.symm
 rw [e1.symm, hk, tT_eq 6, if_neg (by decide), if_neg (by decide), if_neg (by decide), if_neg (by decide), if_neg (by decide), if_pos rfl] at h3
 have h4 := (List.cons.inj h3).2
 have hf := h1.1
 simp only [formT] at hf
 obtain ⟨_, _, _, _, _, _, _, _, _, _, f11, f12⟩ := hf
 obtain ⟨g1, g2⟩ := f11 hk
 cases l with
 | nil =>
   have e9 : tL ⟨#[121]⟩ = [121] := rfl
   simp [TMj, e9] at h4
 | cons u l =>
   have h5 : TM ks (u :: l) ++ 125 :: [] = TM [⟨#[121]⟩, ⟨#[120]⟩] [a, b] ++ 125 :: [] := by
    have : 44 :: (TMj ks (u :: l) ++ [125]) = 44 :: (TMj [⟨#[121]⟩, ⟨#[120]⟩] [a, b] ++ [125]) := by rw [h4]
    simpa [TM, TMj] using this
   have ok : ∀ s ∈ ks, okS s := fun s hs => by
    obtain ⟨i, hi⟩ := List.getElem?_of_mem hs
    exact okKeys_at g2 hi
   have ok2 : ∀ s ∈ [(⟨#[121]⟩ : ByteArray), ⟨#[120]⟩], okS s := fun s hs => by
    simp only [List.mem_cons, List.not_mem_nil, or_false] at hs
    rcases hs with rfl | rfl
    ·exact okS_xy.2
    ·exact okS_xy.1
   have hh := mapT_inj (u :: l) (l' := [a, b]) (ks := ks) (ks' := [⟨#[121]⟩, ⟨#[120]⟩]) g1 rfl ok ok2 f12 (d' := 6) ⟨ha.1, hb.1, trivial⟩ h5
   have e5 := hh.1
   subst e5
   exact sl_xy.2 (g2.2 0 _ _ (by decide) rfl rfl)
theorem row2_fit {a b : T} (ha : a.fit 140737488355328) (hb : b.fit 140737488355328) : (T.mk 5 0 ⟨#[]⟩ [] [a, b]).fit 140737488355328 := by
 simp only [T.fit, lenB, strsFit, fitL]
 exact ⟨by unfold i64; omega, by unfold i64; omega, by decide, ⟨by simp, by simp⟩, by simp, ha, hb, trivial⟩
theorem map2_fit {a b : T} (ha : a.fit 140737488355328) (hb : b.fit 140737488355328) : (T.mk 6 0 ⟨#[]⟩ [⟨#[120]⟩, ⟨#[121]⟩] [a, b]).fit 140737488355328 := by
 simp only [T.fit, lenB, strsFit, fitL]
 refine ⟨by unfold i64; omega, by unfold i64; omega, by decide, ⟨by simp, fun s hs => ?_⟩, by simp, ha, hb, trivial⟩
 simp only [List.mem_cons, List.not_mem_nil, or_false] at hs
 rcases hs with rfl | rfl <;> decide
theorem foldRow (a b : T) : DV.agg [C.int .i64 5, C.int .i64 0, C.str ⟨#[]⟩, C.row 1 [], C.row 5 [a.enc, b.enc]] = DV.agg (T.mk 5 0 ⟨#[]⟩ [] [a, b]).enc := rfl
theorem foldMap (a b : T) : DV.agg [C.int .i64 6, C.int .i64 0, C.str ⟨#[]⟩, C.row 1 [[C.str ⟨#[120]⟩], [C.str ⟨#[121]⟩]], C.row 5 [a.enc, b.enc]] = DV.agg (T.mk 6 0 ⟨#[]⟩ [⟨#[120]⟩, ⟨#[121]⟩] [a, b]).enc := rfl
noncomputable def spLawVT  : Spec := Spec.of (ι := (List Int) × (List Int)) [false, false] (fun i => [.d (.one (.row 1 (ints .u8 i.1))), .d (.one (.row 1 (ints .u8 i.2)))]) (fun i => bytes i.1 /\ bytes i.2) (fun _ => [.d (.one (.bool true))]) (fun _ => [.gone, .gone])
theorem spLawVT_inj : ∀ i j : (List Int) × (List Int), (fun (i : (List Int) × (List Int)) => ([.d (.one (.row 1 (ints .u8 i.1))), .d (.one (.row 1 (ints .u8 i.2)))] : List AV)) i = (fun (i : (List Int) × (List Int)) => ([.d (.one (.row 1 (ints .u8 i.1))), .d (.one (.row 1 (ints .u8 i.2)))] : List AV)) j -> i = j := by
 rintro ⟨a, b⟩ ⟨a', b'⟩ h
 simp only [Prod.mk.injEq]
 simpa [strs_eq, T.enc_eq, encL_eq, F.enc_eq, encF_eq, Tk.enc_eq, encTk_eq, Gn.enc_eq, ints_eq] using h
theorem spLawVT_pre  (a : List Int) (b : List Int) : (spLawVT).pre [.d (.one (.row 1 (ints .u8 a))), .d (.one (.row 1 (ints .u8 b)))] = (bytes a /\ bytes b) := Spec.of_pre' spLawVT_inj (a, b)
theorem spLawVT_res  (a : List Int) (b : List Int) : (spLawVT).res [.d (.one (.row 1 (ints .u8 a))), .d (.one (.row 1 (ints .u8 b)))] = [.d (.one (.bool true))] := Spec.of_res spLawVT_inj (a, b)
set_option maxHeartbeats 4000000 in
theorem lawVT_sound (hE : errK) (hK : tabK) : Sound Tryd.prog 3 spLawVT := by
 refine sound_fam (GOK.cons (l := [(8, spValText), (9, spValText), (11, spRead), (12, spValOkI), (10, spOkT), (13, spSameIV)]) call_DrawValText DrawValText_sound (GOK.cons call_ValTextI (valTextI_sound hK) (GOK.cons call_ValText valText_sound (GOK.cons call_ValReadI (readI_sound hE hK) (GOK.cons call_ValOkI valOkI_sound (GOK.cons call_ValOk sOkT_sound (GOK.cons call_ValSameI sameIV_sound GOK.nil))))))) Tryd.func3 (c := Tryd.f3.body.getD .skip) rfl (n := 122) rfl chk_lawVT rs_lawVT (fun _ => by simp) ?_ ?_
 ·exact spLawVT_inj
 ·rintro ⟨a, b⟩ ⟨h1, h2⟩
  simp only [bytes, lenB] at h1 h2
  simp only [x_lawVT, rg, go_sem, seval, Prod.fst, ints_len, T.enc_len, spDVT_md, spDVT_pre, ↓spDVT_all, spDVT_all]
  repeat' (first | with_reducible assumption | with_reducible refine And.intro ?_ ?_ | intro _)
  all_goals first | omega | skip
  ·exact (h1.1 _ (by assumption)).1
  ·exact (h1.1 _ (by assumption)).2
  ·unfold lenB; omega
  ·exact (h2.1 _ (by assumption)).1
  ·exact (h2.1 _ (by assumption)).2
  ·unfold lenB; omega
  rename_i k n s ks l hd k2 n2 s2 ks2 l2 hd2
  generalize hT : T.mk k n s ks l = A at *
  generalize hT2 : T.mk k2 n2 s2 ks2 l2 = B at *
  clear hT hT2
  obtain ⟨f1, f2⟩ := drW_facts hd (by decide)
  obtain ⟨f3, f4⟩ := drW_facts hd2 (by decide)
  have fA := T.enc_len A
  have fB := T.enc_len B
  by_cases cA : okT A
  ·have eA : okT A = True := eq_true cA
   by_cases cB : okT B
   ·have eB : okT B = True := eq_true cB
    have tA : valText A = textT A := by unfold valText; rw [if_pos cA]
    have tB : valText B = textT B := by unfold valText; rw [if_pos cB]
    have sA := (textT_ne cA).2
    have sB := (textT_ne cB).2
    have r1 := row_form cA cB
    have m1 := map_form cA cB
    obtain ⟨r2, r3⟩ := valOk_form r1
    obtain ⟨m2, m3⟩ := valOk_form m1
    have r4 := row2_fit f1 f3
    have m4 := map2_fit f1 f3
    have rt := row_text A B
    have mt := map_text 120 121 A B
    have bt := map_text 121 120 A B
    have bad := bad_text cA cB
    have e1 := foldRow A B
    have e2 := foldMap A B
    have oR := propext (okI_iff (.mk 5 0 ⟨#[]⟩ [] [A, B]))
    have oM := propext (okI_iff (.mk 6 0 ⟨#[]⟩ [⟨#[120]⟩, ⟨#[121]⟩] [A, B]))
    rw [bt] at bad
    rw [rt] at r2 r3
    rw [mt] at m2 m3
    generalize hR : T.mk 5 0 ⟨#[]⟩ [] [A, B] = R at *
    generalize hM : T.mk 6 0 ⟨#[]⟩ [⟨#[120]⟩, ⟨#[121]⟩] [A, B] = M at *
    have gR := T.enc_len R
    have gM := T.enc_len M
    have r5 : valOk (⟨#[91]⟩ ++ textT A ++ ⟨#[44]⟩ ++ textT B ++ ⟨#[93]⟩) = okT R := propext r2
    have m5 : valOk (⟨#[123, 120, 58]⟩ ++ textT A ++ ⟨#[44, 121, 58]⟩ ++ textT B ++ ⟨#[125]⟩) = okT M := propext m2
    have b5 : valOk (⟨#[123, 121, 58]⟩ ++ textT A ++ ⟨#[44, 120, 58]⟩ ++ textT B ++ ⟨#[125]⟩) = False := eq_false bad
    have z : ∀ x, (valT x).enc.length = 5 := fun x => T.enc_len _
    have q1 : (ByteArray.mk #[91]).size = 1 := rfl
    have q2 : (ByteArray.mk #[44]).size = 1 := rfl
    have q3 : (ByteArray.mk #[93]).size = 1 := rfl
    have q4 : (ByteArray.mk #[123, 120, 58]).size = 3 := rfl
    have q5 : (ByteArray.mk #[44, 121, 58]).size = 3 := rfl
    have q6 : (ByteArray.mk #[125]).size = 1 := rfl
    have q7 : (ByteArray.mk #[123, 121, 58]).size = 3 := rfl
    have q8 : (ByteArray.mk #[44, 120, 58]).size = 3 := rfl
    have fz : ∀ x, (valT x).fit 140737488355328 := fun x => T.fit_mono (by decide) (okT_fit (valT_okT' x))
    by_cases cR : okT R <;> by_cases cM : okT M
    all_goals
     first
     | rw [eq_true cR] at r5 oR
       have e5 := r3 cR
     | rw [eq_false cR] at r5 oR
     first
     | rw [eq_true cM] at m5 oM
       have e6 := m3 cM
     | rw [eq_false cM] at m5 oM
     simp only [rg, go_sem, seval, Prod.fst, fA, fB, eA, eB, tA, tB, e1, e2, gR, gM, oR, oM, r5, m5, b5, z, q1, q2, q3, q4, q5, q6, q7, q8, *, ByteArray.size_append, spValText_md, spValText_pre, spValText_alts, spValText_res, spValText_out, spRead_md, spRead_pre, spRead_alts, spRead_res, spRead_out, spValOkI_md, spValOkI_pre, spValOkI_alts, spValOkI_res, spValOkI_out, spOkT_md, spOkT_pre, spOkT_alts, spOkT_res, spOkT_out, spSameIV_md, spSameIV_pre, spSameIV_alts, spSameIV_res, spSameIV_out]
     repeat' (first | with_reducible assumption | with_reducible refine And.intro ?_ ?_ | intro _)
     all_goals first | omega | (unfold lenB; omega) | with_reducible assumption | exact fz _ | skip
   ·have eB : okT B = False := eq_false cB
    simp only [rg, go_sem, seval, Prod.fst, fA, fB, eA, eB, spValText_md, spValText_pre, spValText_alts, spValText_res, spValText_out, spOkT_md, spOkT_pre, spOkT_alts, spOkT_res, spOkT_out]
    repeat' (first | with_reducible assumption | with_reducible refine And.intro ?_ ?_ | intro _)
    all_goals first | omega | (unfold lenB; omega) | with_reducible assumption | skip
  ·have eA : okT A = False := eq_false cA
   simp only [rg, go_sem, seval, Prod.fst, fA, fB, eA, spValText_md, spValText_pre, spValText_alts, spValText_res, spValText_out, spOkT_md, spOkT_pre, spOkT_alts, spOkT_res, spOkT_out]
   repeat' (first | with_reducible assumption | with_reducible refine And.intro ?_ ?_ | intro _)
   all_goals first | omega | (unfold lenB; omega) | with_reducible assumption | skip
end Go.Proofs.Pw
namespace Go.Proofs.Pw
open Go.RowKit
def Old (w : World) (g : Nat) : Prop := g < w.heap.size
theorem cell_lt {w : World} {a : Addr} {v : Value} (h : w.cell? a = some v) : a.block < w.heap.size := by
 unfold World.cell? at h
 rcases Nat.lt_or_ge a.block w.heap.size with hlt | hge
 ·exact hlt
 ·rw [Array.getElem?_eq_none hge] at h; simp at h
theorem rep_ints {k : IntKind} {w : World} {a : Option Addr} {len cap : Nat} {zs : List Int}
 (h : (a = none /\ len = 0 /\ cap = 0 /\ zs = []) \/ ∃ x, a = some x /\ len <= cap /\ cap <= maxLen /\ zs.length = cap /\ (∀ i, i < zs.length -> w.cell? (x.add i) = some (.int k (zs.getD i 0))) /\ ∀ n ∈ zs, (Lit.int k n).wf = true) :
 Rep w (Old w) (.row 1 (ints k (zs.take len))) (.slice a len cap) /\ (zs.take len).length = len /\ ∀ n ∈ zs.take len, (Lit.int k n).wf = true := by
 rcases h with ⟨rfl, rfl, rfl, rfl⟩ | ⟨x, rfl, hl, hm, hz, hc, hw⟩
 ·exact ⟨.nil .., rfl, by simp⟩
 ·have hlen : (zs.take len).length = len := by simp; omega
  refine ⟨?_, hlen, fun n hn => hw n (List.mem_of_mem_take hn)⟩
  rcases Nat.eq_zero_or_pos len with h0 | h0
  ·subst h0; exact .nil ..
  ·have key : ∀ (i j : Nat) e c, (ints k (zs.take len))[i]? = some e -> e[j]? = some c -> j = 0 /\ i < zs.length /\ c = .int k (zs.getD i 0) := fun i j e c he hj => by
    simp only [ints, List.getElem?_map, Option.map_eq_some_iff] at he
    obtain ⟨n, hn, rfl⟩ := he
    rw [List.getElem?_take] at hn
    split at hn
    ·cases j with
     | zero => simp at hj; subst hj; exact ⟨rfl, (List.getElem?_eq_some_iff.1 hn).1, by simp [hn]⟩
     | succ j => simp at hj
    ·cases hn
   have hel : (ints k (zs.take len)).length = len := by rw [ints_len, hlen]
   have := Rep.row (w := w) (S := Old w) 1 (ints k (zs.take len)) x cap (fun i => .int k (zs.getD i 0)) (by omega) (by
    have := cell_lt (hc 0 (by omega)); rwa [add_block] at this) (fun i e he => by
     simp only [ints, List.getElem?_map, Option.map_eq_some_iff] at he
     obtain ⟨n, _, rfl⟩ := he; rfl) (fun i j e c he hj => by
     obtain ⟨rfl, h1, _⟩ := key i j e c he hj
     simpa using hc i h1) (fun i j e c he hj => by
     obtain ⟨rfl, h1, rfl⟩ := key i j e c he hj
     simpa using Rep.int k (zs.getD i 0))
   rwa [hel] at this
theorem law_calls [Globs] {P : Program} {f : FuncId} {sp : Spec} (h : Sound P f sp) {args : List AV} (hp : sp.pre args) (ha : sp.alts = none) (hr : sp.res args = [.d (.one (.bool true))]) {W : World} {vs : List Value} (hG : Gl W (Old W))
 (hA : All3 (RepA W (Old W)) args vs (args.map fun _ => fun _ => False)) : Calls P f vs.toArray W fun e w' => e = .returned (.bool true) /\ Below W.heap.size W w' := by
 refine (h args hp W (Old W) vs _ hG (fun _ h => h) (fun g hg => absurd hg Any_false) Apart_false hA).mono ?_
 rintro e w' ⟨r, o, hro, v, S', rfs, fps', rfl, g1, _, _, _, _, _, g8⟩
 obtain ⟨rfl, rfl⟩ := (Spec.may_none ha).1 hro
 rw [hr] at g1
 refine ⟨?_, ⟨g8.os, g8.tape, g8.output, g8.size, fun k hk => g8.block k hk Any_false⟩⟩
 cases rfs with
 | nil => exact absurd rfl g1.1
 | cons fp r => cases r with
   | nil =>
     obtain ⟨g1, _⟩ := g1
     cases g1; rfl
   | cons _ _ => exact absurd rfl g1.1
end Go.Proofs.Pw
namespace Go.Proofs.Pw
open Go.RowKit Go.ChangeShapes Go.WideShapes
section
variable {H : Type} {enc : TypeId × Value -> H} {P : Program} {W W' : World} {spare : Nat -> Bool} {held : Bool}
theorem trodAll_below (hl : laidOutB P = true) (hb : Below W.heap.size W W') : ∀ {ts : List TypeId} {vs : List Value} {ds : List (DataW H)} {p : List MemPlace}, DataW.TrodAll enc P W 0 (fun _ => true) true ts vs ds p ->
 (ts.all fun t => P.readableRec t && decide (t < P.types.size)) = true -> (∀ x ∈ p, x.block < W.heap.size) -> DataW.TrodAll enc P W' 0 (fun b => decide (b < W.heap.size)) true ts vs ds p := by
 intro ts
 induction ts with
 | nil =>
   intro vs ds p h _ _
   cases vs <;> cases ds <;> first | exact h | exact h.elim
 | cons t ts ih =>
   intro vs ds p h hr hp
   obtain ⟨v, vs', d, ds', p1, q, rfl, rfl, rfl, h1, h2⟩ := trodAll_cons h
   simp only [List.all_cons, Bool.and_eq_true, decide_eq_true_eq] at hr
   exact ⟨p1, q, Below.trod hl hr.1.1 hr.1.2 h1 hb (fun x hx => hp x (by simp [hx])), ih h2 hr.2 (fun x hx => hp x (by simp [hx])), rfl⟩
theorem trodVars_below (hl : laidOutB P = true) (hb : Below W.heap.size W W') : ∀ {ns : List String} {gs : List (DataW H)} {p : List MemPlace}, DataW.TrodVars enc P W (fun _ => true) ns gs p ->
 (ns.all fun n => match P.globalNamed n with | some g => (match P.globals[g]? with | some x => P.readableRec x.type && decide (x.type < P.types.size) | none => false) | none => false) = true -> (∀ x ∈ p, x.block < W.heap.size) ->
 DataW.TrodVars enc P W' (fun b => decide (b < W.heap.size)) ns gs p := by
 intro ns
 induction ns with
 | nil =>
   intro gs p h _ _
   cases gs <;> first | exact h | exact h.elim
 | cons n ns ih =>
   intro gs p h hr hp
   cases gs with
   | nil => exact h.elim
   | cons d gs =>
     obtain ⟨g, t, cs, fuel, p1, q, hg, ht, hv, hd, h2, rfl⟩ := h
     simp only [List.all_cons, Bool.and_eq_true, hg] at hr
     obtain ⟨hr2, hr3⟩ := hr
     have hr1 : g < W.heap.size := by
      unfold World.var? at hv
      simp only [hg, Option.bind_some] at hv
      split at hv
      ·rename_i h1; exact (Array.getElem?_eq_some_iff.1 h1).1
      ·cases hv
     simp only [Option.map_eq_some_iff] at ht
     obtain ⟨x, hx, rfl⟩ := ht
     simp only [hx, Bool.and_eq_true, decide_eq_true_eq] at hr2
     have hk : DataW.Trod enc P W 0 (fun _ => true) true x.type (.agg cs) d p1 := ⟨fuel, hd⟩
     obtain ⟨fuel', hd'⟩ := Below.trod hl hr2.1 hr2.2 hk hb (fun y hy => hp y (by simp [hy]))
     exact ⟨g, x.type, cs, fuel', p1, q, hg, by rw [hx]; rfl, var?_below hb hg hr1 hv, hd', ih h2 hr3 (fun y hy => hp y (by simp [hy])), rfl⟩
theorem law_post {f : Func} {s : ChangeSpec} {args : Array Value} {ds gs : List (DataW H)} {before : List MemPlace} {rt : TypeId} (hl : laidOutB P = true)
 (hW : DataW.Whole enc P f.params.toList s.vars false W args.toList ds gs before) (hrt : f.resultTypes.toList = [rt]) (hrb : P.underlying rt = some .bool) (hsz : f.resultTypes.size = 1)
 (hfn : s.fn H (ds ++ gs) = { results := [.lit (.bool true)], args := ds, vars := gs })
 (hp : (f.params.toList.all fun t => P.readableRec t && decide (t < P.types.size)) = true)
 (hv : (s.vars.all fun n => match P.globalNamed n with | some g => (match P.globals[g]? with | some x => P.readableRec x.type && decide (x.type < P.types.size) | none => false) | none => false) = true)
 (hb : Below W.heap.size W W') : s.post enc P f false true false false W args (.bool true) W' := by
 have hlt := hW.lt
 have hW' := hW
 obtain ⟨p, q, hA, hV, rfl, hfz, hnd⟩ := hW
 refine ⟨ds, gs, _, [], p, q, hW', ?_, ?_, ?_, hb.frame _, fun h => by cases h⟩
 ·rw [hfn, hrt, hsz]
  exact trodAll_mk1 (shut_bool hrb _)
 ·rw [hfn]; exact trodAll_below hl hb hA hp (fun x hx => hlt x (by simp [hx]))
 ·rw [hfn]; exact trodVars_below hl hb hV hv (fun x hx => hlt x (by simp [hx]))
end
end Go.Proofs.Pw
namespace Go.Proofs.Pw
open Go.RowKit Go.ChangeShapes Go.WideShapes
section
variable {H : Type} {enc : TypeId × Value -> H} {P : Program} {W : World}
theorem wf_u8 {n : Int} (h : (Lit.int .u8 n).wf = true) : 0 <= n /\ n <= 255 := by
 simp only [Lit.wf, Bool.and_eq_true, decide_eq_true_eq] at h
 simp only [IntKind.min, IntKind.max, IntKind.signed, IntKind.bits] at h
 simp at h; omega
theorem read_bytes {held : Bool} {r : Reach} {base : Nat} {ts : List TypeId} {ds : List (DataW H)} {j : Nat} {t e : TypeId} {v : Value} {d : DataW H} {p : List MemPlace} (hu : P.underlying t = some (.slice e)) (he : P.underlying e = some (.int .u8)) (hc : P.cellsOf e = 1) (hby : 0 < P.bytesOf e)
 (hval : Value.okWide P W r base t v) (h : DataW.Trod enc P W 0 (fun _ => true) held t v d p) (hz : (DataW.weightsEach P ts ds).all (· <= reachBytes) = true) (ht : ts[j]? = some t) (hd : ds[j]? = some d) :
 ∃ l : List Int, RepA W (Old W) (.d (.one (.row 1 (ints .u8 l)))) v (fun _ => False) /\ bytes l := by
 obtain ⟨a, len, cap, rfl⟩ := okWide_slice hu hval
 obtain ⟨fuel, h⟩ := h
 rcases open_ints hu he hc h with ⟨h1, h2⟩ | ⟨x, l, c, zs, hcs, _, hl, hm, hz', hx, hcell, hwz⟩
 ·simp only [Value.cells, List.cons.injEq, and_true] at h1
  cases h1
  refine ⟨[], ⟨.nil .., fun _ h => h⟩, by simp, by unfold lenB; simp⟩
 ·simp only [Value.cells, List.cons.injEq, and_true] at hcs
  cases hcs
  simp only [Prod.mk.injEq] at hx
  obtain ⟨rfl, rfl⟩ := hx
  obtain ⟨k1, k2, k3⟩ := rep_ints (k := .u8) (w := W) (a := some x) (len := len) (cap := cap) (zs := zs) (.inr ⟨x, rfl, hl, hm, by simpa using hz', hcell, hwz⟩)
  refine ⟨zs.take len, ⟨k1, fun _ h => h⟩, fun b hb => wf_u8 (k3 b hb), ?_⟩
  have k4 := sized_slice hz ht hd hu
  have k5 : (lits (H := H) .u8 (zs.take len)).length <= reachBytes := by
   refine Nat.le_trans (Nat.le_trans (Nat.le_add_right _ (lits (H := H) .u8 (zs.drop len)).length) ?_) k4
   exact Nat.le_mul_of_pos_right _ hby
  have := reachBytes_lt
  simp only [lits, List.length_map] at k5
  unfold lenB; omega
end
end Go.Proofs.Pw
namespace Go.Proofs.Pw
open Go.RowKit Go.ChangeShapes Go.WideShapes
end Go.Proofs.Pw
namespace Go.Proofs.Pw
open Go.RowKit Go.ChangeShapes Go.WideShapes
theorem laid_rest {P : Program} {W : World} {x : String × DataW Unit} {r : List (String × DataW Unit)} {ps : List MemPlace} (h : DataW.LaidVars P W (x :: r) ps) : ∃ ps', DataW.LaidVars P W r ps' := by
 obtain ⟨g', t', cs, fuel, p, q, hg', ht', hv, htr, hr, _⟩ := h
 exact ⟨q, hr⟩
theorem laid_tab {P : Program} {W : World} {nm : String} {d : DataW Unit} {ns : List Int} {r : List (String × DataW Unit)} {ps : List MemPlace} {g n : Nat} {t e : TypeId} {k : IntKind} (hg : P.globalNamed nm = some g) (ht : (P.globals[g]?).map (·.type) = some t)
 (hu : P.underlying t = some (.array n e)) (he : P.underlying e = some (.int k)) (hc : P.cellsOf e = 1) (hct : P.cellsOf t = n) (hd : d = Lib.tabData k ns) (h : DataW.LaidVars P W ((nm, d) :: r) ps) :
 Old W g /\ ∃ ty x, W.heap[g]? = some (.cells (ns.map fun z => Value.int k z).toArray ty x) := by
 obtain ⟨g', t', cs, fuel, p, q, hg', ht', hv, htr, hr, _⟩ := h
 obtain rfl := Option.some.inj (hg.symm.trans hg')
 obtain rfl := Option.some.inj (ht.symm.trans ht')
 subst hd
 have hcs := Lib.cells_of_tab hu he hc hct htr
 have hcs' : cs = (ns.map fun z => Value.int k z).toArray := by rw [<- hcs]
 unfold World.var? at hv
 rw [hg] at hv
 simp only [Option.bind_some] at hv
 split at hv
 ·rename_i cs' ty x hh
  cases hv
  refine ⟨?_, ty, x, by rw [hh, hcs']⟩
  rcases Nat.lt_or_ge g W.heap.size with h | h
  ·exact h
  ·rw [Array.getElem?_eq_none h] at hh; cases hh
 ·cases hv
end Go.Proofs.Pw
namespace Go.Proofs.Pw
open Go.RowKit Go.ChangeShapes Go.WideShapes
theorem laid_ifc {P : Program} {W : World} {nm name : String} {d : DataW Unit} {r : List (String × DataW Unit)} {ps : List MemPlace} {g : Nat} {t : TypeId} {ms : Array (String × TypeId)} (hg : P.globalNamed nm = some g) (ht : (P.globals[g]?).map (·.type) = some t)
 (hu : P.underlying t = some (.interface ms)) (h : DataW.LaidVars P W ((nm, .iface name d) :: r) ps) :
 Old W g /\ ∃ u, W.cell? ⟨g, 0, none⟩ = some u /\ Rep W (Old W) .ifc u := by
 obtain ⟨g', t', cs, fuel, p, q, hg', ht', hv, htr, hr, _⟩ := h
 obtain rfl := Option.some.inj (hg.symm.trans hg')
 obtain rfl := Option.some.inj (ht.symm.trans ht')
 obtain ⟨_, u, v, hcs, _, _⟩ := iface_of_trod hu htr
 have hcc := World.var?_cell hg hv 0
 rw [Array.eq_one_of_toList hcs] at hcc
 have hcc' : W.cell? ⟨g, 0, none⟩ = some (.iface u v) := by simpa using hcc
 exact ⟨cell_lt hcc', _, hcc', .ifc _ _⟩
end Go.Proofs.Pw
