/- What lies at a way's end, in the reference; drawn ways and their texts. -/
import Derived.Test.YtgpjodcopajlkaaDoorPwT22
import Derived.Test.YtgpjodcopajlkaaDoorPwT11
import Derived.Test.YtgpjodcopajlkaaDoorPwT9
import Derived.Test.YtgpjodcopajlkaaDoorPwT18
import Derived.ProofKit
import Derived.ChangeOld
import Derived.Below
import Derived.Carry
import Derived.SizedLaws
import Derived.ChangeArms
import Derived.ChangeVars
import Derived.WalkSmall
import Derived.ChangeSlices
import Derived.Test.YtgpjodcopajlkaaDoorPwT10
import Derived.LaidHandle
import Derived.Lib.LaidTab
import Derived.LaidMore
import Derived.LaidLaws
set_option linter.unusedSimpArgs false
set_option linter.unusedVariables false
set_option linter.unusedSectionVars false
set_option maxRecDepth 20000
namespace Go.Proofs.Pw
variable [Globs]
def x_l3Get : X := (.seq (.reg [⟨some 2, none, .box (.t 0) (some 5)⟩, ⟨some 4, none, .alloc [(.c (.int .i64 0)), (.c (.int .i64 0)), (.c (.str ⟨#[]⟩)), (.z 1), (.z 5)]⟩, ⟨some 5, none, .mv (.k (.c (.bool false)))⟩] none [1, 2, 4]) (.seq (.seq (.reg [⟨some 6, none, .mv (.k (.c (.int .i64 0)))⟩] none [1, 2, 4, 6]) (.block 0 (.loop (.seq (.seq (.reg [⟨some 9, none, .mv (.t 6)⟩, ⟨some 10, none, .mv (.t 1)⟩, ⟨some 11, none, .len (.t 10) false⟩, ⟨some 12, none, .bin false .lss (.t 9) (.t 11)⟩] none [1, 2, 4, 6, 12]) (.cond (.t 12) .skip (.exit 0))) (.seq (.block 1 (.seq (.mix [⟨some 16, none, .load (.t 2) (some 5)⟩, ⟨some 17, none, .mv (.t 1)⟩, ⟨some 18, none, .mv (.t 6)⟩, ⟨some 19, none, .ia (.t 17) (.t 18) 3⟩, ⟨some 20, none, .load (.t 19) (some 3)⟩, ⟨some 21, none, .call 87 [(.t 16), (.t 20)]⟩, ⟨some 15, none, .mv (.t 21)⟩, ⟨some 22, none, .ext (.t 15) 0⟩, ⟨some 23, none, .ext (.t 15) 1⟩, ⟨some 7, none, .alloc [(.c (.int .i64 0)), (.c (.int .i64 0)), (.c (.str ⟨#[]⟩)), (.z 1), (.z 5)]⟩, ⟨none, none, .st (.t 7) (.t 22) (some 5)⟩] [⟨some 8, none, .mv (.t 23)⟩] [[], [], [], [], [], [], [], [], [], [0, 1, 2, 3, 4, 6, 7, 8], []] [1, 2, 4, 6, 7, 8]) (.seq (.seq (.reg [⟨some 24, none, .mv (.t 8)⟩, ⟨some 25, none, .not (.t 24)⟩] none [1, 2, 4, 6, 7, 25]) (.cond (.t 25) (.seq (.reg [⟨some 26, none, .build [(.c (.int .i64 0)), (.c (.int .i64 0)), (.c (.str ⟨#[]⟩)), (.z 1), (.z 5)] []⟩, ⟨none, none, .st (.t 4) (.t 26) (some 5)⟩, ⟨some 5, none, .mv (.k (.c (.bool false)))⟩] none [4, 5]) .ret) .skip)) (.reg [⟨some 27, none, .load (.t 7) (some 5)⟩, ⟨none, none, .st (.t 2) (.t 27) (some 5)⟩] none [1, 2, 4, 6])))) (.reg [⟨some 13, none, .mv (.t 6)⟩, ⟨some 14, none, .bin false .add (.t 13) (.k (.c (.int .i64 1)))⟩, ⟨some 6, none, .mv (.t 14)⟩] none [1, 2, 4, 6])))))) (.seq (.reg [⟨some 28, none, .load (.t 2) (some 5)⟩, ⟨none, none, .st (.t 4) (.t 28) (some 5)⟩, ⟨some 5, none, .mv (.k (.c (.bool true)))⟩] none [4, 5]) .ret)))
theorem chk_l3Get : chkX Tryd.prog 29 (Tryd.f65.body.getD .skip) x_l3Get = true := by kernel_rfl
theorem rs_l3Get : okRs Tryd.prog Tryd.f65.results.toList [.cell 4 (some 5), .tmp 5] = true := by kernel_rfl
theorem call_l3Get : okCallee Tryd.prog 65 = true := by kernel_rfl
def x_PathGetS : X := (.seq (.reg [⟨some 2, none, .box (.t 0) (some 5)⟩, ⟨some 4, none, .alloc [(.c (.int .i64 0)), (.c (.int .i64 0)), (.c (.str ⟨#[]⟩)), (.z 1), (.z 5)]⟩, ⟨some 5, none, .mv (.k (.c (.bool false)))⟩] none [1, 2, 4]) (.seq (.seq (.reg [⟨some 8, none, .load (.t 2) (some 5)⟩, ⟨some 9, none, .call 10 [(.t 8)]⟩, ⟨some 10, none, .not (.t 9)⟩, ⟨some 11, none, .mv (.t 10)⟩, ⟨some 12, some (11, false), .mv (.t 1)⟩, ⟨some 13, some (11, false), .call 24 [(.t 12)]⟩, ⟨some 14, some (11, false), .not (.t 13)⟩, ⟨some 15, none, .pick (.t 11) (.k (.c (.bool true))) (.t 14)⟩] none [1, 2, 4, 15]) (.cond (.t 15) (.seq (.reg [⟨some 16, none, .build [(.c (.int .i64 0)), (.c (.int .i64 0)), (.c (.str ⟨#[]⟩)), (.z 1), (.z 5)] []⟩, ⟨none, none, .st (.t 4) (.t 16) (some 5)⟩, ⟨some 5, none, .mv (.k (.c (.bool false)))⟩] none [4, 5]) .ret) .skip)) (.seq (.reg [⟨some 18, none, .load (.t 2) (some 5)⟩, ⟨some 19, none, .mv (.t 1)⟩, ⟨some 20, none, .call 65 [(.t 18), (.t 19)]⟩, ⟨some 17, none, .mv (.t 20)⟩, ⟨some 21, none, .ext (.t 17) 0⟩, ⟨some 22, none, .ext (.t 17) 1⟩, ⟨some 6, none, .alloc [(.c (.int .i64 0)), (.c (.int .i64 0)), (.c (.str ⟨#[]⟩)), (.z 1), (.z 5)]⟩, ⟨none, none, .st (.t 6) (.t 21) (some 5)⟩, ⟨some 7, none, .mv (.t 22)⟩] none [4, 6, 7]) (.seq (.reg [⟨some 23, none, .load (.t 6) (some 5)⟩, ⟨some 24, none, .call 66 [(.t 23)]⟩, ⟨some 25, none, .mv (.t 7)⟩, ⟨none, none, .st (.t 4) (.t 24) (some 5)⟩, ⟨some 5, none, .mv (.t 25)⟩] none [4, 5]) .ret))))
theorem chk_PathGetS : chkX Tryd.prog 26 (Tryd.f29.body.getD .skip) x_PathGetS = true := by kernel_rfl
theorem rs_PathGetS : okRs Tryd.prog Tryd.f29.results.toList [.cell 4 (some 5), .tmp 5] = true := by kernel_rfl
theorem call_PathGetS : okCallee Tryd.prog 29 = true := by kernel_rfl
def x_DrawPathOk : X := (.seq (.reg [⟨some 2, none, .mv (.k (.z 3))⟩] none [0]) (.seq (.reg [⟨some 5, none, .mv (.t 0)⟩, ⟨some 6, none, .call 31 [(.t 5)]⟩, ⟨some 3, none, .mv (.t 6)⟩] none [3]) (.seq (.reg [⟨some 7, none, .mv (.t 3)⟩, ⟨some 8, none, .callr 59 [(.t 7)]⟩, ⟨some 4, none, .alloc [(.c (.int .i64 0)), (.c (.int .i64 0)), (.c (.str ⟨#[]⟩)), (.z 1), (.z 5)]⟩, ⟨none, none, .st (.t 4) (.t 8) (some 5)⟩] none [3, 4]) (.seq (.reg [⟨some 9, none, .mv (.t 3)⟩, ⟨some 10, none, .load (.t 4) (some 5)⟩, ⟨some 11, none, .callr 60 [(.t 9), (.t 10)]⟩, ⟨some 2, none, .mv (.t 11)⟩] none [2]) .ret))))
theorem chk_DrawPathOk : chkX Tryd.prog 12 (Tryd.f50.body.getD .skip) x_DrawPathOk = true := by kernel_rfl
theorem rs_DrawPathOk : okRs Tryd.prog Tryd.f50.results.toList [.tmp 2] = true := by kernel_rfl
theorem call_DrawPathOk : okCallee Tryd.prog 50 = true := by kernel_rfl
def x_DrawPathText : X := (.seq (.reg [⟨some 2, none, .mv (.k (.z 3))⟩] none [0]) (.seq (.reg [⟨some 3, none, .mv (.t 0)⟩, ⟨some 4, none, .callr 50 [(.t 3)]⟩, ⟨some 2, none, .mv (.t 4)⟩] none [2]) .ret))
theorem chk_DrawPathText : chkX Tryd.prog 5 (Tryd.f19.body.getD .skip) x_DrawPathText = true := by kernel_rfl
theorem rs_DrawPathText : okRs Tryd.prog Tryd.f19.results.toList [.tmp 2] = true := by kernel_rfl
theorem call_DrawPathText : okCallee Tryd.prog 19 = true := by kernel_rfl
def x_DrawPathGet : X := (.seq (.reg [⟨some 2, none, .alloc [(.c (.int .i64 0)), (.c (.int .i64 0)), (.c (.str ⟨#[]⟩)), (.z 1), (.z 5)]⟩, ⟨some 3, none, .mv (.k (.z 3))⟩] none [0, 2]) (.seq (.reg [⟨some 6, none, .mv (.t 0)⟩, ⟨some 7, none, .call 31 [(.t 6)]⟩, ⟨some 4, none, .mv (.t 7)⟩] none [2, 4]) (.seq (.reg [⟨some 8, none, .mv (.t 4)⟩, ⟨some 9, none, .callr 30 [(.t 8)]⟩, ⟨some 5, none, .alloc [(.c (.int .i64 0)), (.c (.int .i64 0)), (.c (.str ⟨#[]⟩)), (.z 1), (.z 5)]⟩, ⟨none, none, .st (.t 5) (.t 9) (some 5)⟩] none [2, 4, 5]) (.seq (.mix [⟨some 10, none, .load (.t 5) (some 5)⟩, ⟨some 11, none, .mv (.t 4)⟩, ⟨some 12, none, .load (.t 5) (some 5)⟩, ⟨some 13, none, .callr 60 [(.t 11), (.t 12)]⟩] [⟨none, none, .st (.t 2) (.t 10) (some 5)⟩, ⟨some 3, none, .mv (.t 13)⟩] [[], [], [], [0]] [2, 3]) .ret))))
theorem chk_DrawPathGet : chkX Tryd.prog 14 (Tryd.f27.body.getD .skip) x_DrawPathGet = true := by kernel_rfl
theorem rs_DrawPathGet : okRs Tryd.prog Tryd.f27.results.toList [.cell 2 (some 5), .tmp 3] = true := by kernel_rfl
theorem call_DrawPathGet : okCallee Tryd.prog 27 = true := by kernel_rfl
def x_DrawPathRead : X := (.seq (.reg [⟨some 2, none, .mv (.k (.c (.str ⟨#[]⟩)))⟩] none [0]) (.seq (.reg [⟨some 7, none, .mv (.t 0)⟩, ⟨some 8, none, .call 31 [(.t 7)]⟩, ⟨some 3, none, .mv (.t 8)⟩] none [3]) (.seq (.reg [⟨some 9, none, .mv (.t 3)⟩, ⟨some 10, none, .callr 59 [(.t 9)]⟩, ⟨some 4, none, .alloc [(.c (.int .i64 0)), (.c (.int .i64 0)), (.c (.str ⟨#[]⟩)), (.z 1), (.z 5)]⟩, ⟨none, none, .st (.t 4) (.t 10) (some 5)⟩] none [3, 4]) (.seq (.reg [⟨some 11, none, .mv (.t 3)⟩, ⟨some 12, none, .load (.t 4) (some 5)⟩, ⟨some 13, none, .callr 60 [(.t 11), (.t 12)]⟩, ⟨some 14, none, .call 22 [(.t 13)]⟩, ⟨some 5, none, .mv (.t 14)⟩] none [3, 5]) (.seq (.seq (.reg [⟨some 15, none, .mv (.t 5)⟩, ⟨some 16, none, .len (.t 15) true⟩, ⟨some 17, none, .bin false .eql (.t 16) (.k (.c (.int .i64 0)))⟩, ⟨some 18, none, .mv (.t 17)⟩, ⟨some 19, some (18, false), .mv (.t 3)⟩, ⟨some 20, some (18, false), .callr 48 [(.t 19), (.k (.c (.int .i64 2)))]⟩, ⟨some 21, some (18, false), .bin false .eql (.t 20) (.k (.c (.int .i64 0)))⟩, ⟨some 22, none, .pick (.t 18) (.k (.c (.bool true))) (.t 21)⟩] none [3, 5, 22]) (.cond (.t 22) (.seq (.reg [⟨some 23, none, .mv (.t 5)⟩, ⟨some 2, none, .mv (.t 23)⟩] none [2]) .ret) .skip)) (.seq (.reg [⟨some 24, none, .mv (.t 3)⟩, ⟨some 25, none, .mv (.t 5)⟩, ⟨some 26, none, .len (.t 25) true⟩, ⟨some 27, none, .callr 48 [(.t 24), (.t 26)]⟩, ⟨some 6, none, .mv (.t 27)⟩] none [3, 5, 6]) (.seq (.mix [⟨some 28, none, .mv (.t 5)⟩, ⟨some 29, none, .mv (.t 6)⟩, ⟨some 30, none, .sub (.t 28) none (some (.t 29)) 0⟩, ⟨some 31, none, .mv (.t 3)⟩, ⟨some 32, none, .bsl 1 [((.k (.c (.str ⟨#[]⟩))), none), ((.k (.c (.str ⟨#[46]⟩))), none), ((.k (.c (.str ⟨#[91, 48, 93]⟩))), none), ((.k (.c (.str ⟨#[48]⟩))), none), ((.k (.c (.str ⟨#[36]⟩))), none), ((.k (.c (.str ⟨#[45]⟩))), none)]⟩, ⟨some 33, none, .callr 49 [(.t 31), (.t 32)]⟩, ⟨some 34, none, .bin false .add (.t 30) (.t 33)⟩, ⟨some 35, none, .mv (.t 5)⟩, ⟨some 36, none, .mv (.t 6)⟩, ⟨some 37, none, .mv (.t 3)⟩, ⟨some 38, none, .callr 48 [(.t 37), (.k (.c (.int .i64 2)))]⟩, ⟨some 39, none, .bin false .add (.t 36) (.t 38)⟩, ⟨some 40, none, .sub (.t 35) (some (.t 39)) none 0⟩] [⟨some 41, none, .bin false .add (.t 34) (.t 40)⟩, ⟨some 2, none, .mv (.t 41)⟩] [[], [], [], [], [], [2], [], [], [], [], [2], [], []] [2]) .ret)))))))
theorem chk_DrawPathRead : chkX Tryd.prog 42 (Tryd.f25.body.getD .skip) x_DrawPathRead = true := by kernel_rfl
theorem rs_DrawPathRead : okRs Tryd.prog Tryd.f25.results.toList [.tmp 2] = true := by kernel_rfl
theorem call_DrawPathRead : okCallee Tryd.prog 25 = true := by kernel_rfl
noncomputable def spL3Get  : Spec := Spec.of (ι := T × (List Stp)) [false, false] (fun i => [.d (.agg i.1.enc), .d (.one (.row 3 (encS i.2)))]) (fun i => okT i.1 /\ wayOk i.2) (fun i => [.d (.agg (optT (wgetO i.1 i.2)).enc), .d (.one (.bool (decide ((wgetO i.1 i.2).isSome = true))))]) (fun _ => [.gone, .gone])
theorem spL3Get_inj : ∀ i j : T × (List Stp), (fun (i : T × (List Stp)) => ([.d (.agg i.1.enc), .d (.one (.row 3 (encS i.2)))] : List AV)) i = (fun (i : T × (List Stp)) => ([.d (.agg i.1.enc), .d (.one (.row 3 (encS i.2)))] : List AV)) j -> i = j := by
 rintro ⟨v, p⟩ ⟨v', p'⟩ h
 simp only [Prod.mk.injEq]
 simpa [strs_eq, T.enc_eq, encL_eq, F.enc_eq, encF_eq, Tk.enc_eq, encTk_eq, Gn.enc_eq, ints_eq, encS_eq] using h
theorem spL3Get_md  : (spL3Get).md = [false, false] := rfl
theorem spL3Get_pre  (v : T) (p : List Stp) : (spL3Get).pre [.d (.agg v.enc), .d (.one (.row 3 (encS p)))] = (okT v /\ wayOk p) := Spec.of_pre' spL3Get_inj (v, p)
theorem spL3Get_alts  : (spL3Get).alts = none := rfl
theorem spL3Get_res  (v : T) (p : List Stp) : (spL3Get).res [.d (.agg v.enc), .d (.one (.row 3 (encS p)))] = [.d (.agg (optT (wgetO v p)).enc), .d (.one (.bool (decide ((wgetO v p).isSome = true))))] := Spec.of_res spL3Get_inj (v, p)
theorem spL3Get_out  (v : T) (p : List Stp) : (spL3Get).out [.d (.agg v.enc), .d (.one (.row 3 (encS p)))] = [.gone, .gone] := Spec.of_out spL3Get_inj (v, p)
set_option maxHeartbeats 2000000 in
theorem l3Get_sound : Sound Tryd.prog 65 spL3Get := by
 refine sound_fam (GOK.cons call_l3One l3One_sound GOK.nil) Tryd.func65 (c := Tryd.f65.body.getD .skip) rfl (n := 29) rfl chk_l3Get rs_l3Get (fun _ => by simp) ?_ ?_
 ·exact spL3Get_inj
 ·rintro ⟨v, p⟩ ⟨c1, c2⟩
  simp only at c1 c2
  have f0 := T.enc_len v
  have lp : (p.length : Int) <= 6 := by have := c2.2; omega
  simp only [x_l3Get, rg, go_sem, seval, Prod.fst, f0, encS_len]
  repeat' (first | with_reducible assumption | with_reducible refine And.intro ?_ ?_ | intro _)
  all_goals first | omega | assumption | skip
  refine pw_loop (ι := Nat × T) (fun i => p.length - i.1) (fun i => i.1 <= p.length /\ okT i.2 /\ wgetO i.2 (p.drop i.1) = wgetO v p)
   (fun i => ⟨[(1, .q (.c (.row 3 (encS p)))), (2, .q (.box 2 0)), (4, .q (.box 4 0)), (6, .q (.c (.int .i64 i.1)))],
    [(2, i.2.enc.map .c), (4, [.c (.int .i64 0), .c (.int .i64 0), .c (.str ⟨#[]⟩), .z 1, .z 5])], []⟩) (0, v) ⟨Nat.zero_le _, c1, rfl⟩ (Le.sub (by simp) (by simp) (by simp)) ?_
  rintro ⟨i, x⟩ ⟨hi, hx, heq⟩
  simp only at hi hx heq
  have fx := T.enc_len x
  rcases Nat.lt_or_ge i p.length with hlt | hge
  ·obtain ⟨s, hs, hdr, hmem⟩ := drop_at hlt
   have b1 : ((i : Int) < (p.length : Int)) = True := eq_true (by omega)
   have a1 := encS_at hs
   have l3 := Stp.len3 s
   have sk := c2.1 s hmem
   have gx := T.fit_mono (B := 140737488355328) (by decide) (okT_fit hx)
   have fy := T.enc_len (oneT s x)
   rw [hdr, wgetO_cons] at heq
   by_cases g : canGo s x
   ·have g' := eq_true g
    rw [if_pos g] at heq
    simp only [rg, go_sem, seval, Prod.fst, b1, a1, l3, fx, fy, g', encS_len, spL3One_md, spL3One_pre, spL3One_alts, spL3One_res, spL3One_out, Bool.false_or, Bool.or_true, Bool.not_true, Bool.false_eq_true]
    repeat' (first | with_reducible assumption | with_reducible refine And.intro ?_ ?_ | intro _)
    all_goals first | omega | assumption | skip
    exact ⟨(i + 1, oneT s x), ⟨by show i + 1 <= _; omega, oneT_ok hx, heq⟩, by show p.length - (i + 1) < _; omega, Le.sub (by simp) (by simp [T.enc_len]) (by simp)⟩
   ·have g' := eq_false g
    rw [if_neg g] at heq
    have w1 : (optT none).enc = T.zero.enc := rfl
    have w2 : ((none : Option T).isSome = true) = False := by simp
    simp only [rg, go_sem, seval, Prod.fst, b1, a1, l3, fx, fy, g', <- heq, w1, w2, encS_len, T.zero_enc, spL3One_md, spL3One_pre, spL3One_alts, spL3One_res, spL3One_out]
    repeat' (first | with_reducible assumption | with_reducible refine And.intro ?_ ?_ | intro _)
    all_goals first | omega | assumption | skip
  ·have b1 : ((i : Int) < (p.length : Int)) = False := eq_false (by omega)
   rw [List.drop_eq_nil_of_le hge, wgetO_nil] at heq
   have w1 : (optT (some x)).enc = x.enc := rfl
   have w2 : ((some x).isSome = true) = True := by simp
   simp only [rg, go_sem, seval, Prod.fst, b1, fx, <- heq, w1, w2, encS_len]
   repeat' (first | with_reducible assumption | with_reducible refine And.intro ?_ ?_ | intro _)
   all_goals first | omega | assumption | skip
noncomputable def spPathGetS  : Spec := Spec.of (ι := T × (List Stp)) [false, false] (fun i => [.d (.agg i.1.enc), .d (.one (.row 3 (encS i.2)))]) (fun i => i.1.fit 140737488355328 /\ sizeT i.1 <= 1048577 /\ wayFit i.2) (fun i => [.d (.agg (optT (pathGetO i.1 i.2)).enc), .d (.one (.bool (decide ((pathGetO i.1 i.2).isSome = true))))]) (fun _ => [.gone, .gone])
theorem spPathGetS_inj : ∀ i j : T × (List Stp), (fun (i : T × (List Stp)) => ([.d (.agg i.1.enc), .d (.one (.row 3 (encS i.2)))] : List AV)) i = (fun (i : T × (List Stp)) => ([.d (.agg i.1.enc), .d (.one (.row 3 (encS i.2)))] : List AV)) j -> i = j := by
 rintro ⟨v, p⟩ ⟨v', p'⟩ h
 simp only [Prod.mk.injEq]
 simpa [strs_eq, T.enc_eq, encL_eq, F.enc_eq, encF_eq, Tk.enc_eq, encTk_eq, Gn.enc_eq, ints_eq, encS_eq] using h
theorem spPathGetS_md  : (spPathGetS).md = [false, false] := rfl
theorem spPathGetS_pre  (v : T) (p : List Stp) : (spPathGetS).pre [.d (.agg v.enc), .d (.one (.row 3 (encS p)))] = (v.fit 140737488355328 /\ sizeT v <= 1048577 /\ wayFit p) := Spec.of_pre' spPathGetS_inj (v, p)
theorem spPathGetS_alts  : (spPathGetS).alts = none := rfl
theorem spPathGetS_res  (v : T) (p : List Stp) : (spPathGetS).res [.d (.agg v.enc), .d (.one (.row 3 (encS p)))] = [.d (.agg (optT (pathGetO v p)).enc), .d (.one (.bool (decide ((pathGetO v p).isSome = true))))] := Spec.of_res spPathGetS_inj (v, p)
theorem spPathGetS_out  (v : T) (p : List Stp) : (spPathGetS).out [.d (.agg v.enc), .d (.one (.row 3 (encS p)))] = [.gone, .gone] := Spec.of_out spPathGetS_inj (v, p)
theorem pathGetS_sound : Sound Tryd.prog 29 spPathGetS := by
 refine sound_fam (GOK.cons (l := [(24, spPathOk), (65, spL3Get), (66, spCopyT)]) call_ValOk sOkT_sound (GOK.cons call_PathOk PathOk_sound (GOK.cons call_l3Get l3Get_sound (GOK.cons call_l1Copy copyT_sound GOK.nil)))) Tryd.func29 (c := Tryd.f29.body.getD .skip) rfl (n := 26) rfl chk_PathGetS rs_PathGetS (fun _ => by simp) ?_ ?_
 ·exact spPathGetS_inj
 ·rintro ⟨v, p⟩ ⟨h1, h2, h3⟩
  simp only at h1 h2 h3
  have f0 := T.enc_len v
  have w1 : (optT none).enc = T.zero.enc := rfl
  have w2 : ((none : Option T).isSome = true) = False := by simp
  by_cases c1 : okT v
  ·have d1 := eq_true c1
   by_cases c2 : wayOk p
   ·have d2 := eq_true c2
    have e := pathGetO_ok2 c1 c2
    have f1 := T.enc_len (optT (wgetO v p))
    have f2 : (optT (wgetO v p)).fit 2000000 := by
     cases hg : wgetO v p with
     | none => exact zero_fit 2000000 (by decide)
     | some x => exact T.fit_mono (by decide) (okT_fit (wgetO_ok c1 hg))
    simp only [x_PathGetS, rg, go_sem, seval, Prod.fst, f0, f1, d1, d2, e, encS_len, spOkT_md, spOkT_pre, spOkT_alts, spOkT_res, spOkT_out, spPathOk_md, spPathOk_pre, spPathOk_alts, spPathOk_res, spPathOk_out, spL3Get_md, spL3Get_pre, spL3Get_alts, spL3Get_res, spL3Get_out, spCopyT_md, spCopyT_pre, spCopyT_alts, spCopyT_res, spCopyT_out]
    repeat' (first | with_reducible assumption | with_reducible refine And.intro ?_ ?_ | intro _)
    all_goals first | omega | assumption | skip
   ·have e := pathGetO_not (v := v) (p := p) (fun h => c2 h.2)
    have d2 := eq_false c2
    simp only [x_PathGetS, rg, go_sem, seval, Prod.fst, f0, e, d1, d2, w1, w2, T.zero_enc, spOkT_md, spOkT_pre, spOkT_alts, spOkT_res, spOkT_out, spPathOk_md, spPathOk_pre, spPathOk_alts, spPathOk_res, spPathOk_out]
    repeat' (first | with_reducible assumption | with_reducible refine And.intro ?_ ?_ | intro _)
    all_goals first | omega | assumption | skip
  ·have e := pathGetO_not (v := v) (p := p) (fun h => c1 h.1)
   have d1 := eq_false c1
   simp only [x_PathGetS, rg, go_sem, seval, Prod.fst, f0, e, d1, w1, w2, T.zero_enc, spOkT_md, spOkT_pre, spOkT_alts, spOkT_res, spOkT_out, spPathOk_md, spPathOk_pre, spPathOk_alts, spPathOk_res, spPathOk_out]
   repeat' (first | with_reducible assumption | with_reducible refine And.intro ?_ ?_ | intro _)
   all_goals first | omega | assumption | skip
def spDPOk  : Spec := Spec.ofR (ι := (List Int)) (κ := (List Stp)) [false] (fun i => [.d (.one (.row 1 (ints .u8 i)))]) (fun i => (∀ b ∈ i, 0 <= b /\ b <= 255) /\ lenB 140737488355328 i.length) (fun i k => drP 62 k) (fun i k => [.own 3 (encS k)]) (fun i k => [.gone])
theorem spDPOk_inj : ∀ i j : (List Int), (fun (i : (List Int)) => ([.d (.one (.row 1 (ints .u8 i)))] : List AV)) i = (fun (i : (List Int)) => ([.d (.one (.row 1 (ints .u8 i)))] : List AV)) j -> i = j := by
 intro bs bs' h
 simpa [strs_eq, T.enc_eq, encL_eq, F.enc_eq, encF_eq, Tk.enc_eq, encTk_eq, Gn.enc_eq, ints_eq, encS_eq] using h
theorem spDPOk_md  : (spDPOk).md = [false] := rfl
theorem spDPOk_pre  (bs : List Int) : (spDPOk).pre [.d (.one (.row 1 (ints .u8 bs)))] = ((∀ b ∈ bs, 0 <= b /\ b <= 255) /\ lenB 140737488355328 bs.length) := Spec.ofR_pre spDPOk_inj bs
theorem spDPOk_ne0  (bs : List Int) : (spDPOk).ne [.d (.one (.row 1 (ints .u8 bs)))] = (∃ k : (List Stp), drP 62 k) := Spec.ofR_ne spDPOk_inj bs
theorem spDPOk_all  (bs : List Int) (F : List AV -> List AV -> Prop) : (spDPOk).all [.d (.one (.row 1 (ints .u8 bs)))] F = (∀ (w : List Stp), (drP 62 w) -> F [.own 3 (encS w)] [.gone]) := by
 refine (Spec.ofR_all spDPOk_inj bs F).trans (propext ⟨fun h w hr => h w hr, fun h k hr => ?_⟩)
 exact h k hr
theorem drT_facts {m : Int} {t : T} (h : drT m t) (hm : m <= 1048577) : t.fit 2000000 /\ sizeT t <= 1048577 := ⟨T.fit_mono (by decide) h.1, by have := h.2.1; omega⟩
set_option maxHeartbeats 1000000 in
theorem DrawPathOk_sound : Sound Tryd.prog 50 spDPOk := by
 refine sound_famR (GOK.cons (l := [(59, spSome), (60, spBentP)]) call_l11Open l11Open_sound (GOK.cons call_l1Some l1Some_sound (GOK.cons call_l3Bent l3Bent_sound GOK.nil))) Tryd.func50 (c := Tryd.f50.body.getD .skip) rfl (n := 12) rfl chk_DrawPathOk rs_DrawPathOk (fun _ => by simp) ?_
 ·rintro bs ⟨hb, h1⟩
  have hy := byt_take hb
  simp only [x_DrawPathOk, rg, go_sem, seval, Prod.fst, T.enc_len, spOpen_md, spOpen_pre, spOpen_alts, spOpen_res, spOpen_out, spSome_md, spSome_pre, spSome_ne, ↓spSome_all, spSome_all]
  repeat' (first | with_reducible assumption | with_reducible refine And.intro ?_ ?_ | intro _)
  all_goals first | omega | skip
  rename_i k n s ks l q hd
  have hf := drT_facts hd.1 (by decide)
  have hq := hd.2
  have e := foldVal' k n s ks l
  generalize hT : T.mk k n s ks l = t at *
  have fT := T.enc_len t
  simp only [rg, go_sem, seval, Prod.fst, e, fT, spBentP_md, spBentP_pre, spBentP_ne, ↓spBentP_all, spBentP_all]
  repeat' (first | with_reducible assumption | with_reducible refine And.intro ?_ ?_ | intro _)
  all_goals first | omega | exact hy | exact hf.1 | exact hf.2 | skip
  rename_i w q2 hw
  exact ⟨w, hw.1, rfl⟩
theorem DrawPathText_sound : Sound Tryd.prog 19 spDPOk := by
 refine sound_famR (GOK.cons call_DrawPathOk DrawPathOk_sound GOK.nil) Tryd.func19 (c := Tryd.f19.body.getD .skip) rfl (n := 5) rfl chk_DrawPathText rs_DrawPathText (fun _ => by simp) ?_
 ·rintro bs ⟨hb, h1⟩
  simp only [x_DrawPathText, rg, go_sem, seval, Prod.fst, spDPOk_md, spDPOk_pre, spDPOk_ne0, ↓spDPOk_all, spDPOk_all]
  repeat' (first | with_reducible assumption | with_reducible refine And.intro ?_ ?_ | intro _)
  all_goals first | omega | skip
  rename_i w hw
  exact ⟨w, hw, rfl⟩
def spDPGet  : Spec := Spec.ofR (ι := (List Int)) (κ := Int × Int × ByteArray × (List ByteArray) × (List T) × (List Stp)) [false] (fun i => [.d (.one (.row 1 (ints .u8 i)))]) (fun i => (∀ b ∈ i, 0 <= b /\ b <= 255) /\ lenB 140737488355328 i.length) (fun i k => drW 15700 (.mk k.1 k.2.1 k.2.2.1 k.2.2.2.1 k.2.2.2.2.1) /\ drP 62 k.2.2.2.2.2) (fun i k => [.d (.agg (T.mk k.1 k.2.1 k.2.2.1 k.2.2.2.1 k.2.2.2.2.1).enc), .d (.one (.row 3 (encS k.2.2.2.2.2)))]) (fun i k => [.gone])
theorem spDPGet_inj : ∀ i j : (List Int), (fun (i : (List Int)) => ([.d (.one (.row 1 (ints .u8 i)))] : List AV)) i = (fun (i : (List Int)) => ([.d (.one (.row 1 (ints .u8 i)))] : List AV)) j -> i = j := by
 intro bs bs' h
 simpa [strs_eq, T.enc_eq, encL_eq, F.enc_eq, encF_eq, Tk.enc_eq, encTk_eq, Gn.enc_eq, ints_eq, encS_eq] using h
theorem spDPGet_md  : (spDPGet).md = [false] := rfl
theorem spDPGet_pre  (bs : List Int) : (spDPGet).pre [.d (.one (.row 1 (ints .u8 bs)))] = ((∀ b ∈ bs, 0 <= b /\ b <= 255) /\ lenB 140737488355328 bs.length) := Spec.ofR_pre spDPGet_inj bs
theorem spDPGet_ne0  (bs : List Int) : (spDPGet).ne [.d (.one (.row 1 (ints .u8 bs)))] = (∃ k : Int × Int × ByteArray × (List ByteArray) × (List T) × (List Stp), drW 15700 (.mk k.1 k.2.1 k.2.2.1 k.2.2.2.1 k.2.2.2.2.1) /\ drP 62 k.2.2.2.2.2) := Spec.ofR_ne spDPGet_inj bs
theorem spDPGet_all  (bs : List Int) (F : List AV -> List AV -> Prop) : (spDPGet).all [.d (.one (.row 1 (ints .u8 bs)))] F = (∀ (k : Int) (n : Int) (s : ByteArray) (ks : List ByteArray) (l : List T) (w : List Stp), (drW 15700 (.mk k n s ks l) /\ drP 62 w) -> F [.d (.agg (T.mk k n s ks l).enc), .d (.one (.row 3 (encS w)))] [.gone]) := by
 refine (Spec.ofR_all spDPGet_inj bs F).trans (propext ⟨fun h k n s ks l w hr => h (k, n, s, ks, l, w) hr, fun h k hr => ?_⟩)
 exact h k.1 k.2.1 k.2.2.1 k.2.2.2.1 k.2.2.2.2.1 k.2.2.2.2.2 hr
set_option maxHeartbeats 1000000 in
theorem DrawPathGet_sound : Sound Tryd.prog 27 spDPGet := by
 have hW : Sound Tryd.prog 60 spBentP.weak := l3Bent_sound.weak (by
  rintro ds r o _ ⟨i, k, _, _, rfl, _⟩ x hx
  rw [List.mem_singleton] at hx; subst hx
  simp [AV.dt])
 refine sound_famR (GOK.cons (l := [(30, spBent), (60, spBentP.weak)]) call_l11Open l11Open_sound (GOK.cons call_l1Bent l1Bent_sound (GOK.cons call_l3Bent hW GOK.nil))) Tryd.func27 (c := Tryd.f27.body.getD .skip) rfl (n := 14) rfl chk_DrawPathGet rs_DrawPathGet (fun _ => by simp) ?_
 ·rintro bs ⟨hb, h1⟩
  have hy := byt_take hb
  simp only [x_DrawPathGet, rg, go_sem, seval, Prod.fst, T.enc_len, spOpen_md, spOpen_pre, spOpen_alts, spOpen_res, spOpen_out, spBent_md, spBent_pre, spBent_ne, ↓spBent_all, spBent_all, spBent_md, spBent_pre, spBent_ne, ↓spBent_all, spBent_all, weak_md, weak_pre, weak_ne, ↓weak_all, AV.weak, dtR_encS, spBentP_md, spBentP_pre, spBentP_ne, ↓spBentP_all, spBentP_all]
  repeat' (first | with_reducible assumption | with_reducible refine And.intro ?_ ?_ | intro _)
  all_goals first | omega | skip
  ·have := (‹drW _ _ /\ _›).1.1
   exact T.fit_mono (by decide) this
  ·have := (‹drW _ _ /\ _›).1.2
   omega
  rename_i k n s ks l q hv w q1 hw
  exact ⟨(k, n, s, ks, l, w), ⟨hv.1, hw.1⟩, rfl, rfl⟩
def spDPRd  : Spec := Spec.ofR (ι := (List Int)) (κ := ByteArray) [false] (fun i => [.d (.one (.row 1 (ints .u8 i)))]) (fun i => (∀ b ∈ i, 0 <= b /\ b <= 255) /\ lenB 140737488355328 i.length) (fun i k => (k.size : Int) <= 10000) (fun i k => [.d (.one (.str k))]) (fun i k => [.gone])
theorem spDPRd_inj : ∀ i j : (List Int), (fun (i : (List Int)) => ([.d (.one (.row 1 (ints .u8 i)))] : List AV)) i = (fun (i : (List Int)) => ([.d (.one (.row 1 (ints .u8 i)))] : List AV)) j -> i = j := by
 intro bs bs' h
 simpa [strs_eq, T.enc_eq, encL_eq, F.enc_eq, encF_eq, Tk.enc_eq, encTk_eq, Gn.enc_eq, ints_eq, encS_eq] using h
theorem spDPRd_md  : (spDPRd).md = [false] := rfl
theorem spDPRd_pre  (bs : List Int) : (spDPRd).pre [.d (.one (.row 1 (ints .u8 bs)))] = ((∀ b ∈ bs, 0 <= b /\ b <= 255) /\ lenB 140737488355328 bs.length) := Spec.ofR_pre spDPRd_inj bs
theorem spDPRd_ne0  (bs : List Int) : (spDPRd).ne [.d (.one (.row 1 (ints .u8 bs)))] = (∃ k : ByteArray, (k.size : Int) <= 10000) := Spec.ofR_ne spDPRd_inj bs
theorem spDPRd_all  (bs : List Int) (F : List AV -> List AV -> Prop) : (spDPRd).all [.d (.one (.row 1 (ints .u8 bs)))] F = (∀ (s : ByteArray), ((s.size : Int) <= 10000) -> F [.d (.one (.str s))] [.gone]) := by
 refine (Spec.ofR_all spDPRd_inj bs F).trans (propext ⟨fun h s hr => h s hr, fun h k hr => ?_⟩)
 exact h k hr
theorem strs6' (a b c d e f : ByteArray) : C.row 1 [[C.str a], [C.str b], [C.str c], [C.str d], [C.str e], [C.str f]] = C.row 1 (strs [a, b, c, d, e, f]) := rfl
set_option maxHeartbeats 2000000 in
theorem DrawPathRead_sound : Sound Tryd.prog 25 spDPRd := by
 refine sound_famR (GOK.cons (l := [(59, spSome), (60, spBentP), (22, spPathText), (48, spPick), (49, spDof)]) call_l11Open l11Open_sound (GOK.cons call_l1Some l1Some_sound (GOK.cons call_l3Bent l3Bent_sound (GOK.cons call_PathText pathText_sound (GOK.cons (l := [(49, spDof)]) call_pick pick_sound (GOK.cons call_dof dof_sound GOK.nil)))))) Tryd.func25 (c := Tryd.f25.body.getD .skip) rfl (n := 42) rfl chk_DrawPathRead rs_DrawPathRead (fun _ => by simp) ?_
 ·rintro bs ⟨hb, h1⟩
  have hy := byt_take hb
  have u6 : ∀ x : ByteArray, x ∈ [(⟨#[]⟩ : ByteArray), ⟨#[46]⟩, ⟨#[91, 48, 93]⟩, ⟨#[48]⟩, ⟨#[36]⟩, ⟨#[45]⟩] \/ False -> x.size <= 4 := fun x hx => by
   simp only [List.mem_cons, List.not_mem_nil, or_false] at hx
   rcases hx with rfl | rfl | rfl | rfl | rfl | rfl <;> decide
  simp only [x_DrawPathRead, rg, go_sem, seval, Prod.fst, T.enc_len, spOpen_md, spOpen_pre, spOpen_alts, spOpen_res, spOpen_out, spSome_md, spSome_pre, spSome_ne, ↓spSome_all, spSome_all]
  repeat' (first | with_reducible assumption | with_reducible refine And.intro ?_ ?_ | intro _)
  all_goals first | omega | skip
  rename_i k n s ks l q hd
  have hf := drT_facts hd.1 (by decide)
  have hq := hd.2
  have e := foldVal' k n s ks l
  generalize hT : T.mk k n s ks l = t at *
  have fT := T.enc_len t
  simp only [rg, go_sem, seval, Prod.fst, e, fT, spBentP_md, spBentP_pre, spBentP_ne, ↓spBentP_all, spBentP_all]
  repeat' (first | with_reducible assumption | with_reducible refine And.intro ?_ ?_ | intro _)
  all_goals first | omega | exact hy | exact hf.1 | exact hf.2 | skip
  rename_i w q2 hw
  have hwf := hw.1.fit (by decide)
  have hv := pathText_le w
  have hq2 := hw.2
  by_cases c0 : (pathText w).size = 0
  ·have a0 : (((pathText w).size : Int) = 0) = True := eq_true (by omega)
   simp only [rg, go_sem, seval, Prod.fst, T.enc_len, encS_len, a0, spPathText_md, spPathText_pre, spPathText_alts, spPathText_res, spPathText_out, spPick_md, spPick_pre, spPick_ne, ↓spPick_all, spPick_all]
   repeat' (first | with_reducible assumption | with_reducible refine And.intro ?_ ?_ | intro _)
   all_goals first | omega | exact hwf | skip
   exact ⟨_, by omega, rfl⟩
  ·have a0 : (((pathText w).size : Int) = 0) = False := eq_false (by omega)
   simp only [rg, go_sem, seval, Prod.fst, T.enc_len, encS_len, a0, strs6', spPathText_md, spPathText_pre, spPathText_alts, spPathText_res, spPathText_out, spPick_md, spPick_pre, spPick_ne, ↓spPick_all, spPick_all, spDof_md, spDof_pre, spDof_ne, ↓spDof_all, spDof_all]
   repeat' (first | with_reducible assumption | with_reducible refine And.intro ?_ ?_ | intro _)
   all_goals first | omega | exact hy | exact hwf | skip
   ·exact ⟨_, by omega, rfl⟩
   ·rename_i x hx
    have e1 := u6 x hx
    simp only [ByteArray.size_extract]
    omega
   ·rename_i x hx _ _
    have e1 := u6 x hx
    simp only [ByteArray.size_extract]
    omega
   ·rename_i x hx _ _ _
    have e1 := u6 x hx
    exact ⟨_, by simp only [ByteArray.size_append, ByteArray.size_extract]; omega, rfl⟩
end Go.Proofs.Pw
namespace Go.Proofs.Pw
def bytes (bs : List Int) : Prop := (∀ b ∈ bs, 0 <= b /\ b <= 255) /\ lenB 140737488355328 bs.length
end Go.Proofs.Pw
namespace Go.Proofs.Pw
variable [Globs]
def x_lawPT : X := (.seq (.reg [⟨some 4, none, .mv (.k (.c (.bool false)))⟩] none [0, 1]) (.seq (.seq (.reg [⟨some 25, none, .mv (.t 0)⟩, ⟨some 26, none, .len (.t 25) false⟩, ⟨some 27, none, .bin false .gtr (.t 26) (.k (.c (.int .i64 1048576)))⟩, ⟨some 28, none, .mv (.t 27)⟩, ⟨some 29, some (28, false), .mv (.t 1)⟩, ⟨some 30, some (28, false), .len (.t 29) false⟩, ⟨some 31, some (28, false), .bin false .gtr (.t 30) (.k (.c (.int .i64 1048576)))⟩, ⟨some 32, none, .pick (.t 28) (.k (.c (.bool true))) (.t 31)⟩] none [0, 1, 32]) (.cond (.t 32) (.seq (.reg [⟨some 4, none, .mv (.k (.c (.bool true)))⟩] none [4]) .ret) .skip)) (.seq (.reg [⟨some 33, none, .mv (.t 0)⟩, ⟨some 34, none, .callr 19 [(.t 33)]⟩, ⟨some 5, none, .mv (.t 34)⟩] none [0, 1, 5]) (.seq (.reg [⟨some 35, none, .mv (.t 5)⟩, ⟨some 36, none, .call 20 [(.t 35)]⟩, ⟨some 6, none, .mv (.t 36)⟩] none [0, 1, 5, 6]) (.seq (.reg [⟨some 38, none, .mv (.t 6)⟩, ⟨some 39, none, .call 21 [(.t 38)]⟩, ⟨some 37, none, .mv (.t 39)⟩, ⟨some 40, none, .ext (.t 37) 0⟩, ⟨some 41, none, .ext (.t 37) 1⟩, ⟨some 7, none, .mv (.t 40)⟩, ⟨some 8, none, .mv (.t 41)⟩] none [0, 1, 5, 6, 7, 8]) (.seq (.seq (.reg [⟨some 42, none, .mv (.t 6)⟩, ⟨some 43, none, .mv (.t 5)⟩, ⟨some 44, none, .call 22 [(.t 43)]⟩, ⟨some 45, none, .bin false .neq (.t 42) (.t 44)⟩, ⟨some 46, none, .mv (.t 45)⟩, ⟨some 47, some (46, false), .mv (.t 5)⟩, ⟨some 48, some (46, false), .call 23 [(.t 47)]⟩, ⟨some 49, some (46, false), .mv (.t 5)⟩, ⟨some 50, some (46, false), .call 24 [(.t 49)]⟩, ⟨some 51, some (46, false), .bin true .neq (.t 48) (.t 50)⟩, ⟨some 52, none, .pick (.t 46) (.k (.c (.bool true))) (.t 51)⟩, ⟨some 53, none, .mv (.t 52)⟩, ⟨some 54, some (53, false), .mv (.t 8)⟩, ⟨some 55, some (53, false), .mv (.t 5)⟩, ⟨some 56, some (53, false), .call 24 [(.t 55)]⟩, ⟨some 57, some (53, false), .mv (.t 56)⟩, ⟨some 58, some (57, true), .mv (.t 6)⟩, ⟨some 59, some (57, true), .len (.t 58) true⟩, ⟨some 60, some (57, true), .bin false .leq (.t 59) (.k (.c (.int .i64 120)))⟩, ⟨some 61, some (53, false), .pick (.t 57) (.t 60) (.k (.c (.bool false)))⟩, ⟨some 62, some (53, false), .bin true .neq (.t 54) (.t 61)⟩, ⟨some 63, none, .pick (.t 53) (.k (.c (.bool true))) (.t 62)⟩, ⟨some 64, none, .mv (.t 63)⟩, ⟨some 65, some (64, false), .mv (.t 8)⟩, ⟨some 66, some (64, false), .mv (.t 65)⟩, ⟨some 67, some (66, true), .mv (.t 7)⟩, ⟨some 68, some (66, true), .call 20 [(.t 67)]⟩, ⟨some 69, some (66, true), .mv (.t 6)⟩, ⟨some 70, some (66, true), .bin false .neq (.t 68) (.t 69)⟩, ⟨some 71, some (64, false), .pick (.t 66) (.t 70) (.k (.c (.bool false)))⟩, ⟨some 72, none, .pick (.t 64) (.k (.c (.bool true))) (.t 71)⟩] none [0, 1, 72]) (.cond (.t 72) (.seq (.reg [⟨some 4, none, .mv (.k (.c (.bool false)))⟩] none [4]) .ret) .skip)) (.seq (.reg [⟨some 73, none, .mv (.t 1)⟩, ⟨some 74, none, .callr 25 [(.t 73)]⟩, ⟨some 9, none, .mv (.t 74)⟩] none [0, 1, 9]) (.seq (.reg [⟨some 76, none, .mv (.t 9)⟩, ⟨some 77, none, .call 21 [(.t 76)]⟩, ⟨some 75, none, .mv (.t 77)⟩, ⟨some 78, none, .ext (.t 75) 0⟩, ⟨some 79, none, .ext (.t 75) 1⟩, ⟨some 10, none, .mv (.t 78)⟩, ⟨some 11, none, .mv (.t 79)⟩] none [0, 1, 9, 10, 11]) (.seq (.reg [⟨some 81, none, .mv (.t 9)⟩, ⟨some 82, none, .call 26 [(.t 81)]⟩, ⟨some 80, none, .mv (.t 82)⟩, ⟨some 83, none, .ext (.t 80) 0⟩, ⟨some 84, none, .ext (.t 80) 1⟩, ⟨some 12, none, .mv (.t 83)⟩, ⟨some 13, none, .mv (.t 84)⟩] none [0, 1, 9, 10, 11, 13]) (.seq (.seq (.reg [⟨some 85, none, .mv (.t 11)⟩, ⟨some 86, none, .mv (.t 13)⟩, ⟨some 87, none, .bin true .neq (.t 85) (.t 86)⟩, ⟨some 88, none, .mv (.t 87)⟩, ⟨some 89, some (88, false), .mv (.t 11)⟩, ⟨some 90, some (88, false), .mv (.t 89)⟩, ⟨some 91, some (90, true), .mv (.t 10)⟩, ⟨some 92, some (90, true), .call 20 [(.t 91)]⟩, ⟨some 93, some (90, true), .mv (.t 9)⟩, ⟨some 94, some (90, true), .bin false .neq (.t 92) (.t 93)⟩, ⟨some 95, some (90, true), .mv (.t 94)⟩, ⟨some 96, some (95, false), .mv (.t 10)⟩, ⟨some 97, some (95, false), .call 23 [(.t 96)]⟩, ⟨some 98, some (95, false), .not (.t 97)⟩, ⟨some 99, some (90, true), .pick (.t 95) (.k (.c (.bool true))) (.t 98)⟩, ⟨some 100, some (88, false), .pick (.t 90) (.t 99) (.k (.c (.bool false)))⟩, ⟨some 101, none, .pick (.t 88) (.k (.c (.bool true))) (.t 100)⟩] none [0, 1, 101]) (.cond (.t 101) (.seq (.reg [⟨some 4, none, .mv (.k (.c (.bool false)))⟩] none [4]) .ret) .skip)) (.seq (.reg [⟨some 103, none, .mv (.t 0)⟩, ⟨some 104, none, .callr 27 [(.t 103)]⟩, ⟨some 102, none, .mv (.t 104)⟩, ⟨some 105, none, .ext (.t 102) 0⟩, ⟨some 106, none, .ext (.t 102) 1⟩, ⟨some 14, none, .alloc [(.c (.int .i64 0)), (.c (.int .i64 0)), (.c (.str ⟨#[]⟩)), (.z 1), (.z 5)]⟩, ⟨none, none, .st (.t 14) (.t 105) (some 5)⟩, ⟨some 15, none, .mv (.t 106)⟩] none [1, 14, 15]) (.seq (.reg [⟨some 108, none, .load (.t 14) (some 5)⟩, ⟨some 109, none, .mv (.t 15)⟩, ⟨some 110, none, .call 28 [(.t 108), (.t 109)]⟩, ⟨some 107, none, .mv (.t 110)⟩, ⟨some 111, none, .ext (.t 107) 0⟩, ⟨some 112, none, .ext (.t 107) 1⟩, ⟨some 16, none, .alloc [(.c (.int .i64 0)), (.c (.int .i64 0)), (.c (.str ⟨#[]⟩)), (.z 1), (.z 5)]⟩, ⟨none, none, .st (.t 16) (.t 111) (some 5)⟩, ⟨some 17, none, .mv (.t 112)⟩] none [1, 14, 15, 16, 17]) (.seq (.reg [⟨some 114, none, .load (.t 14) (some 5)⟩, ⟨some 115, none, .mv (.t 15)⟩, ⟨some 116, none, .call 29 [(.t 114), (.t 115)]⟩, ⟨some 113, none, .mv (.t 116)⟩, ⟨some 117, none, .ext (.t 113) 0⟩, ⟨some 118, none, .ext (.t 113) 1⟩, ⟨some 18, none, .alloc [(.c (.int .i64 0)), (.c (.int .i64 0)), (.c (.str ⟨#[]⟩)), (.z 1), (.z 5)]⟩, ⟨none, none, .st (.t 18) (.t 117) (some 5)⟩, ⟨some 19, none, .mv (.t 118)⟩] none [1, 14, 15, 16, 17, 18, 19]) (.seq (.seq (.reg [⟨some 119, none, .mv (.t 17)⟩, ⟨some 120, none, .mv (.t 19)⟩, ⟨some 121, none, .bin true .neq (.t 119) (.t 120)⟩, ⟨some 122, none, .mv (.t 121)⟩, ⟨some 123, some (122, false), .load (.t 16) (some 5)⟩, ⟨some 124, some (122, false), .load (.t 18) (some 5)⟩, ⟨some 125, some (122, false), .call 13 [(.t 123), (.t 124)]⟩, ⟨some 126, some (122, false), .not (.t 125)⟩, ⟨some 127, none, .pick (.t 122) (.k (.c (.bool true))) (.t 126)⟩, ⟨some 128, none, .mv (.t 127)⟩, ⟨some 129, some (128, false), .mv (.t 17)⟩, ⟨some 130, some (128, false), .not (.t 129)⟩, ⟨some 131, none, .pick (.t 128) (.k (.c (.bool true))) (.t 130)⟩] none [1, 14, 15, 16, 17, 18, 19, 131]) (.cond (.t 131) (.seq (.reg [⟨some 132, none, .mv (.t 17)⟩, ⟨some 133, none, .mv (.t 19)⟩, ⟨some 134, none, .bin true .eql (.t 132) (.t 133)⟩, ⟨some 135, none, .mv (.t 134)⟩, ⟨some 136, some (135, true), .load (.t 16) (some 5)⟩, ⟨some 137, some (135, true), .load (.t 18) (some 5)⟩, ⟨some 138, some (135, true), .call 13 [(.t 136), (.t 137)]⟩, ⟨some 139, none, .pick (.t 135) (.t 138) (.k (.c (.bool false)))⟩, ⟨some 4, none, .mv (.t 139)⟩] none [4]) .ret) .skip)) (.seq (.reg [⟨some 140, none, .mv (.t 1)⟩, ⟨some 141, none, .len (.t 140) false⟩, ⟨some 142, none, .mv (.t 15)⟩, ⟨some 143, none, .len (.t 142) false⟩, ⟨some 144, none, .bin false .add (.t 143) (.k (.c (.int .i64 1)))⟩, ⟨some 145, none, .bin false .rem (.t 141) (.t 144)⟩, ⟨some 20, none, .mv (.t 145)⟩] none [14, 15, 16, 20]) (.seq (.mix [⟨some 147, none, .load (.t 14) (some 5)⟩, ⟨some 148, none, .mv (.t 15)⟩, ⟨some 149, none, .mv (.t 20)⟩, ⟨some 150, none, .sub (.t 148) none (some (.t 149)) 3⟩, ⟨some 151, none, .call 28 [(.t 147), (.t 150)]⟩, ⟨some 146, none, .mv (.t 151)⟩, ⟨some 152, none, .ext (.t 146) 0⟩, ⟨some 153, none, .ext (.t 146) 1⟩, ⟨some 21, none, .alloc [(.c (.int .i64 0)), (.c (.int .i64 0)), (.c (.str ⟨#[]⟩)), (.z 1), (.z 5)]⟩, ⟨none, none, .st (.t 21) (.t 152) (some 5)⟩] [⟨some 22, none, .mv (.t 153)⟩] [[], [], [], [], [], [], [], [], [0, 1, 2, 3, 5, 6, 7], []] [15, 16, 20, 21, 22]) (.seq (.mix [⟨some 155, none, .load (.t 21) (some 5)⟩, ⟨some 156, none, .mv (.t 15)⟩, ⟨some 157, none, .mv (.t 20)⟩, ⟨some 158, none, .sub (.t 156) (some (.t 157)) none 3⟩, ⟨some 159, none, .call 28 [(.t 155), (.t 158)]⟩, ⟨some 154, none, .mv (.t 159)⟩, ⟨some 160, none, .ext (.t 154) 0⟩, ⟨some 161, none, .ext (.t 154) 1⟩, ⟨some 23, none, .alloc [(.c (.int .i64 0)), (.c (.int .i64 0)), (.c (.str ⟨#[]⟩)), (.z 1), (.z 5)]⟩, ⟨none, none, .st (.t 23) (.t 160) (some 5)⟩] [⟨some 24, none, .mv (.t 161)⟩] [[], [], [], [], [], [], [], [], [0, 1, 2, 3, 5, 6, 7], []] [16, 22, 23, 24]) (.seq (.reg [⟨some 162, none, .mv (.t 22)⟩, ⟨some 163, none, .mv (.t 162)⟩, ⟨some 164, some (163, true), .mv (.t 24)⟩, ⟨some 165, none, .pick (.t 163) (.t 164) (.k (.c (.bool false)))⟩, ⟨some 166, none, .mv (.t 165)⟩, ⟨some 167, some (166, true), .load (.t 23) (some 5)⟩, ⟨some 168, some (166, true), .load (.t 16) (some 5)⟩, ⟨some 169, some (166, true), .call 13 [(.t 167), (.t 168)]⟩, ⟨some 170, none, .pick (.t 166) (.t 169) (.k (.c (.bool false)))⟩, ⟨some 4, none, .mv (.t 170)⟩] none [4]) .ret))))))))))))))))))
theorem chk_lawPT : chkX Tryd.prog 171 (Tryd.f6.body.getD .skip) x_lawPT = true := by kernel_rfl
theorem rs_lawPT : okRs Tryd.prog Tryd.f6.results.toList [.tmp 4] = true := by kernel_rfl
theorem wget_app : ∀ (p q : List Stp) (v : T), wgetO v (p ++ q) = (wgetO v p).bind fun x => wgetO x q
 | [], q, v => by rw [List.nil_append, wgetO_nil]; rfl
 | s :: p, q, v => by
   rw [List.cons_append, wgetO_cons, wgetO_cons]
   split
   ·exact wget_app p q _
   ·rfl
theorem wayOk_take {p : List Stp} (h : wayOk p) (k : Nat) : wayOk (p.take k) /\ wayOk (p.drop k) :=
 ⟨⟨fun s hs => h.1 s (List.mem_of_mem_take hs), by have := h.2; simp; omega⟩, ⟨fun s hs => h.1 s (List.mem_of_mem_drop hs), by have := h.2; simp; omega⟩⟩
theorem wayFit_take {p : List Stp} (h : wayFit p) (k : Nat) : wayFit (p.take k) /\ wayFit (p.drop k) :=
 ⟨⟨by have := h.1; simp; omega, fun s hs => h.2 s (List.mem_of_mem_take hs)⟩, ⟨by have := h.1; simp; omega, fun s hs => h.2 s (List.mem_of_mem_drop hs)⟩⟩
theorem get_cut {v g : T} {q : List Stp} (h : pathGetO v q = some g) (k : Nat) : okT v /\ wayOk q /\ okT g /\ ∃ a, okT a /\ pathGetO v (q.take k) = some a /\ pathGetO a (q.drop k) = some g := by
 unfold pathGetO at h
 split at h
 ·rename_i hc
  obtain ⟨h1, h2⟩ := hc
  obtain ⟨h3, h4⟩ := wayOk_take h2 k
  have e := wget_app (q.take k) (q.drop k) v
  rw [List.take_append_drop, h] at e
  obtain ⟨a, e1, e2⟩ := Option.bind_eq_some_iff.1 e.symm
  have oa := wgetO_ok h1 e1
  exact ⟨h1, h2, wgetO_ok h1 h, a, oa, by rw [pathGetO_ok2 h1 h3]; exact e1, by rw [pathGetO_ok2 oa h4]; exact e2⟩
 ·cases h
theorem encS_tk (l : List Stp) (k : Nat) : encS (l.take k) = (encS l).take k := by simp [encS, List.map_take]
theorem encS_dp (l : List Stp) (k : Nat) : encS (l.drop k) = (encS l).drop k := by simp [encS, List.map_drop]
theorem drW_facts' {m : Int} {t : T} (h : drW m t) (hm : m <= 1048577) : t.fit 140737488355328 /\ sizeT t <= 1048577 := ⟨h.fit, by have := h.2; omega⟩
theorem wayOk_fit' {p : List Stp} (h : wayOk p) : wayFit p := by
 refine ⟨by have := h.2; omega, fun s hs => ?_⟩
 have h1 := h.1 s hs
 unfold stpOk at h1
 unfold stpFit
 split at h1
 ·have h2 := h1.1.2
  refine ⟨by omega, by omega, by omega⟩
 ·obtain ⟨h2, h3, h4⟩ := h1
  rw [h2]
  exact ⟨by decide, by omega, by omega⟩
noncomputable def spLawPT  : Spec := Spec.of (ι := (List Int) × (List Int)) [false, false] (fun i => [.d (.one (.row 1 (ints .u8 i.1))), .d (.one (.row 1 (ints .u8 i.2)))]) (fun i => bytes i.1 /\ bytes i.2) (fun _ => [.d (.one (.bool true))]) (fun _ => [.gone, .gone])
theorem spLawPT_inj : ∀ i j : (List Int) × (List Int), (fun (i : (List Int) × (List Int)) => ([.d (.one (.row 1 (ints .u8 i.1))), .d (.one (.row 1 (ints .u8 i.2)))] : List AV)) i = (fun (i : (List Int) × (List Int)) => ([.d (.one (.row 1 (ints .u8 i.1))), .d (.one (.row 1 (ints .u8 i.2)))] : List AV)) j -> i = j := by
 rintro ⟨a, b⟩ ⟨a', b'⟩ h
 simp only [Prod.mk.injEq]
 simpa [strs_eq, T.enc_eq, encL_eq, F.enc_eq, encF_eq, Tk.enc_eq, encTk_eq, Gn.enc_eq, ints_eq] using h
theorem spLawPT_pre  (a : List Int) (b : List Int) : (spLawPT).pre [.d (.one (.row 1 (ints .u8 a))), .d (.one (.row 1 (ints .u8 b)))] = (bytes a /\ bytes b) := Spec.of_pre' spLawPT_inj (a, b)
theorem spLawPT_res  (a : List Int) (b : List Int) : (spLawPT).res [.d (.one (.row 1 (ints .u8 a))), .d (.one (.row 1 (ints .u8 b)))] = [.d (.one (.bool true))] := Spec.of_res spLawPT_inj (a, b)
set_option maxHeartbeats 8000000 in
theorem lawPT_sound (hE : errK) (hK : tabK) : Sound Tryd.prog 6 spLawPT := by
 refine sound_fam (GOK.cons (l := [(20, spPathText), (22, spPathText), (21, spPRead), (26, spPRead), (23, spPathOkI), (24, spPathOk), (28, spPathGetI), (29, spPathGetS), (13, spSameIV), (25, spDPRd), (27, spDPGet)]) call_DrawPathText DrawPathText_sound (GOK.cons call_PathTextI (pathTextI_sound hK) (GOK.cons call_PathText pathText_sound (GOK.cons call_PathReadI (pathReadI_sound hE hK) (GOK.cons call_PathReadS pathRead_sound (GOK.cons call_PathOkI PathOkI_sound (GOK.cons call_PathOk PathOk_sound (GOK.cons call_PathGetI PathGetI_sound (GOK.cons call_PathGetS pathGetS_sound (GOK.cons call_ValSameI sameIV_sound (GOK.cons call_DrawPathRead DrawPathRead_sound (GOK.cons call_DrawPathGet DrawPathGet_sound GOK.nil)))))))))))) Tryd.func6 (c := Tryd.f6.body.getD .skip) rfl (n := 171) rfl chk_lawPT rs_lawPT (fun _ => by simp) ?_ ?_
 ·exact spLawPT_inj
 ·rintro ⟨a, b⟩ ⟨h1, h2⟩
  simp only [bytes, lenB] at h1 h2
  simp only [x_lawPT, rg, go_sem, seval, Prod.fst, ints_len, T.enc_len, spDPOk_md, spDPOk_pre, ↓spDPOk_all, spDPOk_all]
  repeat' (first | with_reducible assumption | with_reducible refine And.intro ?_ ?_ | intro _)
  all_goals first | omega | skip
  ·exact (h1.1 _ (by assumption)).1
  ·exact (h1.1 _ (by assumption)).2
  ·unfold lenB; omega
  rename_i w hw
  have fw := hw.fit (by decide)
  have sw := pathText_le w
  have e3 : (((pathText w).size : Int) <= 120) = True := eq_true (by omega)
  by_cases c0 : wayOk w
  ·have e0 := eq_true c0
   obtain ⟨g1, g2⟩ := wayS_of c0 rfl
   have e1 := eq_true g1
   simp only [rg, go_sem, seval, Prod.fst, ints_len, encS_len, e0, e1, e3, g2, spPathText_md, spPathText_pre, spPathText_alts, spPathText_res, spPathText_out, spPRead_md, spPRead_pre, spPRead_alts, spPRead_res, spPRead_out, spPathOk_md, spPathOk_pre, spPathOk_alts, spPathOk_res, spPathOk_out, spPathOkI_md, spPathOkI_pre, spPathOkI_alts, spPathOkI_res, spPathOkI_out]
   repeat' (first | with_reducible assumption | with_reducible refine And.intro ?_ ?_ | intro _)
   all_goals first | omega | (unfold lenB; omega) | exact fw | exact (h2.1 _ (by assumption)).1 | exact (h2.1 _ (by assumption)).2 | exact (h1.1 _ (by assumption)).1 | exact (h1.1 _ (by assumption)).2 | skip
   simp only [rg, go_sem, seval, Prod.fst, ints_len, spDPRd_md, spDPRd_pre, spDPRd_ne0, ↓spDPRd_all, spDPRd_all]
   repeat' (first | with_reducible assumption | with_reducible refine And.intro ?_ ?_ | intro _)
   all_goals first | omega | (unfold lenB; omega) | exact fw | exact (h2.1 _ (by assumption)).1 | exact (h2.1 _ (by assumption)).2 | exact (h1.1 _ (by assumption)).1 | exact (h1.1 _ (by assumption)).2 | skip
   rename_i x hx
   by_cases c1 : wayOkS x
   ·obtain ⟨g3, g4⟩ := wayS_ok c1
    have e4 := eq_true c1
    have e5 := eq_true g3
    have fy : wayFit (wayS x) := wayOk_fit' g3
    simp only [rg, go_sem, seval, Prod.fst, ints_len, encS_len, e4, e5, g4, spPathText_md, spPathText_pre, spPathText_alts, spPathText_res, spPathText_out, spPRead_md, spPRead_pre, spPRead_alts, spPRead_res, spPRead_out, spPathOkI_md, spPathOkI_pre, spPathOkI_alts, spPathOkI_res, spPathOkI_out]
    repeat' (first | with_reducible assumption | with_reducible refine And.intro ?_ ?_ | intro _)
    all_goals first | omega | (unfold lenB; omega) | exact fy | skip
    simp only [rg, go_sem, seval, Prod.fst, ints_len, spDPGet_md, spDPGet_pre, spDPGet_ne0, ↓spDPGet_all, spDPGet_all]
    repeat' (first | with_reducible assumption | with_reducible refine And.intro ?_ ?_ | intro _)
    all_goals first | omega | (unfold lenB; omega) | exact fw | exact (h2.1 _ (by assumption)).1 | exact (h2.1 _ (by assumption)).2 | exact (h1.1 _ (by assumption)).1 | exact (h1.1 _ (by assumption)).2 | skip
    rename_i k n s ks l q hd
    generalize hT : T.mk k n s ks l = t at *
    have ft := T.enc_len t
    obtain ⟨f1, f2⟩ := drW_facts' hd.1 (by decide)
    have fq := hd.2.fit (by decide)
    have lq := hd.2.1
    have w2 : ((none : Option T).isSome = true) = False := by simp
    cases hg : pathGetO t q with
    | none =>
      have fz := T.enc_len (optT none)
      have fz2 : (optT none).fit 140737488355328 := zero_fit _ (by decide)
      simp only [rg, go_sem, seval, Prod.fst, ft, fz, hg, w2, encS_len, spPathGetI_md, spPathGetI_pre, spPathGetI_alts, spPathGetI_res, spPathGetI_out, spPathGetS_md, spPathGetS_pre, spPathGetS_alts, spPathGetS_res, spPathGetS_out, spSameIV_md, spSameIV_pre, spSameIV_alts, spSameIV_res, spSameIV_out]
      repeat' (first | with_reducible assumption | with_reducible refine And.intro ?_ ?_ | intro _)
      all_goals first | omega | exact f1 | exact f2 | exact fq | exact fz2 | skip
    | some g =>
      have w3 : ((some g).isSome = true) = True := by simp
      have w4 : optT (some g) = g := rfl
      have fz := T.enc_len g
      obtain ⟨_, _, og, _⟩ := get_cut hg 0
      have fg : g.fit 140737488355328 := T.fit_mono (by decide) (okT_fit og)
      have hk0 : 0 <= (b.length : Int).tmod ((q.length : Int) + 1) := Int.tmod_nonneg _ (by omega)
      have hk1 : (b.length : Int).tmod ((q.length : Int) + 1) < (q.length : Int) + 1 := Int.tmod_lt_of_pos _ (by omega)
      obtain ⟨y, hy⟩ : ∃ y : Nat, (b.length : Int).tmod ((q.length : Int) + 1) = (y : Int) := ⟨((b.length : Int).tmod ((q.length : Int) + 1)).toNat, by omega⟩
      rw [hy] at hk0 hk1
      obtain ⟨_, _, _, aa, oa, ga, gb⟩ := get_cut hg y
      have fa : aa.fit 140737488355328 := T.fit_mono (by decide) (okT_fit oa)
      have fla := T.enc_len aa
      have w5 : ((some aa).isSome = true) = True := by simp
      have w6 : optT (some aa) = aa := rfl
      obtain ⟨k1, k2⟩ := wayFit_take fq y
      have e7 : (encS q).take y = encS (q.take y) := (encS_tk q y).symm
      have e8 : (encS q).drop y = encS (q.drop y) := (encS_dp q y).symm
      have e9 : (encS q).take q.length = encS q := List.take_of_length_le (by rw [encS_len]; omega)
      simp only [rg, go_sem, seval, Prod.fst, ft, fz, fla, hg, hy, ga, gb, w3, w4, w5, w6, e7, e8, e9, ints_len, encS_len, Int.toNat_natCast, List.drop_zero, spPathGetI_md, spPathGetI_pre, spPathGetI_alts, spPathGetI_res, spPathGetI_out, spPathGetS_md, spPathGetS_pre, spPathGetS_alts, spPathGetS_res, spPathGetS_out, spSameIV_md, spSameIV_pre, spSameIV_alts, spSameIV_res, spSameIV_out, Bool.false_or, Bool.or_true, Bool.not_true, Bool.false_eq_true]
      repeat' (first | with_reducible assumption | with_reducible refine And.intro ?_ ?_ | intro _)
      all_goals first | omega | exact f1 | exact f2 | exact fq | exact fg | exact fa | exact k1 | exact k2 | skip
   ·have e4 := eq_false c1
    simp only [rg, go_sem, seval, Prod.fst, ints_len, encS_len, e4, spPathText_md, spPathText_pre, spPathText_alts, spPathText_res, spPathText_out, spPRead_md, spPRead_pre, spPRead_alts, spPRead_res, spPRead_out, spPathOkI_md, spPathOkI_pre, spPathOkI_alts, spPathOkI_res, spPathOkI_out]
    repeat' (first | with_reducible assumption | with_reducible refine And.intro ?_ ?_ | intro _)
    all_goals first | omega | (unfold lenB; omega) | skip
    simp only [rg, go_sem, seval, Prod.fst, ints_len, spDPGet_md, spDPGet_pre, spDPGet_ne0, ↓spDPGet_all, spDPGet_all]
    repeat' (first | with_reducible assumption | with_reducible refine And.intro ?_ ?_ | intro _)
    all_goals first | omega | (unfold lenB; omega) | exact fw | exact (h2.1 _ (by assumption)).1 | exact (h2.1 _ (by assumption)).2 | exact (h1.1 _ (by assumption)).1 | exact (h1.1 _ (by assumption)).2 | skip
    rename_i k n s ks l q hd
    generalize hT : T.mk k n s ks l = t at *
    have ft := T.enc_len t
    obtain ⟨f1, f2⟩ := drW_facts' hd.1 (by decide)
    have fq := hd.2.fit (by decide)
    have lq := hd.2.1
    have w2 : ((none : Option T).isSome = true) = False := by simp
    cases hg : pathGetO t q with
    | none =>
      have fz := T.enc_len (optT none)
      have fz2 : (optT none).fit 140737488355328 := zero_fit _ (by decide)
      simp only [rg, go_sem, seval, Prod.fst, ft, fz, hg, w2, encS_len, spPathGetI_md, spPathGetI_pre, spPathGetI_alts, spPathGetI_res, spPathGetI_out, spPathGetS_md, spPathGetS_pre, spPathGetS_alts, spPathGetS_res, spPathGetS_out, spSameIV_md, spSameIV_pre, spSameIV_alts, spSameIV_res, spSameIV_out]
      repeat' (first | with_reducible assumption | with_reducible refine And.intro ?_ ?_ | intro _)
      all_goals first | omega | exact f1 | exact f2 | exact fq | exact fz2 | skip
    | some g =>
      have w3 : ((some g).isSome = true) = True := by simp
      have w4 : optT (some g) = g := rfl
      have fz := T.enc_len g
      obtain ⟨_, _, og, _⟩ := get_cut hg 0
      have fg : g.fit 140737488355328 := T.fit_mono (by decide) (okT_fit og)
      have hk0 : 0 <= (b.length : Int).tmod ((q.length : Int) + 1) := Int.tmod_nonneg _ (by omega)
      have hk1 : (b.length : Int).tmod ((q.length : Int) + 1) < (q.length : Int) + 1 := Int.tmod_lt_of_pos _ (by omega)
      obtain ⟨y, hy⟩ : ∃ y : Nat, (b.length : Int).tmod ((q.length : Int) + 1) = (y : Int) := ⟨((b.length : Int).tmod ((q.length : Int) + 1)).toNat, by omega⟩
      rw [hy] at hk0 hk1
      obtain ⟨_, _, _, aa, oa, ga, gb⟩ := get_cut hg y
      have fa : aa.fit 140737488355328 := T.fit_mono (by decide) (okT_fit oa)
      have fla := T.enc_len aa
      have w5 : ((some aa).isSome = true) = True := by simp
      have w6 : optT (some aa) = aa := rfl
      obtain ⟨k1, k2⟩ := wayFit_take fq y
      have e7 : (encS q).take y = encS (q.take y) := (encS_tk q y).symm
      have e8 : (encS q).drop y = encS (q.drop y) := (encS_dp q y).symm
      have e9 : (encS q).take q.length = encS q := List.take_of_length_le (by rw [encS_len]; omega)
      simp only [rg, go_sem, seval, Prod.fst, ft, fz, fla, hg, hy, ga, gb, w3, w4, w5, w6, e7, e8, e9, ints_len, encS_len, Int.toNat_natCast, List.drop_zero, spPathGetI_md, spPathGetI_pre, spPathGetI_alts, spPathGetI_res, spPathGetI_out, spPathGetS_md, spPathGetS_pre, spPathGetS_alts, spPathGetS_res, spPathGetS_out, spSameIV_md, spSameIV_pre, spSameIV_alts, spSameIV_res, spSameIV_out, Bool.false_or, Bool.or_true, Bool.not_true, Bool.false_eq_true]
      repeat' (first | with_reducible assumption | with_reducible refine And.intro ?_ ?_ | intro _)
      all_goals first | omega | exact f1 | exact f2 | exact fq | exact fg | exact fa | exact k1 | exact k2 | skip
  ·have e0 := eq_false c0
   have e1 := eq_false (wayOkS_no c0)
   simp only [rg, go_sem, seval, Prod.fst, ints_len, encS_len, e0, e1, e3, spPathText_md, spPathText_pre, spPathText_alts, spPathText_res, spPathText_out, spPRead_md, spPRead_pre, spPRead_alts, spPRead_res, spPRead_out, spPathOk_md, spPathOk_pre, spPathOk_alts, spPathOk_res, spPathOk_out, spPathOkI_md, spPathOkI_pre, spPathOkI_alts, spPathOkI_res, spPathOkI_out]
   repeat' (first | with_reducible assumption | with_reducible refine And.intro ?_ ?_ | intro _)
   all_goals first | omega | (unfold lenB; omega) | exact fw | exact (h2.1 _ (by assumption)).1 | exact (h2.1 _ (by assumption)).2 | exact (h1.1 _ (by assumption)).1 | exact (h1.1 _ (by assumption)).2 | skip
   simp only [rg, go_sem, seval, Prod.fst, ints_len, spDPRd_md, spDPRd_pre, spDPRd_ne0, ↓spDPRd_all, spDPRd_all]
   repeat' (first | with_reducible assumption | with_reducible refine And.intro ?_ ?_ | intro _)
   all_goals first | omega | (unfold lenB; omega) | exact fw | exact (h2.1 _ (by assumption)).1 | exact (h2.1 _ (by assumption)).2 | exact (h1.1 _ (by assumption)).1 | exact (h1.1 _ (by assumption)).2 | skip
   rename_i x hx
   by_cases c1 : wayOkS x
   ·obtain ⟨g3, g4⟩ := wayS_ok c1
    have e4 := eq_true c1
    have e5 := eq_true g3
    have fy : wayFit (wayS x) := wayOk_fit' g3
    simp only [rg, go_sem, seval, Prod.fst, ints_len, encS_len, e4, e5, g4, spPathText_md, spPathText_pre, spPathText_alts, spPathText_res, spPathText_out, spPRead_md, spPRead_pre, spPRead_alts, spPRead_res, spPRead_out, spPathOkI_md, spPathOkI_pre, spPathOkI_alts, spPathOkI_res, spPathOkI_out]
    repeat' (first | with_reducible assumption | with_reducible refine And.intro ?_ ?_ | intro _)
    all_goals first | omega | (unfold lenB; omega) | exact fy | skip
    simp only [rg, go_sem, seval, Prod.fst, ints_len, spDPGet_md, spDPGet_pre, spDPGet_ne0, ↓spDPGet_all, spDPGet_all]
    repeat' (first | with_reducible assumption | with_reducible refine And.intro ?_ ?_ | intro _)
    all_goals first | omega | (unfold lenB; omega) | exact fw | exact (h2.1 _ (by assumption)).1 | exact (h2.1 _ (by assumption)).2 | exact (h1.1 _ (by assumption)).1 | exact (h1.1 _ (by assumption)).2 | skip
    rename_i k n s ks l q hd
    generalize hT : T.mk k n s ks l = t at *
    have ft := T.enc_len t
    obtain ⟨f1, f2⟩ := drW_facts' hd.1 (by decide)
    have fq := hd.2.fit (by decide)
    have lq := hd.2.1
    have w2 : ((none : Option T).isSome = true) = False := by simp
    cases hg : pathGetO t q with
    | none =>
      have fz := T.enc_len (optT none)
      have fz2 : (optT none).fit 140737488355328 := zero_fit _ (by decide)
      simp only [rg, go_sem, seval, Prod.fst, ft, fz, hg, w2, encS_len, spPathGetI_md, spPathGetI_pre, spPathGetI_alts, spPathGetI_res, spPathGetI_out, spPathGetS_md, spPathGetS_pre, spPathGetS_alts, spPathGetS_res, spPathGetS_out, spSameIV_md, spSameIV_pre, spSameIV_alts, spSameIV_res, spSameIV_out]
      repeat' (first | with_reducible assumption | with_reducible refine And.intro ?_ ?_ | intro _)
      all_goals first | omega | exact f1 | exact f2 | exact fq | exact fz2 | skip
    | some g =>
      have w3 : ((some g).isSome = true) = True := by simp
      have w4 : optT (some g) = g := rfl
      have fz := T.enc_len g
      obtain ⟨_, _, og, _⟩ := get_cut hg 0
      have fg : g.fit 140737488355328 := T.fit_mono (by decide) (okT_fit og)
      have hk0 : 0 <= (b.length : Int).tmod ((q.length : Int) + 1) := Int.tmod_nonneg _ (by omega)
      have hk1 : (b.length : Int).tmod ((q.length : Int) + 1) < (q.length : Int) + 1 := Int.tmod_lt_of_pos _ (by omega)
      obtain ⟨y, hy⟩ : ∃ y : Nat, (b.length : Int).tmod ((q.length : Int) + 1) = (y : Int) := ⟨((b.length : Int).tmod ((q.length : Int) + 1)).toNat, by omega⟩
      rw [hy] at hk0 hk1
      obtain ⟨_, _, _, aa, oa, ga, gb⟩ := get_cut hg y
      have fa : aa.fit 140737488355328 := T.fit_mono (by decide) (okT_fit oa)
      have fla := T.enc_len aa
      have w5 : ((some aa).isSome = true) = True := by simp
      have w6 : optT (some aa) = aa := rfl
      obtain ⟨k1, k2⟩ := wayFit_take fq y
      have e7 : (encS q).take y = encS (q.take y) := (encS_tk q y).symm
      have e8 : (encS q).drop y = encS (q.drop y) := (encS_dp q y).symm
      have e9 : (encS q).take q.length = encS q := List.take_of_length_le (by rw [encS_len]; omega)
      simp only [rg, go_sem, seval, Prod.fst, ft, fz, fla, hg, hy, ga, gb, w3, w4, w5, w6, e7, e8, e9, ints_len, encS_len, Int.toNat_natCast, List.drop_zero, spPathGetI_md, spPathGetI_pre, spPathGetI_alts, spPathGetI_res, spPathGetI_out, spPathGetS_md, spPathGetS_pre, spPathGetS_alts, spPathGetS_res, spPathGetS_out, spSameIV_md, spSameIV_pre, spSameIV_alts, spSameIV_res, spSameIV_out, Bool.false_or, Bool.or_true, Bool.not_true, Bool.false_eq_true]
      repeat' (first | with_reducible assumption | with_reducible refine And.intro ?_ ?_ | intro _)
      all_goals first | omega | exact f1 | exact f2 | exact fq | exact fg | exact fa | exact k1 | exact k2 | skip
   ·have e4 := eq_false c1
    simp only [rg, go_sem, seval, Prod.fst, ints_len, encS_len, e4, spPathText_md, spPathText_pre, spPathText_alts, spPathText_res, spPathText_out, spPRead_md, spPRead_pre, spPRead_alts, spPRead_res, spPRead_out, spPathOkI_md, spPathOkI_pre, spPathOkI_alts, spPathOkI_res, spPathOkI_out]
    repeat' (first | with_reducible assumption | with_reducible refine And.intro ?_ ?_ | intro _)
    all_goals first | omega | (unfold lenB; omega) | skip
    simp only [rg, go_sem, seval, Prod.fst, ints_len, spDPGet_md, spDPGet_pre, spDPGet_ne0, ↓spDPGet_all, spDPGet_all]
    repeat' (first | with_reducible assumption | with_reducible refine And.intro ?_ ?_ | intro _)
    all_goals first | omega | (unfold lenB; omega) | exact fw | exact (h2.1 _ (by assumption)).1 | exact (h2.1 _ (by assumption)).2 | exact (h1.1 _ (by assumption)).1 | exact (h1.1 _ (by assumption)).2 | skip
    rename_i k n s ks l q hd
    generalize hT : T.mk k n s ks l = t at *
    have ft := T.enc_len t
    obtain ⟨f1, f2⟩ := drW_facts' hd.1 (by decide)
    have fq := hd.2.fit (by decide)
    have lq := hd.2.1
    have w2 : ((none : Option T).isSome = true) = False := by simp
    cases hg : pathGetO t q with
    | none =>
      have fz := T.enc_len (optT none)
      have fz2 : (optT none).fit 140737488355328 := zero_fit _ (by decide)
      simp only [rg, go_sem, seval, Prod.fst, ft, fz, hg, w2, encS_len, spPathGetI_md, spPathGetI_pre, spPathGetI_alts, spPathGetI_res, spPathGetI_out, spPathGetS_md, spPathGetS_pre, spPathGetS_alts, spPathGetS_res, spPathGetS_out, spSameIV_md, spSameIV_pre, spSameIV_alts, spSameIV_res, spSameIV_out]
      repeat' (first | with_reducible assumption | with_reducible refine And.intro ?_ ?_ | intro _)
      all_goals first | omega | exact f1 | exact f2 | exact fq | exact fz2 | skip
    | some g =>
      have w3 : ((some g).isSome = true) = True := by simp
      have w4 : optT (some g) = g := rfl
      have fz := T.enc_len g
      obtain ⟨_, _, og, _⟩ := get_cut hg 0
      have fg : g.fit 140737488355328 := T.fit_mono (by decide) (okT_fit og)
      have hk0 : 0 <= (b.length : Int).tmod ((q.length : Int) + 1) := Int.tmod_nonneg _ (by omega)
      have hk1 : (b.length : Int).tmod ((q.length : Int) + 1) < (q.length : Int) + 1 := Int.tmod_lt_of_pos _ (by omega)
      obtain ⟨y, hy⟩ : ∃ y : Nat, (b.length : Int).tmod ((q.length : Int) + 1) = (y : Int) := ⟨((b.length : Int).tmod ((q.length : Int) + 1)).toNat, by omega⟩
      rw [hy] at hk0 hk1
      obtain ⟨_, _, _, aa, oa, ga, gb⟩ := get_cut hg y
      have fa : aa.fit 140737488355328 := T.fit_mono (by decide) (okT_fit oa)
      have fla := T.enc_len aa
      have w5 : ((some aa).isSome = true) = True := by simp
      have w6 : optT (some aa) = aa := rfl
      obtain ⟨k1, k2⟩ := wayFit_take fq y
      have e7 : (encS q).take y = encS (q.take y) := (encS_tk q y).symm
      have e8 : (encS q).drop y = encS (q.drop y) := (encS_dp q y).symm
      have e9 : (encS q).take q.length = encS q := List.take_of_length_le (by rw [encS_len]; omega)
      simp only [rg, go_sem, seval, Prod.fst, ft, fz, fla, hg, hy, ga, gb, w3, w4, w5, w6, e7, e8, e9, ints_len, encS_len, Int.toNat_natCast, List.drop_zero, spPathGetI_md, spPathGetI_pre, spPathGetI_alts, spPathGetI_res, spPathGetI_out, spPathGetS_md, spPathGetS_pre, spPathGetS_alts, spPathGetS_res, spPathGetS_out, spSameIV_md, spSameIV_pre, spSameIV_alts, spSameIV_res, spSameIV_out, Bool.false_or, Bool.or_true, Bool.not_true, Bool.false_eq_true]
      repeat' (first | with_reducible assumption | with_reducible refine And.intro ?_ ?_ | intro _)
      all_goals first | omega | exact f1 | exact f2 | exact fq | exact fg | exact fa | exact k1 | exact k2 | skip
end Go.Proofs.Pw
namespace Go.Proofs.Pw
open Go.RowKit
def Old (w : World) (g : Nat) : Prop := g < w.heap.size
theorem cell_lt {w : World} {a : Addr} {v : Value} (h : w.cell? a = some v) : a.block < w.heap.size := by
 unfold World.cell? at h
 rcases Nat.lt_or_ge a.block w.heap.size with hlt | hge
 ·exact hlt
 ·rw [Array.getElem?_eq_none hge] at h; simp at h
theorem rep_ints {k : IntKind} {w : World} {a : Option Addr} {len cap : Nat} {zs : List Int}
 (h : (a = none /\ len = 0 /\ cap = 0 /\ zs = []) \/ ∃ x, a = some x /\ len <= cap /\ cap <= maxLen /\ zs.length = cap /\ (∀ i, i < zs.length -> w.cell? (x.add i) = some (.int k (zs.getD i 0))) /\ ∀ n ∈ zs, (Lit.int k n).wf = true) :
 Rep w (Old w) (.row 1 (ints k (zs.take len))) (.slice a len cap) /\ (zs.take len).length = len /\ ∀ n ∈ zs.take len, (Lit.int k n).wf = true := by
 rcases h with ⟨rfl, rfl, rfl, rfl⟩ | ⟨x, rfl, hl, hm, hz, hc, hw⟩
 ·exact ⟨.nil .., rfl, by simp⟩
 ·have hlen : (zs.take len).length = len := by simp; omega
  refine ⟨?_, hlen, fun n hn => hw n (List.mem_of_mem_take hn)⟩
  rcases Nat.eq_zero_or_pos len with h0 | h0
  ·subst h0; exact .nil ..
  ·have key : ∀ (i j : Nat) e c, (ints k (zs.take len))[i]? = some e -> e[j]? = some c -> j = 0 /\ i < zs.length /\ c = .int k (zs.getD i 0) := fun i j e c he hj => by
    simp only [ints, List.getElem?_map, Option.map_eq_some_iff] at he
    obtain ⟨n, hn, rfl⟩ := he
    rw [List.getElem?_take] at hn
    split at hn
    ·cases j with
     | zero => simp at hj; subst hj; exact ⟨rfl, (List.getElem?_eq_some_iff.1 hn).1, by simp [hn]⟩
     | succ j => simp at hj
    ·cases hn
   have hel : (ints k (zs.take len)).length = len := by rw [ints_len, hlen]
   have := Rep.row (w := w) (S := Old w) 1 (ints k (zs.take len)) x cap (fun i => .int k (zs.getD i 0)) (by omega) (by
    have := cell_lt (hc 0 (by omega)); rwa [add_block] at this) (fun i e he => by
     simp only [ints, List.getElem?_map, Option.map_eq_some_iff] at he
     obtain ⟨n, _, rfl⟩ := he; rfl) (fun i j e c he hj => by
     obtain ⟨rfl, h1, _⟩ := key i j e c he hj
     simpa using hc i h1) (fun i j e c he hj => by
     obtain ⟨rfl, h1, rfl⟩ := key i j e c he hj
     simpa using Rep.int k (zs.getD i 0))
   rwa [hel] at this
theorem law_calls [Globs] {P : Program} {f : FuncId} {sp : Spec} (h : Sound P f sp) {args : List AV} (hp : sp.pre args) (ha : sp.alts = none) (hr : sp.res args = [.d (.one (.bool true))]) {W : World} {vs : List Value} (hG : Gl W (Old W))
 (hA : All3 (RepA W (Old W)) args vs (args.map fun _ => fun _ => False)) : Calls P f vs.toArray W fun e w' => e = .returned (.bool true) /\ Below W.heap.size W w' := by
 refine (h args hp W (Old W) vs _ hG (fun _ h => h) (fun g hg => absurd hg Any_false) Apart_false hA).mono ?_
 rintro e w' ⟨r, o, hro, v, S', rfs, fps', rfl, g1, _, _, _, _, _, g8⟩
 obtain ⟨rfl, rfl⟩ := (Spec.may_none ha).1 hro
 rw [hr] at g1
 refine ⟨?_, ⟨g8.os, g8.tape, g8.output, g8.size, fun k hk => g8.block k hk Any_false⟩⟩
 cases rfs with
 | nil => exact absurd rfl g1.1
 | cons fp r => cases r with
   | nil =>
     obtain ⟨g1, _⟩ := g1
     cases g1; rfl
   | cons _ _ => exact absurd rfl g1.1
end Go.Proofs.Pw
namespace Go.Proofs.Pw
open Go.RowKit Go.ChangeShapes Go.WideShapes
section
variable {H : Type} {enc : TypeId × Value -> H} {P : Program} {W W' : World} {spare : Nat -> Bool} {held : Bool}
theorem trodAll_below (hl : laidOutB P = true) (hb : Below W.heap.size W W') : ∀ {ts : List TypeId} {vs : List Value} {ds : List (DataW H)} {p : List MemPlace}, DataW.TrodAll enc P W 0 (fun _ => true) true ts vs ds p ->
 (ts.all fun t => P.readableRec t && decide (t < P.types.size)) = true -> (∀ x ∈ p, x.block < W.heap.size) -> DataW.TrodAll enc P W' 0 (fun b => decide (b < W.heap.size)) true ts vs ds p := by
 intro ts
 induction ts with
 | nil =>
   intro vs ds p h _ _
   cases vs <;> cases ds <;> first | exact h | exact h.elim
 | cons t ts ih =>
   intro vs ds p h hr hp
   obtain ⟨v, vs', d, ds', p1, q, rfl, rfl, rfl, h1, h2⟩ := trodAll_cons h
   simp only [List.all_cons, Bool.and_eq_true, decide_eq_true_eq] at hr
   exact ⟨p1, q, Below.trod hl hr.1.1 hr.1.2 h1 hb (fun x hx => hp x (by simp [hx])), ih h2 hr.2 (fun x hx => hp x (by simp [hx])), rfl⟩
theorem trodVars_below (hl : laidOutB P = true) (hb : Below W.heap.size W W') : ∀ {ns : List String} {gs : List (DataW H)} {p : List MemPlace}, DataW.TrodVars enc P W (fun _ => true) ns gs p ->
 (ns.all fun n => match P.globalNamed n with | some g => (match P.globals[g]? with | some x => P.readableRec x.type && decide (x.type < P.types.size) | none => false) | none => false) = true -> (∀ x ∈ p, x.block < W.heap.size) ->
 DataW.TrodVars enc P W' (fun b => decide (b < W.heap.size)) ns gs p := by
 intro ns
 induction ns with
 | nil =>
   intro gs p h _ _
   cases gs <;> first | exact h | exact h.elim
 | cons n ns ih =>
   intro gs p h hr hp
   cases gs with
   | nil => exact h.elim
   | cons d gs =>
     obtain ⟨g, t, cs, fuel, p1, q, hg, ht, hv, hd, h2, rfl⟩ := h
     simp only [List.all_cons, Bool.and_eq_true, hg] at hr
     obtain ⟨hr2, hr3⟩ := hr
     have hr1 : g < W.heap.size := by
      unfold World.var? at hv
      simp only [hg, Option.bind_some] at hv
      split at hv
      ·rename_i h1; exact (Array.getElem?_eq_some_iff.1 h1).1
      ·cases hv
     simp only [Option.map_eq_some_iff] at ht
     obtain ⟨x, hx, rfl⟩ := ht
     simp only [hx, Bool.and_eq_true, decide_eq_true_eq] at hr2
     have hk : DataW.Trod enc P W 0 (fun _ => true) true x.type (.agg cs) d p1 := ⟨fuel, hd⟩
     obtain ⟨fuel', hd'⟩ := Below.trod hl hr2.1 hr2.2 hk hb (fun y hy => hp y (by simp [hy]))
     exact ⟨g, x.type, cs, fuel', p1, q, hg, by rw [hx]; rfl, var?_below hb hg hr1 hv, hd', ih h2 hr3 (fun y hy => hp y (by simp [hy])), rfl⟩
theorem law_post {f : Func} {s : ChangeSpec} {args : Array Value} {ds gs : List (DataW H)} {before : List MemPlace} {rt : TypeId} (hl : laidOutB P = true)
 (hW : DataW.Whole enc P f.params.toList s.vars false W args.toList ds gs before) (hrt : f.resultTypes.toList = [rt]) (hrb : P.underlying rt = some .bool) (hsz : f.resultTypes.size = 1)
 (hfn : s.fn H (ds ++ gs) = { results := [.lit (.bool true)], args := ds, vars := gs })
 (hp : (f.params.toList.all fun t => P.readableRec t && decide (t < P.types.size)) = true)
 (hv : (s.vars.all fun n => match P.globalNamed n with | some g => (match P.globals[g]? with | some x => P.readableRec x.type && decide (x.type < P.types.size) | none => false) | none => false) = true)
 (hb : Below W.heap.size W W') : s.post enc P f false true false false W args (.bool true) W' := by
 have hlt := hW.lt
 have hW' := hW
 obtain ⟨p, q, hA, hV, rfl, hfz, hnd⟩ := hW
 refine ⟨ds, gs, _, [], p, q, hW', ?_, ?_, ?_, hb.frame _, fun h => by cases h⟩
 ·rw [hfn, hrt, hsz]
  exact trodAll_mk1 (shut_bool hrb _)
 ·rw [hfn]; exact trodAll_below hl hb hA hp (fun x hx => hlt x (by simp [hx]))
 ·rw [hfn]; exact trodVars_below hl hb hV hv (fun x hx => hlt x (by simp [hx]))
end
end Go.Proofs.Pw
namespace Go.Proofs.Pw
open Go.RowKit Go.ChangeShapes Go.WideShapes
section
variable {H : Type} {enc : TypeId × Value -> H} {P : Program} {W : World}
theorem wf_u8 {n : Int} (h : (Lit.int .u8 n).wf = true) : 0 <= n /\ n <= 255 := by
 simp only [Lit.wf, Bool.and_eq_true, decide_eq_true_eq] at h
 simp only [IntKind.min, IntKind.max, IntKind.signed, IntKind.bits] at h
 simp at h; omega
theorem read_bytes {held : Bool} {r : Reach} {base : Nat} {ts : List TypeId} {ds : List (DataW H)} {j : Nat} {t e : TypeId} {v : Value} {d : DataW H} {p : List MemPlace} (hu : P.underlying t = some (.slice e)) (he : P.underlying e = some (.int .u8)) (hc : P.cellsOf e = 1) (hby : 0 < P.bytesOf e)
 (hval : Value.okWide P W r base t v) (h : DataW.Trod enc P W 0 (fun _ => true) held t v d p) (hz : (DataW.weightsEach P ts ds).all (· <= reachBytes) = true) (ht : ts[j]? = some t) (hd : ds[j]? = some d) :
 ∃ l : List Int, RepA W (Old W) (.d (.one (.row 1 (ints .u8 l)))) v (fun _ => False) /\ bytes l := by
 obtain ⟨a, len, cap, rfl⟩ := okWide_slice hu hval
 obtain ⟨fuel, h⟩ := h
 rcases open_ints hu he hc h with ⟨h1, h2⟩ | ⟨x, l, c, zs, hcs, _, hl, hm, hz', hx, hcell, hwz⟩
 ·simp only [Value.cells, List.cons.injEq, and_true] at h1
  cases h1
  refine ⟨[], ⟨.nil .., fun _ h => h⟩, by simp, by unfold lenB; simp⟩
 ·simp only [Value.cells, List.cons.injEq, and_true] at hcs
  cases hcs
  simp only [Prod.mk.injEq] at hx
  obtain ⟨rfl, rfl⟩ := hx
  obtain ⟨k1, k2, k3⟩ := rep_ints (k := .u8) (w := W) (a := some x) (len := len) (cap := cap) (zs := zs) (.inr ⟨x, rfl, hl, hm, by simpa using hz', hcell, hwz⟩)
  refine ⟨zs.take len, ⟨k1, fun _ h => h⟩, fun b hb => wf_u8 (k3 b hb), ?_⟩
  have k4 := sized_slice hz ht hd hu
  have k5 : (lits (H := H) .u8 (zs.take len)).length <= reachBytes := by
   refine Nat.le_trans (Nat.le_trans (Nat.le_add_right _ (lits (H := H) .u8 (zs.drop len)).length) ?_) k4
   exact Nat.le_mul_of_pos_right _ hby
  have := reachBytes_lt
  simp only [lits, List.length_map] at k5
  unfold lenB; omega
end
end Go.Proofs.Pw
namespace Go.Proofs.Pw
open Go.RowKit Go.ChangeShapes Go.WideShapes
end Go.Proofs.Pw
namespace Go.Proofs.Pw
open Go.RowKit Go.ChangeShapes Go.WideShapes
theorem laid_rest {P : Program} {W : World} {x : String × DataW Unit} {r : List (String × DataW Unit)} {ps : List MemPlace} (h : DataW.LaidVars P W (x :: r) ps) : ∃ ps', DataW.LaidVars P W r ps' := by
 obtain ⟨g', t', cs, fuel, p, q, hg', ht', hv, htr, hr, _⟩ := h
 exact ⟨q, hr⟩
theorem laid_tab {P : Program} {W : World} {nm : String} {d : DataW Unit} {ns : List Int} {r : List (String × DataW Unit)} {ps : List MemPlace} {g n : Nat} {t e : TypeId} {k : IntKind} (hg : P.globalNamed nm = some g) (ht : (P.globals[g]?).map (·.type) = some t)
 (hu : P.underlying t = some (.array n e)) (he : P.underlying e = some (.int k)) (hc : P.cellsOf e = 1) (hct : P.cellsOf t = n) (hd : d = Lib.tabData k ns) (h : DataW.LaidVars P W ((nm, d) :: r) ps) :
 Old W g /\ ∃ ty x, W.heap[g]? = some (.cells (ns.map fun z => Value.int k z).toArray ty x) := by
 obtain ⟨g', t', cs, fuel, p, q, hg', ht', hv, htr, hr, _⟩ := h
 obtain rfl := Option.some.inj (hg.symm.trans hg')
 obtain rfl := Option.some.inj (ht.symm.trans ht')
 subst hd
 have hcs := Lib.cells_of_tab hu he hc hct htr
 have hcs' : cs = (ns.map fun z => Value.int k z).toArray := by rw [<- hcs]
 unfold World.var? at hv
 rw [hg] at hv
 simp only [Option.bind_some] at hv
 split at hv
 ·rename_i cs' ty x hh
  cases hv
  refine ⟨?_, ty, x, by rw [hh, hcs']⟩
  rcases Nat.lt_or_ge g W.heap.size with h | h
  ·exact h
  ·rw [Array.getElem?_eq_none h] at hh; cases hh
 ·cases hv
end Go.Proofs.Pw
namespace Go.Proofs.Pw
open Go.RowKit Go.ChangeShapes Go.WideShapes
theorem laid_ifc {P : Program} {W : World} {nm name : String} {d : DataW Unit} {r : List (String × DataW Unit)} {ps : List MemPlace} {g : Nat} {t : TypeId} {ms : Array (String × TypeId)} (hg : P.globalNamed nm = some g) (ht : (P.globals[g]?).map (·.type) = some t)
 (hu : P.underlying t = some (.interface ms)) (h : DataW.LaidVars P W ((nm, .iface name d) :: r) ps) :
 Old W g /\ ∃ u, W.cell? ⟨g, 0, none⟩ = some u /\ Rep W (Old W) .ifc u := by
 obtain ⟨g', t', cs, fuel, p, q, hg', ht', hv, htr, hr, _⟩ := h
 obtain rfl := Option.some.inj (hg.symm.trans hg')
 obtain rfl := Option.some.inj (ht.symm.trans ht')
 obtain ⟨_, u, v, hcs, _, _⟩ := iface_of_trod hu htr
 have hcc := World.var?_cell hg hv 0
 rw [Array.eq_one_of_toList hcs] at hcc
 have hcc' : W.cell? ⟨g, 0, none⟩ = some (.iface u v) := by simpa using hcc
 exact ⟨cell_lt hcc', _, hcc', .ifc _ _⟩
end Go.Proofs.Pw
