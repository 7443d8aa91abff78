/- Ways: which are, and one step. -/
import Derived.Test.YtgpjodcopajlkaaDoorPwT14
import Derived.Test.YtgpjodcopajlkaaDoorPwT19
import Derived.Test.YtgpjodcopajlkaaDoorPwT11
import Derived.Test.YtgpjodcopajlkaaDoorPwT18
import Derived.Test.YtgpjodcopajlkaaDoorPwT15
import Derived.Test.YtgpjodcopajlkaaDoorPwT17
import Derived.Test.YtgpjodcopajlkaaDoorPwT9
set_option linter.unusedSimpArgs false
set_option linter.unusedVariables false
set_option linter.unusedSectionVars false
set_option maxRecDepth 20000
namespace Go.Proofs.Pw
variable [Globs]
end Go.Proofs.Pw
namespace Go.Proofs.Pw
variable [Globs]
def x_ValText : X := (.seq (.reg [⟨some 1, none, .box (.t 0) (some 5)⟩, ⟨some 2, none, .mv (.k (.c (.str ⟨#[]⟩)))⟩] none [1]) (.seq (.seq (.reg [⟨some 3, none, .load (.t 1) (some 5)⟩, ⟨some 4, none, .call 10 [(.t 3)]⟩, ⟨some 5, none, .not (.t 4)⟩] none [1, 5]) (.cond (.t 5) (.seq (.reg [⟨some 2, none, .mv (.k (.c (.str ⟨#[]⟩)))⟩] none [2]) .ret) .skip)) (.seq (.reg [⟨some 6, none, .load (.t 1) (some 5)⟩, ⟨some 7, none, .call 33 [(.t 6)]⟩, ⟨some 2, none, .mv (.t 7)⟩] none [2]) .ret)))
theorem chk_ValText : chkX Tryd.prog 8 (Tryd.f9.body.getD .skip) x_ValText = true := by kernel_rfl
theorem rs_ValText : okRs Tryd.prog Tryd.f9.results.toList [.tmp 2] = true := by kernel_rfl
theorem call_ValText : okCallee Tryd.prog 9 = true := by kernel_rfl
def x_ValTextI : X := (.seq (.reg [⟨some 1, none, .box (.t 0) (some 5)⟩, ⟨some 2, none, .mv (.k (.c (.str ⟨#[]⟩)))⟩] none [1]) (.seq (.seq (.reg [⟨some 3, none, .load (.t 1) (some 5)⟩, ⟨some 4, none, .call 12 [(.t 3)]⟩, ⟨some 5, none, .not (.t 4)⟩] none [1, 5]) (.cond (.t 5) (.seq (.reg [⟨some 2, none, .mv (.k (.c (.str ⟨#[]⟩)))⟩] none [2]) .ret) .skip)) (.seq (.reg [⟨some 6, none, .load (.t 1) (some 5)⟩, ⟨some 7, none, .call 32 [(.t 6)]⟩, ⟨some 2, none, .mv (.t 7)⟩] none [2]) .ret)))
theorem chk_ValTextI : chkX Tryd.prog 8 (Tryd.f8.body.getD .skip) x_ValTextI = true := by kernel_rfl
theorem rs_ValTextI : okRs Tryd.prog Tryd.f8.results.toList [.tmp 2] = true := by kernel_rfl
theorem call_ValTextI : okCallee Tryd.prog 8 = true := by kernel_rfl
theorem q10 : (ByteArray.mk #[10]).size = 1 := rfl
noncomputable def spValText  : Spec := Spec.of (ι := T) [false] (fun i => [.d (.agg i.enc)]) (fun i => i.fit 140737488355328 /\ sizeT i <= 1048577) (fun i => [.d (.one (.str (valText i)))]) (fun _ => [.gone])
theorem spValText_inj : ∀ i j : T, (fun (i : T) => ([.d (.agg i.enc)] : List AV)) i = (fun (i : T) => ([.d (.agg i.enc)] : List AV)) j -> i = j := by
 intro t t' h
 simpa [strs_eq, T.enc_eq, encL_eq, F.enc_eq, encF_eq, Tk.enc_eq, encTk_eq, Gn.enc_eq, ints_eq, encS_eq, encE_eq, Stp.enc_eq] using h
theorem spValText_md  : (spValText).md = [false] := rfl
theorem spValText_pre  (t : T) : (spValText).pre [.d (.agg t.enc)] = (t.fit 140737488355328 /\ sizeT t <= 1048577) := Spec.of_pre' spValText_inj t
theorem spValText_alts  : (spValText).alts = none := rfl
theorem spValText_res  (t : T) : (spValText).res [.d (.agg t.enc)] = [.d (.one (.str (valText t)))] := Spec.of_res spValText_inj t
theorem spValText_out  (t : T) : (spValText).out [.d (.agg t.enc)] = [.gone] := Spec.of_out spValText_inj t
theorem valText_sound : Sound Tryd.prog 9 spValText := by
 refine sound_fam (GOK.cons (l := [(33, spTxtV)]) call_ValOk sOkT_sound (GOK.cons call_l1Text txtV_sound GOK.nil)) Tryd.func9 (c := Tryd.f9.body.getD .skip) rfl (n := 8) rfl chk_ValText rs_ValText (fun _ => by simp) ?_ ?_
 ·exact spValText_inj
 ·rintro t ⟨h1, h2⟩
  by_cases c : okT t
  ·have h4 := okTx_of c
   simp only [x_ValText, rg, go_sem, seval, Prod.fst, T.enc_len, c, valText, if_true, spOkT_md, spOkT_pre, spOkT_alts, spOkT_res, spOkT_out, spTxtV_md, spTxtV_pre, spTxtV_alts, spTxtV_res, spTxtV_out]
   repeat' (first | with_reducible assumption | with_reducible refine And.intro ?_ ?_ | intro _)
   all_goals first | omega | with_reducible assumption | skip
  ·simp only [x_ValText, rg, go_sem, seval, Prod.fst, T.enc_len, c, valText, if_false, spOkT_md, spOkT_pre, spOkT_alts, spOkT_res, spOkT_out]
   repeat' (first | with_reducible assumption | with_reducible refine And.intro ?_ ?_ | intro _)
   all_goals first | omega | with_reducible assumption | skip
theorem valTextI_sound (hK : tabK) : Sound Tryd.prog 8 spValText := by
 refine sound_fam (GOK.cons (l := [(32, spTxtV)]) call_ValOkI valOkI_sound (GOK.cons call_textI (txtIV_sound hK) GOK.nil)) Tryd.func8 (c := Tryd.f8.body.getD .skip) rfl (n := 8) rfl chk_ValTextI rs_ValTextI (fun _ => by simp) ?_ ?_
 ·exact spValText_inj
 ·rintro t ⟨h1, h2⟩
  by_cases c : okT t
  ·have h4 := okTx_of c
   have e : ((okI t 1 60).1 = true) = True := eq_true ((okI_iff t).2 c)
   simp only [x_ValTextI, rg, go_sem, seval, Prod.fst, T.enc_len, e, c, valText, if_true, spValOkI_md, spValOkI_pre, spValOkI_alts, spValOkI_res, spValOkI_out, spTxtV_md, spTxtV_pre, spTxtV_alts, spTxtV_res, spTxtV_out]
   repeat' (first | with_reducible assumption | with_reducible refine And.intro ?_ ?_ | intro _)
   all_goals first | omega | with_reducible assumption | skip
  ·have e : ((okI t 1 60).1 = true) = False := eq_false (fun h => c ((okI_iff t).1 h))
   simp only [x_ValTextI, rg, go_sem, seval, Prod.fst, T.enc_len, e, c, valText, if_false, spValOkI_md, spValOkI_pre, spValOkI_alts, spValOkI_res, spValOkI_out]
   repeat' (first | with_reducible assumption | with_reducible refine And.intro ?_ ?_ | intro _)
   all_goals first | omega | with_reducible assumption | skip
end Go.Proofs.Pw
namespace Go.Proofs.Pw
variable [Globs]
def x_ValReadI : X := (.seq (.reg [⟨some 2, none, .alloc [(.c (.int .i64 0)), (.c (.int .i64 0)), (.c (.str ⟨#[]⟩)), (.z 1), (.z 5)]⟩, ⟨some 3, none, .mv (.k (.c (.bool false)))⟩] none [0, 2]) (.seq (.seq (.reg [⟨some 6, none, .mv (.t 0)⟩, ⟨some 7, none, .bin false .eql (.t 6) (.k (.c (.str ⟨#[]⟩)))⟩, ⟨some 8, none, .mv (.t 7)⟩, ⟨some 9, some (8, false), .mv (.t 0)⟩, ⟨some 10, some (8, false), .len (.t 9) true⟩, ⟨some 11, some (8, false), .bin false .gtr (.t 10) (.k (.c (.int .i64 2500)))⟩, ⟨some 12, none, .pick (.t 8) (.k (.c (.bool true))) (.t 11)⟩] none [0, 2, 12]) (.cond (.t 12) (.seq (.reg [⟨some 13, none, .build [(.c (.int .i64 0)), (.c (.int .i64 0)), (.c (.str ⟨#[]⟩)), (.z 1), (.z 5)] []⟩, ⟨none, none, .st (.t 2) (.t 13) (some 5)⟩, ⟨some 3, none, .mv (.k (.c (.bool false)))⟩] none [2, 3]) .ret) .skip)) (.seq (.reg [⟨some 14, none, .mv (.t 0)⟩, ⟨some 15, none, .build [(.c (.str ⟨#[]⟩)), (.c (.int .i64 0))] [(0, (.t 14), none)]⟩, ⟨some 16, none, .box (.t 15) (some 2)⟩, ⟨some 4, none, .mv (.t 16)⟩] none [0, 2, 4]) (.seq (.reg [⟨some 17, none, .mv (.t 4)⟩, ⟨some 18, none, .callr 36 [(.t 17), (.k (.c (.int .i64 1)))]⟩, ⟨some 5, none, .alloc [(.c (.int .i64 0)), (.c (.int .i64 0)), (.c (.str ⟨#[]⟩)), (.z 1), (.z 5)]⟩, ⟨none, none, .st (.t 5) (.t 18) (some 5)⟩] none [0, 2, 5]) (.seq (.seq (.reg [⟨some 19, none, .load (.t 5) (some 5)⟩, ⟨some 20, none, .call 8 [(.t 19)]⟩, ⟨some 21, none, .mv (.t 0)⟩, ⟨some 22, none, .bin false .neq (.t 20) (.t 21)⟩] none [2, 5, 22]) (.cond (.t 22) (.seq (.reg [⟨some 23, none, .build [(.c (.int .i64 0)), (.c (.int .i64 0)), (.c (.str ⟨#[]⟩)), (.z 1), (.z 5)] []⟩, ⟨none, none, .st (.t 2) (.t 23) (some 5)⟩, ⟨some 3, none, .mv (.k (.c (.bool false)))⟩] none [2, 3]) .ret) .skip)) (.seq (.reg [⟨some 24, none, .load (.t 5) (some 5)⟩, ⟨some 25, none, .call 37 [(.t 24)]⟩, ⟨none, none, .st (.t 2) (.t 25) (some 5)⟩, ⟨some 3, none, .mv (.k (.c (.bool true)))⟩] none [2, 3]) .ret))))))
theorem chk_ValReadI : chkX Tryd.prog 26 (Tryd.f11.body.getD .skip) x_ValReadI = true := by kernel_rfl
theorem rs_ValReadI : okRs Tryd.prog Tryd.f11.results.toList [.cell 2 (some 5), .tmp 3] = true := by kernel_rfl
theorem call_ValReadI : okCallee Tryd.prog 11 = true := by kernel_rfl
noncomputable def spRead  : Spec := Spec.of (ι := ByteArray) [false] (fun i => [.d (.one (.str i))]) (fun i => lenB 140737488355328 i.size) (fun i => [.d (.agg (valT i).enc), .d (.one (.bool (decide (valOk i))))]) (fun _ => [.gone])
theorem spRead_inj : ∀ i j : ByteArray, (fun (i : ByteArray) => ([.d (.one (.str i))] : List AV)) i = (fun (i : ByteArray) => ([.d (.one (.str i))] : List AV)) j -> i = j := by
 intro s s' h
 simpa [strs_eq, T.enc_eq, encL_eq, F.enc_eq, encF_eq, Tk.enc_eq, encTk_eq, Gn.enc_eq, ints_eq] using h
theorem spRead_md  : (spRead).md = [false] := rfl
theorem spRead_pre  (s : ByteArray) : (spRead).pre [.d (.one (.str s))] = (lenB 140737488355328 s.size) := Spec.of_pre' spRead_inj s
theorem spRead_alts  : (spRead).alts = none := rfl
theorem spRead_res  (s : ByteArray) : (spRead).res [.d (.one (.str s))] = [.d (.agg (valT s).enc), .d (.one (.bool (decide (valOk s))))] := Spec.of_res spRead_inj s
theorem spRead_out  (s : ByteArray) : (spRead).out [.d (.one (.str s))] = [.gone] := Spec.of_out spRead_inj s
noncomputable def spReadX  : Spec := Spec.of (ι := ByteArray) [false] (fun i => [.d (.one (.str i))]) (fun i => lenB 140737488355328 i.size) (fun i => [.ag (agX (valT i)), .d (.one (.bool (decide (valOk i))))]) (fun _ => [.gone])
theorem spReadX_inj : ∀ i j : ByteArray, (fun (i : ByteArray) => ([.d (.one (.str i))] : List AV)) i = (fun (i : ByteArray) => ([.d (.one (.str i))] : List AV)) j -> i = j := by
 intro s s' h
 simpa [strs_eq, T.enc_eq, encL_eq, F.enc_eq, encF_eq, Tk.enc_eq, encTk_eq, Gn.enc_eq, ints_eq] using h
theorem spReadX_pre  (s : ByteArray) : (spReadX).pre [.d (.one (.str s))] = (lenB 140737488355328 s.size) := Spec.of_pre' spReadX_inj s
theorem spReadX_alts  : (spReadX).alts = none := rfl
theorem spReadX_res  (s : ByteArray) : (spReadX).res [.d (.one (.str s))] = [.ag (agX (valT s)), .d (.one (.bool (decide (valOk s))))] := Spec.of_res spReadX_inj s
theorem spReadX_out  (s : ByteArray) : (spReadX).out [.d (.one (.str s))] = [.gone] := Spec.of_out spReadX_inj s
theorem agX_toC (t : T) : (agX t).map Pt.toC = t.enc := by cases t; simp [agX, Pt.toC, T.enc, dtR_plain, plainR_strs, dtR_encLX]
theorem rdr_new (s : ByteArray) : [C.str s, C.int .i64 0] = rdrC s 0 := rfl
set_option maxHeartbeats 1000000 in
theorem readIX_sound (hE : errK) (hK : tabK) : Sound Tryd.prog 11 spReadX := by
 refine sound_fam (GOK.cons (l := [(8, spValText), (37, spCloneXT)]) call_rval (rvalV_sound hE) (GOK.cons (l := [(37, spCloneXT)]) call_ValTextI (valTextI_sound hK) (GOK.cons call_cloneX cloneXT_sound GOK.nil))) Tryd.func11 (c := Tryd.f11.body.getD .skip) rfl (n := 26) rfl chk_ValReadI rs_ValReadI (fun _ => by simp) ?_ ?_
 ·exact spReadX_inj
 ·intro s h1
  change lenB 140737488355328 s.size at h1
  simp only [lenB] at h1
  have hz : valT s = T.zero -> agX (valT s) = [.c (.int .i64 0), .c (.int .i64 0), .c (.str ⟨#[]⟩), .o 1 [], .o 5 []] := fun h => by rw [h]; rfl
  have q0 : (s = ⟨#[]⟩) = (s.size = 0) := propext ⟨fun h => by rw [h]; rfl, fun h => ByteArray.ext (Array.eq_empty_of_size_eq_zero h)⟩
  by_cases c0 : s.size = 0
  ·have e : ¬ valOk s := fun h => (valOk_size h).1 c0
   have a0 : (s = ⟨#[]⟩) = True := by rw [q0]; exact eq_true c0
   have a1 := hz (valT_no e)
   have a2 : valOk s = False := eq_false e
   simp only [x_ValReadI, rg, go_sem, seval, Prod.fst, a0, a1, a2]
   repeat' (first | with_reducible assumption | with_reducible refine And.intro ?_ ?_ | intro _)
   all_goals first | omega | skip
  have a0 : (s = ⟨#[]⟩) = False := by rw [q0]; exact eq_false c0
  by_cases c1 : 2500 < s.size
  ·have e : ¬ valOk s := fun h => by have := (valOk_size h).2; omega
   have a3 : ((2500 : Int) < (s.size : Int)) = True := eq_true (by omega)
   have a1 := hz (valT_no e)
   have a2 : valOk s = False := eq_false e
   simp only [x_ValReadI, rg, go_sem, seval, Prod.fst, a0, a1, a2, a3]
   repeat' (first | with_reducible assumption | with_reducible refine And.intro ?_ ?_ | intro _)
   all_goals first | omega | skip
  have a3 : ((2500 : Int) < (s.size : Int)) = False := eq_false (by omega)
  have hl := tL_len s
  have k7 : ((7 : Int) - 1).toNat = 6 := rfl
  have k6 : ((6 : Int)).toNat = 6 := rfl
  obtain ⟨r1, r2, r3, r4⟩ := rdV_ok 6 (tL s) 0 (Nat.zero_le _)
  have f1 : (rdV 6 (tL s) 0).1.fit 140737488355328 := T.fit_mono (by omega) r4
  have f2 : (rdV 6 (tL s) 0).1.fit 2000000 := T.fit_mono (by omega) r4
  have f3 : sizeT (rdV 6 (tL s) 0).1 <= 1048577 := by omega
  have f4 := T.enc_len (rdV 6 (tL s) 0).1
  by_cases c2 : valOk s
  ·have a2 : valOk s = True := eq_true c2
   obtain ⟨c3, c4⟩ := (rd_iff s).2 c2
   have a4 : valText (rdV 6 (tL s) 0).1 = s := by unfold valText; rw [if_pos c3]; exact c4
   have a5 := rd_valT c2
   simp only [x_ValReadI, rg, go_sem, seval, Prod.fst, a0, a2, a3, a4, a5, k7, k6, f4, agX_out, rdr_new, spRdVV_md, spRdVV_pre, spRdVV_ne, ↓spRdVV_all, spRdVV_all, spValText_md, spValText_pre, spValText_alts, spValText_res, spValText_out, spCloneXT_md, spCloneXT_pre, spCloneXT_alts, spCloneXT_res, spCloneXT_out, Bool.false_or, Bool.or_true, Bool.not_true, Bool.false_eq_true]
   repeat' (first | with_reducible assumption | with_reducible refine And.intro ?_ ?_ | intro _)
   all_goals first | omega | (unfold lenB; omega) | skip
  ·have a2 : valOk s = False := eq_false c2
   have a1 := hz (valT_no c2)
   have a4 : (valText (rdV 6 (tL s) 0).1 = s) = False := eq_false fun h => by
    unfold valText at h
    split at h
    ·rename_i c3; exact c2 ((rd_iff s).1 ⟨c3, h⟩)
    ·rw [<- h] at c0; exact c0 rfl
   simp only [x_ValReadI, rg, go_sem, seval, Prod.fst, a0, a1, a2, a3, a4, k7, k6, f4, rdr_new, spRdVV_md, spRdVV_pre, spRdVV_ne, ↓spRdVV_all, spRdVV_all, spValText_md, spValText_pre, spValText_alts, spValText_res, spValText_out, spCloneXT_md, spCloneXT_pre, spCloneXT_alts, spCloneXT_res, spCloneXT_out, Bool.false_or, Bool.or_true, Bool.not_true, Bool.false_eq_true]
   repeat' (first | with_reducible assumption | with_reducible refine And.intro ?_ ?_ | intro _)
   all_goals first | omega | (unfold lenB; omega) | skip
theorem readI_sound (hE : errK) (hK : tabK) : Sound Tryd.prog 11 spRead := by
 have h := (readIX_sound hE hK).weak (by
  rintro ds r o ⟨s, rfl, _⟩ hm x hx
  rw [Spec.may_none spReadX_alts, spReadX_res] at hm
  obtain ⟨rfl, _⟩ := hm
  simp only [List.mem_cons, List.not_mem_nil, or_false] at hx
  rcases hx with rfl | rfl
  ·generalize valT s = t
   cases t; simp [AV.dt, Pt.dt, agX, dtR_plain, plainR_strs, dtR_encLX]
  ·trivial)
 refine h.mono ?_
 rintro args ⟨s, rfl, hs⟩
 refine ⟨(weak_pre spReadX _).trans (spReadX_pre s) ▸ hs, ?_⟩
 rintro r o hm
 have hn : spReadX.weak.alts = none := rfl
 rw [Spec.may_none hn] at hm
 rw [Spec.may_none spRead_alts, spRead_res, spRead_out]
 refine ⟨hm.1.trans ?_, hm.2.trans (spReadX_out s)⟩
 show (spReadX.res _).map AV.weak = _
 rw [spReadX_res]
 simp only [List.map_cons, List.map_nil, AV.weak, agX_toC]
end Go.Proofs.Pw
namespace Go.Proofs.Pw
def bytes (bs : List Int) : Prop := (∀ b ∈ bs, 0 <= b /\ b <= 255) /\ lenB 140737488355328 bs.length
end Go.Proofs.Pw
