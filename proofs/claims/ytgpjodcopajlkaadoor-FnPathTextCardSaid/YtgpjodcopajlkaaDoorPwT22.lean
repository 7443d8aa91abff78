/- Ways read from texts: both programs; what lies at a way's end, in the reference. -/
import Derived.Test.YtgpjodcopajlkaaDoorPwT15
import Derived.Test.YtgpjodcopajlkaaDoorPwT17
import Derived.Test.YtgpjodcopajlkaaDoorPwT20
import Derived.Test.YtgpjodcopajlkaaDoorPwT21
import Derived.Test.YtgpjodcopajlkaaDoorPwT14
import Derived.Test.YtgpjodcopajlkaaDoorPwT10
import Derived.Test.YtgpjodcopajlkaaDoorPwT13
import Derived.Test.YtgpjodcopajlkaaDoorPwT12
set_option linter.unusedSimpArgs false
set_option linter.unusedVariables false
set_option linter.unusedSectionVars false
set_option maxRecDepth 20000
namespace Go.Proofs.Pw
variable [Globs]
def x_PathReadI : X := (.seq (.reg [⟨some 2, none, .mv (.k (.z 3))⟩, ⟨some 3, none, .mv (.k (.c (.bool false)))⟩] none [0]) (.seq (.seq (.reg [⟨some 8, none, .mv (.t 0)⟩, ⟨some 9, none, .bin false .eql (.t 8) (.k (.c (.str ⟨#[]⟩)))⟩, ⟨some 10, none, .mv (.t 9)⟩, ⟨some 11, some (10, false), .mv (.t 0)⟩, ⟨some 12, some (10, false), .len (.t 11) true⟩, ⟨some 13, some (10, false), .bin false .gtr (.t 12) (.k (.c (.int .i64 120)))⟩, ⟨some 14, none, .pick (.t 10) (.k (.c (.bool true))) (.t 13)⟩] none [0, 14]) (.cond (.t 14) (.seq (.reg [⟨some 15, none, .bsl 3 []⟩, ⟨some 2, none, .mv (.t 15)⟩, ⟨some 3, none, .mv (.k (.c (.bool false)))⟩] none [2, 3]) .ret) .skip)) (.seq (.reg [⟨some 16, none, .bsl 3 []⟩, ⟨some 4, none, .mv (.t 16)⟩] none [0, 4]) (.seq (.reg [⟨some 17, none, .mv (.t 0)⟩, ⟨some 18, none, .build [(.c (.str ⟨#[]⟩)), (.c (.int .i64 0))] [(0, (.t 17), none)]⟩, ⟨some 19, none, .box (.t 18) (some 2)⟩, ⟨some 5, none, .mv (.t 19)⟩] none [0, 4, 5]) (.seq (.reg [⟨some 20, none, .mv (.t 5)⟩, ⟨some 21, none, .callr 52 [(.t 20), (.k (.c (.str ⟨#[36]⟩)))]⟩] none [0, 4, 5]) (.seq (.block 0 (.loop (.seq (.seq (.reg [⟨some 22, none, .mv (.t 5)⟩, ⟨some 23, none, .nilc (.t 22)⟩, ⟨some 24, none, .fa (.t 23) 1⟩, ⟨some 25, none, .load (.t 24) none⟩, ⟨some 26, none, .mv (.t 0)⟩, ⟨some 27, none, .len (.t 26) true⟩, ⟨some 28, none, .bin false .lss (.t 25) (.t 27)⟩, ⟨some 29, none, .mv (.t 28)⟩, ⟨some 30, some (29, true), .mv (.t 4)⟩, ⟨some 31, some (29, true), .len (.t 30) false⟩, ⟨some 32, some (29, true), .bin false .leq (.t 31) (.k (.c (.int .i64 6)))⟩, ⟨some 33, none, .pick (.t 29) (.t 32) (.k (.c (.bool false)))⟩] none [0, 4, 5, 33]) (.cond (.t 33) .skip (.exit 0))) (.block 1 (.block 2 (.seq (.reg [⟨some 36, none, .mv (.t 5)⟩, ⟨some 37, none, .callr 52 [(.t 36), (.k (.c (.str ⟨#[46]⟩)))]⟩, ⟨some 35, none, .mv (.t 37)⟩] none [0, 4, 5, 35]) (.cond (.t 35) (.reg [⟨some 38, none, .mv (.t 4)⟩, ⟨some 39, none, .mv (.t 5)⟩, ⟨some 40, none, .callr 53 [(.t 39), (.k (.c (.str ⟨#[46, 91]⟩)))]⟩, ⟨some 41, none, .build [(.c (.bool false)), (.c (.str ⟨#[]⟩)), (.c (.int .i64 0))] [(0, (.k (.c (.bool true))), none), (1, (.t 40), none)]⟩, ⟨some 42, none, .bsl 3 [((.t 41), (some 3))]⟩, ⟨some 43, none, .app (.t 38) (.t 42) 3 32 []⟩, ⟨some 4, none, .mv (.t 43)⟩] none [0, 4, 5]) (.seq (.reg [⟨some 45, none, .mv (.t 5)⟩, ⟨some 46, none, .callr 52 [(.t 45), (.k (.c (.str ⟨#[91]⟩)))]⟩, ⟨some 44, none, .mv (.t 46)⟩] none [0, 4, 5, 44]) (.cond (.t 44) (.seq (.reg [⟨some 48, none, .mv (.t 5)⟩, ⟨some 49, none, .callr 53 [(.t 48), (.k (.c (.str ⟨#[93]⟩)))]⟩, ⟨some 50, none, .call 54 [(.t 49)]⟩, ⟨some 47, none, .mv (.t 50)⟩, ⟨some 51, none, .ext (.t 47) 0⟩, ⟨some 52, none, .ext (.t 47) 1⟩, ⟨some 6, none, .mv (.t 51)⟩, ⟨some 7, none, .mv (.t 52)⟩] none [0, 4, 5, 6]) (.seq (.reg [⟨some 53, none, .mv (.t 5)⟩, ⟨some 54, none, .callr 52 [(.t 53), (.k (.c (.str ⟨#[93]⟩)))]⟩] none [0, 4, 5, 6]) (.reg [⟨some 55, none, .mv (.t 4)⟩, ⟨some 56, none, .mv (.t 6)⟩, ⟨some 57, none, .build [(.c (.bool false)), (.c (.str ⟨#[]⟩)), (.c (.int .i64 0))] [(2, (.t 56), none)]⟩, ⟨some 58, none, .bsl 3 [((.t 57), (some 3))]⟩, ⟨some 59, none, .app (.t 55) (.t 58) 3 32 []⟩, ⟨some 4, none, .mv (.t 59)⟩] none [0, 4, 5]))) (.seq (.reg [⟨some 34, none, .bsl 3 []⟩, ⟨some 2, none, .mv (.t 34)⟩, ⟨some 3, none, .mv (.k (.c (.bool false)))⟩] none [2, 3]) .ret)))))))))) (.seq (.seq (.reg [⟨some 60, none, .mv (.t 4)⟩, ⟨some 61, none, .call 20 [(.t 60)]⟩, ⟨some 62, none, .mv (.t 0)⟩, ⟨some 63, none, .bin false .neq (.t 61) (.t 62)⟩] none [4, 63]) (.cond (.t 63) (.seq (.reg [⟨some 64, none, .bsl 3 []⟩, ⟨some 2, none, .mv (.t 64)⟩, ⟨some 3, none, .mv (.k (.c (.bool false)))⟩] none [2, 3]) .ret) .skip)) (.seq (.reg [⟨some 65, none, .mv (.t 4)⟩, ⟨some 2, none, .mv (.t 65)⟩, ⟨some 3, none, .mv (.k (.c (.bool true)))⟩] none [2, 3]) .ret))))))))
theorem chk_PathReadI : chkX Tryd.prog 66 (Tryd.f21.body.getD .skip) x_PathReadI = true := by kernel_rfl
theorem rs_PathReadI : okRs Tryd.prog Tryd.f21.results.toList [.tmp 2, .tmp 3] = true := by kernel_rfl
theorem call_PathReadI : okCallee Tryd.prog 21 = true := by kernel_rfl
def x_l3Read : X := (.seq (.reg [⟨some 4, none, .alloc [(.c (.bool false)), (.c (.str ⟨#[]⟩)), (.c (.int .i64 0))]⟩, ⟨some 5, none, .mv (.k (.c (.int .i64 0)))⟩] none [0, 1, 4]) (.seq (.seq (.reg [⟨some 9, none, .mv (.t 0)⟩, ⟨some 10, none, .mv (.t 1)⟩, ⟨some 11, none, .call 61 [(.t 9), (.t 10), (.k (.c (.int .u8 46)))]⟩] none [0, 1, 4, 11]) (.cond (.t 11) (.seq (.reg [⟨some 12, none, .mv (.t 0)⟩, ⟨some 13, none, .mv (.t 1)⟩, ⟨some 14, none, .bin false .add (.t 13) (.k (.c (.int .i64 1)))⟩, ⟨some 15, none, .call 73 [(.t 12), (.t 14)]⟩, ⟨some 6, none, .mv (.t 15)⟩] none [0, 1, 4, 6]) (.seq (.reg [⟨some 16, none, .mv (.t 0)⟩, ⟨some 17, none, .mv (.t 1)⟩, ⟨some 18, none, .bin false .add (.t 17) (.k (.c (.int .i64 1)))⟩, ⟨some 19, none, .mv (.t 6)⟩, ⟨some 20, none, .sub (.t 16) (some (.t 18)) (some (.t 19)) 0⟩, ⟨some 21, none, .build [(.c (.bool false)), (.c (.str ⟨#[]⟩)), (.c (.int .i64 0))] [(0, (.k (.c (.bool true))), none), (1, (.t 20), none)]⟩, ⟨some 22, none, .mv (.t 6)⟩, ⟨none, none, .st (.t 4) (.t 21) (some 3)⟩, ⟨some 5, none, .mv (.t 22)⟩] none [4, 5]) .ret)) .skip)) (.seq (.seq (.reg [⟨some 23, none, .mv (.t 0)⟩, ⟨some 24, none, .mv (.t 1)⟩, ⟨some 25, none, .call 61 [(.t 23), (.t 24), (.k (.c (.int .u8 91)))]⟩, ⟨some 26, none, .not (.t 25)⟩] none [0, 1, 4, 26]) (.cond (.t 26) (.seq (.reg [⟨some 27, none, .build [(.c (.bool false)), (.c (.str ⟨#[]⟩)), (.c (.int .i64 0))] []⟩, ⟨none, none, .st (.t 4) (.t 27) (some 3)⟩, ⟨some 5, none, .mv (.k (.c (.int .i64 (-1))))⟩] none [4, 5]) .ret) .skip)) (.seq (.reg [⟨some 29, none, .mv (.t 0)⟩, ⟨some 30, none, .mv (.t 1)⟩, ⟨some 31, none, .bin false .add (.t 30) (.k (.c (.int .i64 1)))⟩, ⟨some 32, none, .call 75 [(.t 29), (.t 31)]⟩, ⟨some 28, none, .mv (.t 32)⟩, ⟨some 33, none, .ext (.t 28) 0⟩, ⟨some 34, none, .ext (.t 28) 1⟩, ⟨some 7, none, .alloc [(.c (.int .i64 0)), (.c (.int .i64 0)), (.c (.str ⟨#[]⟩)), (.z 1), (.z 5)]⟩, ⟨none, none, .st (.t 7) (.t 33) (some 5)⟩, ⟨some 8, none, .mv (.t 34)⟩] none [0, 4, 7, 8]) (.seq (.seq (.reg [⟨some 35, none, .mv (.t 8)⟩, ⟨some 36, none, .bin false .lss (.t 35) (.k (.c (.int .i64 0)))⟩, ⟨some 37, none, .mv (.t 36)⟩, ⟨some 38, some (37, false), .mv (.t 0)⟩, ⟨some 39, some (37, false), .mv (.t 8)⟩, ⟨some 40, some (37, false), .call 61 [(.t 38), (.t 39), (.k (.c (.int .u8 93)))]⟩, ⟨some 41, some (37, false), .not (.t 40)⟩, ⟨some 42, none, .pick (.t 37) (.k (.c (.bool true))) (.t 41)⟩] none [4, 7, 8, 42]) (.cond (.t 42) (.seq (.reg [⟨some 43, none, .build [(.c (.bool false)), (.c (.str ⟨#[]⟩)), (.c (.int .i64 0))] []⟩, ⟨none, none, .st (.t 4) (.t 43) (some 3)⟩, ⟨some 5, none, .mv (.k (.c (.int .i64 (-1))))⟩] none [4, 5]) .ret) .skip)) (.seq (.reg [⟨some 44, none, .fa (.t 7) 1⟩, ⟨some 45, none, .load (.t 44) none⟩, ⟨some 46, none, .build [(.c (.bool false)), (.c (.str ⟨#[]⟩)), (.c (.int .i64 0))] [(2, (.t 45), none)]⟩, ⟨some 47, none, .mv (.t 8)⟩, ⟨some 48, none, .bin false .add (.t 47) (.k (.c (.int .i64 1)))⟩, ⟨none, none, .st (.t 4) (.t 46) (some 3)⟩, ⟨some 5, none, .mv (.t 48)⟩] none [4, 5]) .ret))))))
theorem chk_l3Read : chkX Tryd.prog 49 (Tryd.f62.body.getD .skip) x_l3Read = true := by kernel_rfl
theorem rs_l3Read : okRs Tryd.prog Tryd.f62.results.toList [.cell 4 (some 3), .tmp 5] = true := by kernel_rfl
theorem call_l3Read : okCallee Tryd.prog 62 = true := by kernel_rfl
def x_PathReadS : X := (.seq (.reg [⟨some 2, none, .mv (.k (.z 3))⟩, ⟨some 3, none, .mv (.k (.c (.bool false)))⟩] none [0]) (.seq (.seq (.reg [⟨some 8, none, .mv (.t 0)⟩, ⟨some 9, none, .len (.t 8) true⟩, ⟨some 10, none, .bin false .gtr (.t 9) (.k (.c (.int .i64 120)))⟩, ⟨some 11, none, .mv (.t 10)⟩, ⟨some 12, some (11, false), .mv (.t 0)⟩, ⟨some 13, some (11, false), .call 61 [(.t 12), (.k (.c (.int .i64 0))), (.k (.c (.int .u8 36)))]⟩, ⟨some 14, some (11, false), .not (.t 13)⟩, ⟨some 15, none, .pick (.t 11) (.k (.c (.bool true))) (.t 14)⟩] none [0, 15]) (.cond (.t 15) (.seq (.reg [⟨some 2, none, .mv (.k (.z 3))⟩, ⟨some 3, none, .mv (.k (.c (.bool false)))⟩] none [2, 3]) .ret) .skip)) (.seq (.reg [⟨some 16, none, .bsl 3 []⟩, ⟨some 4, none, .mv (.t 16)⟩] none [0, 4]) (.seq (.reg [⟨some 5, none, .mv (.k (.c (.int .i64 1)))⟩] none [0, 4, 5]) (.seq (.block 0 (.loop (.seq (.seq (.reg [⟨some 17, none, .mv (.t 5)⟩, ⟨some 18, none, .mv (.t 0)⟩, ⟨some 19, none, .len (.t 18) true⟩, ⟨some 20, none, .bin false .lss (.t 17) (.t 19)⟩] none [0, 4, 5, 20]) (.cond (.t 20) .skip (.exit 0))) (.block 1 (.seq (.reg [⟨some 22, none, .mv (.t 0)⟩, ⟨some 23, none, .mv (.t 5)⟩, ⟨some 24, none, .call 62 [(.t 22), (.t 23)]⟩, ⟨some 21, none, .mv (.t 24)⟩, ⟨some 25, none, .ext (.t 21) 0⟩, ⟨some 26, none, .ext (.t 21) 1⟩, ⟨some 6, none, .alloc [(.c (.bool false)), (.c (.str ⟨#[]⟩)), (.c (.int .i64 0))]⟩, ⟨none, none, .st (.t 6) (.t 25) (some 3)⟩, ⟨some 7, none, .mv (.t 26)⟩] none [0, 4, 6, 7]) (.seq (.seq (.reg [⟨some 27, none, .mv (.t 7)⟩, ⟨some 28, none, .bin false .lss (.t 27) (.k (.c (.int .i64 0)))⟩] none [0, 4, 6, 7, 28]) (.cond (.t 28) (.seq (.reg [⟨some 2, none, .mv (.k (.z 3))⟩, ⟨some 3, none, .mv (.k (.c (.bool false)))⟩] none [2, 3]) .ret) .skip)) (.seq (.reg [⟨some 29, none, .mv (.t 4)⟩, ⟨some 30, none, .load (.t 6) (some 3)⟩, ⟨some 31, none, .bsl 3 [((.t 30), (some 3))]⟩, ⟨some 32, none, .app (.t 29) (.t 31) 3 32 []⟩, ⟨some 4, none, .mv (.t 32)⟩] none [0, 4, 7]) (.reg [⟨some 33, none, .mv (.t 7)⟩, ⟨some 5, none, .mv (.t 33)⟩] none [0, 4, 5])))))))) (.seq (.seq (.reg [⟨some 34, none, .mv (.t 4)⟩, ⟨some 35, none, .call 24 [(.t 34)]⟩, ⟨some 36, none, .not (.t 35)⟩] none [4, 36]) (.cond (.t 36) (.seq (.reg [⟨some 2, none, .mv (.k (.z 3))⟩, ⟨some 3, none, .mv (.k (.c (.bool false)))⟩] none [2, 3]) .ret) .skip)) (.seq (.reg [⟨some 37, none, .mv (.t 4)⟩, ⟨some 2, none, .mv (.t 37)⟩, ⟨some 3, none, .mv (.k (.c (.bool true)))⟩] none [2, 3]) .ret)))))))
theorem chk_PathReadS : chkX Tryd.prog 38 (Tryd.f26.body.getD .skip) x_PathReadS = true := by kernel_rfl
theorem rs_PathReadS : okRs Tryd.prog Tryd.f26.results.toList [.tmp 2, .tmp 3] = true := by kernel_rfl
theorem call_PathReadS : okCallee Tryd.prog 26 = true := by kernel_rfl
noncomputable def spPRead  : Spec := Spec.of (ι := ByteArray) [false] (fun i => [.d (.one (.str i))]) (fun i => lenB 140737488355328 i.size) (fun i => [.d (.one (.row 3 (encS (wayS i)))), .d (.one (.bool (decide (wayOkS i))))]) (fun _ => [.gone])
theorem spPRead_inj : ∀ i j : ByteArray, (fun (i : ByteArray) => ([.d (.one (.str i))] : List AV)) i = (fun (i : ByteArray) => ([.d (.one (.str i))] : List AV)) j -> i = j := by
 intro s s' h
 simpa [strs_eq, T.enc_eq, encL_eq, F.enc_eq, encF_eq, Tk.enc_eq, encTk_eq, Gn.enc_eq, ints_eq, encS_eq, Int.natCast_inj, and_assoc] using h
theorem spPRead_md  : (spPRead).md = [false] := rfl
theorem spPRead_pre  (s : ByteArray) : (spPRead).pre [.d (.one (.str s))] = (lenB 140737488355328 s.size) := Spec.of_pre' spPRead_inj s
theorem spPRead_alts  : (spPRead).alts = none := rfl
theorem spPRead_res  (s : ByteArray) : (spPRead).res [.d (.one (.str s))] = [.d (.one (.row 3 (encS (wayS s)))), .d (.one (.bool (decide (wayOkS s))))] := Spec.of_res spPRead_inj s
theorem spPRead_out  (s : ByteArray) : (spPRead).out [.d (.one (.str s))] = [.gone] := Spec.of_out spPRead_inj s
theorem rdr_new' (s : ByteArray) : [C.str s, C.int .i64 0] = rdrC s 0 := rfl
theorem rdr_len (s : ByteArray) (a : Nat) : (rdrC s a).length = 2 := rfl
theorem rdr_at (s : ByteArray) (a : Nat) : ((rdrC s a).map Q.c).getD 1 .no = .c (.int .i64 (a : Int)) := rfl
theorem foldS1 (m : Bool) (k : ByteArray) (n : Int) : [[C.bool m, C.str k, C.int .i64 n]] = encS [⟨m, k, n⟩] := rfl
theorem wayFit_of {p : List Stp} {n : Nat} (h1 : p.length <= 1000000) (h2 : ∀ s ∈ p, s.key.size <= n /\ i64 s.at') (hn : n <= 1000000) : wayFit p := ⟨by omega, fun s hs => by
 obtain ⟨h3, h4⟩ := h2 s hs
 unfold i64 at h4
 exact ⟨by omega, h4.1, h4.2⟩⟩
set_option maxHeartbeats 4000000 in
theorem pathReadI_sound (hE : errK) (hK : tabK) : Sound Tryd.prog 21 spPRead := by
 refine sound_fam (GOK.cons (l := [(53, spUpTo), (54, spAtoi), (20, spPathText)]) call_skip skip_sound (GOK.cons (l := [(54, spAtoi), (20, spPathText)]) call_upTo upTo_sound (GOK.cons (l := [(20, spPathText)]) call_Atoi (atoi_sound hE) (GOK.cons call_PathTextI (pathTextI_sound hK) GOK.nil)))) Tryd.func21 (c := Tryd.f21.body.getD .skip) rfl (n := 66) rfl chk_PathReadI rs_PathReadI (fun _ => by simp) ?_ ?_
 ·exact spPRead_inj
 ·intro s h1
  change lenB 140737488355328 s.size at h1
  simp only [lenB] at h1
  have q0 : (s = ⟨#[]⟩) = (s.size = 0) := propext ⟨fun h => by rw [h]; rfl, fun h => ByteArray.ext (Array.eq_empty_of_size_eq_zero h)⟩
  have z1 : encS [] = [] := rfl
  by_cases c0 : s.size = 0
  ·have e : ¬ wayOkS s := fun h => (wayOkS_size h).1 c0
   have a0 : (s = ⟨#[]⟩) = True := by rw [q0]; exact eq_true c0
   have a1 := wayS_no e
   have a2 : wayOkS s = False := eq_false e
   simp only [x_PathReadI, rg, go_sem, seval, Prod.fst, a0, a1, a2, z1]
   repeat' (first | with_reducible assumption | with_reducible refine And.intro ?_ ?_ | intro _)
   all_goals first | omega | skip
  have a0 : (s = ⟨#[]⟩) = False := by rw [q0]; exact eq_false c0
  by_cases c1 : 120 < s.size
  ·have e : ¬ wayOkS s := fun h => by have := (wayOkS_size h).2; omega
   have a3 : ((120 : Int) < (s.size : Int)) = True := eq_true (by omega)
   have a1 := wayS_no e
   have a2 : wayOkS s = False := eq_false e
   simp only [x_PathReadI, rg, go_sem, seval, Prod.fst, a0, a1, a2, a3, z1]
   repeat' (first | with_reducible assumption | with_reducible refine And.intro ?_ ?_ | intro _)
   all_goals first | omega | skip
  have a3 : ((120 : Int) < (s.size : Int)) = False := eq_false (by omega)
  have hl := tL_len s
  have t1 : tL ⟨#[36]⟩ = [36] := rfl
  have t2 : tL ⟨#[46]⟩ = [46] := rfl
  have t3 : tL ⟨#[91]⟩ = [91] := rfl
  have t4 : tL ⟨#[93]⟩ = [93] := rfl
  have t5 : tL ⟨#[46, 91]⟩ = [46, 91] := rfl
  have q1 : (ByteArray.mk #[36]).size = 1 := rfl
  have q2 : (ByteArray.mk #[46]).size = 1 := rfl
  have q3 : (ByteArray.mk #[91]).size = 1 := rfl
  have q4 : (ByteArray.mk #[93]).size = 1 := rfl
  have hyes := fun h => rdP_yes (s := s) h
  have hno := fun p h => rdP_no (s := s) (p := p) c0 h
  have hfit := fun p => rdP_fit (l := tL s) (c := 7) (a := clo (tL s) 0 [36]) (p := p) (clo_le (Nat.zero_le _) (by simp)).2
  have h0 := clo_le (l := tL s) (p := [36]) (a := 0) (Nat.zero_le _) (by simp)
  generalize hL : tL s = l at *
  generalize hA : clo l 0 [36] = a0' at *
  simp only [x_PathReadI, rg, go_sem, seval, Prod.fst, a0, a3, hL, hA, t1, q1, rdr_new', spSkip_md, spSkip_pre, spSkip_ne, ↓spSkip_all, spSkip_all]
  repeat' (first | with_reducible assumption | with_reducible refine And.intro ?_ ?_ | intro _)
  all_goals first | omega | (unfold lenB; omega) | skip
  refine pw_loop (ι := List Stp × Nat) (fun i => 7 - i.1.length) (fun i => i.1.length <= 7 /\ i.2 <= s.size /\ rdP l 7 a0' = (rdP l (7 - i.1.length) i.2).map fun p => i.1 ++ p)
   (fun i => ⟨[(0, .q (.c (.str s))), (4, .q (.own 201)), (5, .q (.box 19 0))], [(19, (rdrC s i.2).map .c)], [(201, 3, encS i.1)]⟩) ([], a0') ⟨by simp, by show a0' <= s.size; omega, by simp⟩ ?_ ?_
  ·refine Le.own (t := 4) (d := 201) (sz := 3) (by decide) (by simp) (by simp [Q.killO, rdrC]) ?_
   simp [PV.map, Q.killO, rdrC, z1]
  ·rintro ⟨acc, i⟩ ⟨g1, g2, g3⟩
   simp only at g1 g2 g3
   have fin : rdP l 7 a0' = some acc -> (wayOkS s /\ wayS s = acc /\ pathText acc = s \/ ¬ wayOkS s /\ pathText acc ≠ s) /\ wayFit acc := fun h => by
    refine ⟨?_, wayFit_of (n := 1000) (by omega) (fun x hx => by have := (hfit acc h).2 x hx; exact ⟨by omega, this.2⟩) (by omega)⟩
    by_cases hw : wayOkS s
    ·have := hyes hw
     rw [h] at this
     have e := Option.some.inj this
     exact .inl ⟨hw, e.symm, by rw [e]; exact (wayS_ok hw).2⟩
    ·exact .inr ⟨hw, hno acc hw⟩
   rcases Nat.lt_or_ge i s.size with hlt | hge
   ·have b1 : ((i : Int) < (s.size : Int)) = True := eq_true (by omega)
    have hlt' : i < l.length := by omega
    by_cases hc : acc.length < 7
    ·have b2 : ((acc.length : Int) <= 6) = True := eq_true (by omega)
     obtain ⟨c, hc'⟩ : ∃ c, 7 - acc.length = c + 1 := ⟨6 - acc.length, by omega⟩
     rw [hc'] at g3
     by_cases c2 : skp l i [46] = true
     ·rw [rdP_k hlt' c2] at g3
      have k0 := skp_len c2 (by simp)
      simp only [List.length_cons, List.length_nil] at k0
      have k1 := upTo_le (l := l) (e := [46, 91]) (a := i + 1) (by omega)
      simp only [rg, go_sem, seval, Prod.fst, hL, b1, b2, t2, q2, t5, c2, clo_t c2, rdr_len, rdr_at, foldS1, encS_len, List.length_cons, List.length_nil, Nat.zero_add, spSkip_md, spSkip_pre, spSkip_ne, ↓spSkip_all, spSkip_all, spUpTo_md, spUpTo_pre, spUpTo_ne, ↓spUpTo_all, spUpTo_all]
      repeat' (first | with_reducible assumption | with_reducible refine And.intro ?_ ?_ | intro _)
      all_goals first | omega | (unfold lenB; omega) | skip
      refine ⟨(acc ++ [⟨true, bL (sub l (i + 1) (upTo l [46, 91] (i + 1))), 0⟩], upTo l [46, 91] (i + 1)), ⟨by simp; omega, by show upTo l [46, 91] (i + 1) <= s.size; omega, ?_⟩, by simp; omega, Le.sub (by simp) (by simp) (by simp [encS_app])⟩
      have e7 : ∀ x : Stp, 7 - (acc ++ [x]).length = c := fun x => by simp; omega
      simp only [e7]; rw [g3, Option.map_map]
      congr 1; funext p; simp
     ·have c2 : skp l i [46] = false := by simpa using c2
      by_cases c3 : skp l i [91] = true
      ·rw [rdP_n hlt' c2 c3] at g3
       have k0 := skp_len c3 (by simp)
       simp only [List.length_cons, List.length_nil] at k0
       have k1 := upTo_le (l := l) (e := [93]) (a := i + 1) (by omega)
       have k2 := clo_le (l := l) (p := [93]) k1.2 (by simp)
       have k3 := sub_len (l := l) (a := i + 1) k1.2
       simp only [rg, go_sem, seval, Prod.fst, hL, b1, b2, t2, q2, t3, q3, t4, q4, c2, clo_f c2, c3, clo_t c3, tL_bL, bL_size, lenB, rdr_len, rdr_at, foldS1, encS_len, List.length_cons, List.length_nil, Nat.zero_add, spSkip_md, spSkip_pre, spSkip_ne, ↓spSkip_all, spSkip_all, spUpTo_md, spUpTo_pre, spUpTo_ne, ↓spUpTo_all, spUpTo_all, spAtoi_md, spAtoi_pre, spAtoi_alts, spAtoi_res, spAtoi_out]
       repeat' (first | with_reducible assumption | with_reducible refine And.intro ?_ ?_ | intro _)
       all_goals first | omega | skip
       refine ⟨(acc ++ [⟨false, ⟨#[]⟩, atoiN (sub l (i + 1) (upTo l [93] (i + 1)))⟩], clo l (upTo l [93] (i + 1)) [93]), ⟨by simp; omega, by show clo l (upTo l [93] (i + 1)) [93] <= s.size; omega, ?_⟩, by simp; omega, Le.sub (by simp) (by simp) (by simp [encS_app])⟩
       have e7 : ∀ x : Stp, 7 - (acc ++ [x]).length = c := fun x => by simp; omega
       simp only [e7]; rw [g3, Option.map_map]
       congr 1; funext p; simp
      ·have c3 : skp l i [91] = false := by simpa using c3
       rw [rdP_b hlt' c2 c3] at g3
       have hn : ¬ wayOkS s := fun h => by
        have := hyes h
        rw [g3] at this; cases this
       have a1 := wayS_no hn
       have a2 : wayOkS s = False := eq_false hn
       simp only [rg, go_sem, seval, Prod.fst, hL, b1, b2, a1, a2, z1, t2, q2, t3, q3, c2, clo_f c2, c3, clo_f c3, rdr_len, rdr_at, encS_len, spSkip_md, spSkip_pre, spSkip_ne, ↓spSkip_all, spSkip_all, spUpTo_md, spUpTo_pre, spUpTo_ne, ↓spUpTo_all, spUpTo_all]
       repeat' (first | with_reducible assumption | with_reducible refine And.intro ?_ ?_ | intro _)
       all_goals first | omega | (unfold lenB; omega) | skip
    ·have b2 : ((acc.length : Int) <= 6) = False := eq_false (by omega)
     rw [show 7 - acc.length = 0 by omega, rdP_0, Option.map_some, List.append_nil] at g3
     obtain ⟨f1, f2⟩ := fin g3
     rcases f1 with ⟨f3, f4, f5⟩ | ⟨f3, f5⟩
     ·have a1 := f4
      have a2 : wayOkS s = True := eq_true f3
      simp only [rg, go_sem, seval, Prod.fst, b1, b2, a1, a2, f5, rdr_len, rdr_at, encS_len, spPathText_md, spPathText_pre, spPathText_alts, spPathText_res, spPathText_out]
      repeat' (first | with_reducible assumption | with_reducible refine And.intro ?_ ?_ | intro _)
      all_goals first | omega | (unfold lenB; omega) | exact f2 | skip
     ·have a1 := wayS_no f3
      have a2 : wayOkS s = False := eq_false f3
      have a4 := eq_false f5
      simp only [rg, go_sem, seval, Prod.fst, b1, b2, a1, a2, a4, z1, rdr_len, rdr_at, encS_len, spPathText_md, spPathText_pre, spPathText_alts, spPathText_res, spPathText_out]
      repeat' (first | with_reducible assumption | with_reducible refine And.intro ?_ ?_ | intro _)
      all_goals first | omega | (unfold lenB; omega) | exact f2 | skip
   ·have b1 : ((i : Int) < (s.size : Int)) = False := eq_false (by omega)
    rw [rdP_e (c := 7 - acc.length) (a := i) (by omega), Option.map_some, List.append_nil] at g3
    obtain ⟨f1, f2⟩ := fin g3
    rcases f1 with ⟨f3, f4, f5⟩ | ⟨f3, f5⟩
    ·have a1 := f4
     have a2 : wayOkS s = True := eq_true f3
     simp only [rg, go_sem, seval, Prod.fst, b1, a1, a2, f5, rdr_len, rdr_at, encS_len, spPathText_md, spPathText_pre, spPathText_alts, spPathText_res, spPathText_out]
     repeat' (first | with_reducible assumption | with_reducible refine And.intro ?_ ?_ | intro _)
     all_goals first | omega | (unfold lenB; omega) | exact f2 | skip
    ·have a1 := wayS_no f3
     have a2 : wayOkS s = False := eq_false f3
     have a4 := eq_false f5
     simp only [rg, go_sem, seval, Prod.fst, b1, a1, a2, a4, z1, rdr_len, rdr_at, encS_len, spPathText_md, spPathText_pre, spPathText_alts, spPathText_res, spPathText_out]
     repeat' (first | with_reducible assumption | with_reducible refine And.intro ?_ ?_ | intro _)
     all_goals first | omega | (unfold lenB; omega) | exact f2 | skip
theorem S0_enc : S0.enc = [C.bool false, C.str ⟨#[]⟩, C.int .i64 0] := rfl
theorem u46 : (46 : Nat).toUInt8 = 46 := rfl
theorem i46 : (46 : Int).toNat = 46 := rfl
theorem u91 : (91 : Nat).toUInt8 = 91 := rfl
theorem i91 : (91 : Int).toNat = 91 := rfl
theorem u36 : (36 : Nat).toUInt8 = 36 := rfl
theorem i36 : (36 : Int).toNat = 36 := rfl
noncomputable def spRdS  : Spec := Spec.of (ι := ByteArray × Nat) [false, false] (fun i => [.d (.one (.str i.1)), .d (.one (.int .i64 (i.2 : Int)))]) (fun i => lenB 1000000 i.1.size /\ i.2 < i.1.size) (fun i => [.d (.agg (psS (tL i.1) i.2).1.enc), .d (.one (.int .i64 (psS (tL i.1) i.2).2))]) (fun _ => [.gone, .gone])
theorem spRdS_inj : ∀ i j : ByteArray × Nat, (fun (i : ByteArray × Nat) => ([.d (.one (.str i.1)), .d (.one (.int .i64 (i.2 : Int)))] : List AV)) i = (fun (i : ByteArray × Nat) => ([.d (.one (.str i.1)), .d (.one (.int .i64 (i.2 : Int)))] : List AV)) j -> i = j := by
 rintro ⟨s, a⟩ ⟨s', a'⟩ h
 simp only [Prod.mk.injEq]
 simpa [strs_eq, T.enc_eq, encL_eq, F.enc_eq, encF_eq, Tk.enc_eq, encTk_eq, Gn.enc_eq, ints_eq, encS_eq, Int.natCast_inj, and_assoc] using h
theorem spRdS_md  : (spRdS).md = [false, false] := rfl
theorem spRdS_pre  (s : ByteArray) (a : Nat) : (spRdS).pre [.d (.one (.str s)), .d (.one (.int .i64 (a : Int)))] = (lenB 1000000 s.size /\ a < s.size) := Spec.of_pre' spRdS_inj (s, a)
theorem spRdS_alts  : (spRdS).alts = none := rfl
theorem spRdS_res  (s : ByteArray) (a : Nat) : (spRdS).res [.d (.one (.str s)), .d (.one (.int .i64 (a : Int)))] = [.d (.agg (psS (tL s) a).1.enc), .d (.one (.int .i64 (psS (tL s) a).2))] := Spec.of_res spRdS_inj (s, a)
theorem spRdS_out  (s : ByteArray) (a : Nat) : (spRdS).out [.d (.one (.str s)), .d (.one (.int .i64 (a : Int)))] = [.gone, .gone] := Spec.of_out spRdS_inj (s, a)
set_option maxHeartbeats 2000000 in
theorem l3Read_sound : Sound Tryd.prog 62 spRdS := by
 refine sound_fam (GOK.cons (l := [(73, spLetters), (75, spPsN)]) call_l1At atB_sound (GOK.cons (l := [(75, spPsN)]) call_l1Letters letters_sound (GOK.cons call_l1Num lnum_sound GOK.nil))) Tryd.func62 (c := Tryd.f62.body.getD .skip) rfl (n := 49) rfl chk_l3Read rs_l3Read (fun _ => by simp) ?_ ?_
 ·exact spRdS_inj
 ·rintro ⟨s, a⟩ ⟨h1, h2⟩
  simp only [lenB] at h1 h2
  have hl := tL_len s
  have ec : ((a : Int) + 1) = ((a + 1 : Nat) : Int) := by omega
  by_cases c0 : atB (tL s) a 46 = true
  ·have hu := spanE_le (p := ltrB) (l := tL s) (a := a + 1) (by omega)
   have e : psS (tL s) a = (⟨true, bL (sub (tL s) (a + 1) (spanE ltrB (tL s) (a + 1))), 0⟩, (spanE ltrB (tL s) (a + 1) : Int)) := by unfold psS; rw [if_pos c0]
   simp only [x_l3Read, rg, go_sem, seval, Prod.fst, ec, e, i46, u46, c0, ext_sub, Int.toNat_natCast, Stp.enc, spAtB_md, spAtB_pre, spAtB_alts, spAtB_res, spAtB_out, spLetters_md, spLetters_pre, spLetters_alts, spLetters_res, spLetters_out]
   repeat' (first | with_reducible assumption | with_reducible refine And.intro ?_ ?_ | intro _)
   all_goals first | omega | (unfold lenB; omega) | skip
  have c0 : atB (tL s) a 46 = false := by simpa using c0
  by_cases c1 : atB (tL s) a 91 = true
  ·obtain ⟨o1, o2, o3, _⟩ := psN_len (l := tL s) (a := a + 1) (by omega)
   have zz : ∀ t : T, (t.enc.map Q.c).getD 1 .no = .c (.int .i64 t.n) := fun t => by cases t; rfl
   by_cases c2 : (psN (tL s) (a + 1)).2 < 0
   ·have e : psS (tL s) a = (S0, -1) := by unfold psS; rw [c0, if_neg (by simp), if_pos c1, if_pos c2]
    have b2 := eq_true c2
    simp only [x_l3Read, rg, go_sem, seval, Prod.fst, ec, e, i46, u46, i91, u91, c0, c1, b2, Int.toNat_natCast, S0_enc, T.enc_len, spAtB_md, spAtB_pre, spAtB_alts, spAtB_res, spAtB_out, spPsN_md, spPsN_pre, spPsN_alts, spPsN_res, spPsN_out]
    repeat' (first | with_reducible assumption | with_reducible refine And.intro ?_ ?_ | intro _)
    all_goals first | omega | (unfold lenB; omega) | skip
   have b2 := eq_false c2
   by_cases c3 : atB (tL s) (psN (tL s) (a + 1)).2.toNat 93 = true
   ·have e : psS (tL s) a = (⟨false, ⟨#[]⟩, (psN (tL s) (a + 1)).1.n⟩, (psN (tL s) (a + 1)).2 + 1) := by unfold psS; rw [c0, if_neg (by simp), if_pos c1, if_neg c2, if_pos c3]
    simp only [x_l3Read, rg, go_sem, seval, Prod.fst, ec, e, zz, i46, u46, i91, u91, i93, u93, c0, c1, b2, c3, Int.toNat_natCast, Stp.enc, T.enc_len, spAtB_md, spAtB_pre, spAtB_alts, spAtB_res, spAtB_out, spPsN_md, spPsN_pre, spPsN_alts, spPsN_res, spPsN_out]
    repeat' (first | with_reducible assumption | with_reducible refine And.intro ?_ ?_ | intro _)
    all_goals first | omega | (unfold lenB; omega) | skip
   ·have c3 : atB (tL s) (psN (tL s) (a + 1)).2.toNat 93 = false := by simpa using c3
    have e : psS (tL s) a = (S0, -1) := by unfold psS; rw [c0, if_neg (by simp), if_pos c1, if_neg c2, c3, if_neg (by simp)]
    simp only [x_l3Read, rg, go_sem, seval, Prod.fst, ec, e, zz, i46, u46, i91, u91, i93, u93, c0, c1, b2, c3, Int.toNat_natCast, S0_enc, T.enc_len, spAtB_md, spAtB_pre, spAtB_alts, spAtB_res, spAtB_out, spPsN_md, spPsN_pre, spPsN_alts, spPsN_res, spPsN_out]
    repeat' (first | with_reducible assumption | with_reducible refine And.intro ?_ ?_ | intro _)
    all_goals first | omega | (unfold lenB; omega) | skip
  ·have c1 : atB (tL s) a 91 = false := by simpa using c1
   have e : psS (tL s) a = (S0, -1) := by unfold psS; rw [c0, if_neg (by simp), c1, if_neg (by simp)]
   simp only [x_l3Read, rg, go_sem, seval, Prod.fst, ec, e, i46, u46, i91, u91, c0, c1, Int.toNat_natCast, S0_enc, spAtB_md, spAtB_pre, spAtB_alts, spAtB_res, spAtB_out]
   repeat' (first | with_reducible assumption | with_reducible refine And.intro ?_ ?_ | intro _)
   all_goals first | omega | (unfold lenB; omega) | skip
set_option maxHeartbeats 2000000 in
theorem pathRead_sound : Sound Tryd.prog 26 spPRead := by
 refine sound_fam (GOK.cons (l := [(62, spRdS), (24, spPathOk)]) call_l1At atB_sound (GOK.cons (l := [(24, spPathOk)]) call_l3Read l3Read_sound (GOK.cons call_PathOk PathOk_sound GOK.nil))) Tryd.func26 (c := Tryd.f26.body.getD .skip) rfl (n := 38) rfl chk_PathReadS rs_PathReadS (fun _ => by simp) ?_ ?_
 ·exact spPRead_inj
 ·intro s h1
  change lenB 140737488355328 s.size at h1
  simp only [lenB] at h1
  have z1 : encS [] = [] := rfl
  by_cases c1 : 120 < s.size
  ·have e : ¬ wayOkS s := fun h => by have := (wayOkS_size h).2; omega
   have a3 : ((120 : Int) < (s.size : Int)) = True := eq_true (by omega)
   have a1 := wayS_no e
   have a2 : wayOkS s = False := eq_false e
   simp only [x_PathReadS, rg, go_sem, seval, Prod.fst, a1, a2, a3, z1, spAtB_md, spAtB_pre, spAtB_alts, spAtB_res, spAtB_out]
   repeat' (first | with_reducible assumption | with_reducible refine And.intro ?_ ?_ | intro _)
   all_goals first | omega | skip
  have a3 : ((120 : Int) < (s.size : Int)) = False := eq_false (by omega)
  have hl := tL_len s
  by_cases c2 : atB (tL s) 0 36 = true
  ·have hl0 := atB_lt c2
   have hyes := fun h => psP_yes (s := s) h
   have hno := fun p h => psP_no (s := s) (p := p) h c2
   generalize hL : tL s = l at *
   simp only [x_PathReadS, rg, go_sem, seval, Prod.fst, hL, a3, i36, u36, c2, Int.toNat_zero, spAtB_md, spAtB_pre, spAtB_alts, spAtB_res, spAtB_out]
   repeat' (first | with_reducible assumption | with_reducible refine And.intro ?_ ?_ | intro _)
   all_goals first | omega | (unfold lenB; omega) | skip
   refine pw_loop (ι := List Stp × Nat × Nat) (fun i => l.length - i.2.1) (fun i => i.2.1 <= l.length /\ l.length <= i.2.1 + i.2.2 /\ i.1.length <= i.2.1 /\ (∀ x ∈ i.1, x.key.size <= l.length /\ i64 x.at') /\ psP l l.length 1 = (psP l i.2.2 i.2.1).map fun p => i.1 ++ p)
    (fun i => ⟨[(0, .q (.c (.str s))), (4, .q (.own 201)), (5, .q (.c (.int .i64 (i.2.1 : Int))))], [], [(201, 3, encS i.1)]⟩) ([], 1, l.length) ⟨by show 1 <= _; omega, by show l.length <= 1 + l.length; omega, by simp, by simp, by simp⟩ ?_ ?_
   ·refine Le.own (t := 4) (d := 201) (sz := 3) (by decide) (by simp) (by simp [Q.killO]) ?_
    simp [PV.map, Q.killO]
   ·rintro ⟨acc, i, c⟩ ⟨g1, g2, g4, g5, g3⟩
    simp only at g1 g2 g3 g4 g5
    rcases Nat.lt_or_ge i l.length with hlt | hge
    ·have b1 : ((i : Int) < (s.size : Int)) = True := eq_true (by omega)
     obtain ⟨c', rfl⟩ : ∃ c', c = c' + 1 := ⟨c - 1, by omega⟩
     obtain ⟨o1, o2, o3, o4, o5⟩ := psS_ok hlt
     by_cases c3 : (psS l i).2 < 0
     ·have b2 := eq_true c3
      rw [psP_n hlt c3] at g3
      have hn : ¬ wayOkS s := fun h => by
       have := (hyes h).2.1
       rw [g3] at this; cases this
      have a1 := wayS_no hn
      have a2 : wayOkS s = False := eq_false hn
      simp only [rg, go_sem, seval, Prod.fst, hL, b1, b2, a1, a2, z1, Stp.len3, encS_len, spRdS_md, spRdS_pre, spRdS_alts, spRdS_res, spRdS_out]
      repeat' (first | with_reducible assumption | with_reducible refine And.intro ?_ ?_ | intro _)
      all_goals first | omega | (unfold lenB; omega) | skip
     ·have b2 := eq_false c3
      have o6 := o3 (by omega)
      rw [psP_y hlt c3] at g3
      have ec : (((psS l i).2.toNat : Nat) : Int) = (psS l i).2 := by omega
      simp only [rg, go_sem, seval, Prod.fst, hL, b1, b2, Stp.len3, encS_len, spRdS_md, spRdS_pre, spRdS_alts, spRdS_res, spRdS_out]
      repeat' (first | with_reducible assumption | with_reducible refine And.intro ?_ ?_ | intro _)
      all_goals first | omega | (unfold lenB; omega) | skip
      refine ⟨(acc ++ [(psS l i).1], (psS l i).2.toNat, c'), ⟨by show (psS l i).2.toNat <= _; omega, by show _ <= (psS l i).2.toNat + c'; omega, by simp; omega, ?_, ?_⟩, by simp; omega, Le.sub (by simp [ec]) (by simp) (by simp [encS_app, encS])⟩
      ·intro x hx
       rcases List.mem_append.1 hx with hx | hx
       ·exact g5 x hx
       ·simp at hx; subst hx; exact ⟨o4, o5⟩
      ·simp only; rw [g3, Option.map_map]
       congr 1; funext p; simp
    ·have b1 : ((i : Int) < (s.size : Int)) = False := eq_false (by omega)
     rw [psP_e (c := c) (a := i) (by omega), Option.map_some, List.append_nil] at g3
     have f2 : wayFit acc := wayFit_of (n := 1000) (by omega) (fun x hx => by have := g5 x hx; exact ⟨by omega, this.2⟩) (by omega)
     by_cases c4 : wayOk acc
     ·have hw : wayOkS s := Classical.byContradiction fun h => hno acc h g3 c4
      obtain ⟨_, k1, k2⟩ := hyes hw
      rw [g3] at k1
      have a1 : wayS s = acc := (Option.some.inj k1).symm
      have a2 : wayOkS s = True := eq_true hw
      have a4 := eq_true c4
      simp only [rg, go_sem, seval, Prod.fst, b1, a1, a2, a4, encS_len, spPathOk_md, spPathOk_pre, spPathOk_alts, spPathOk_res, spPathOk_out]
      repeat' (first | with_reducible assumption | with_reducible refine And.intro ?_ ?_ | intro _)
      all_goals first | omega | (unfold lenB; omega) | exact f2 | skip
     ·have hw : ¬ wayOkS s := fun h => by
       obtain ⟨_, k1, k2⟩ := hyes h
       rw [g3] at k1
       rw [<- Option.some.inj k1] at k2
       exact c4 k2
      have a1 := wayS_no hw
      have a2 : wayOkS s = False := eq_false hw
      have a4 := eq_false c4
      simp only [rg, go_sem, seval, Prod.fst, b1, a1, a2, a4, z1, encS_len, spPathOk_md, spPathOk_pre, spPathOk_alts, spPathOk_res, spPathOk_out]
      repeat' (first | with_reducible assumption | with_reducible refine And.intro ?_ ?_ | intro _)
      all_goals first | omega | (unfold lenB; omega) | exact f2 | skip
  ·have hn : ¬ wayOkS s := fun h => c2 (psP_yes h).1
   have c2 : atB (tL s) 0 36 = false := by simpa using c2
   have a1 := wayS_no hn
   have a2 : wayOkS s = False := eq_false hn
   simp only [x_PathReadS, rg, go_sem, seval, Prod.fst, a1, a2, a3, i36, u36, c2, z1, Int.toNat_zero, spAtB_md, spAtB_pre, spAtB_alts, spAtB_res, spAtB_out]
   repeat' (first | with_reducible assumption | with_reducible refine And.intro ?_ ?_ | intro _)
   all_goals first | omega | (unfold lenB; omega) | skip
end Go.Proofs.Pw
namespace Go.Proofs.Pw
def drP (m : Int) (w : List Stp) : Prop := (w.length : Int) <= m /\ ∀ s ∈ w, (s.key.size : Int) <= 60 /\ -100 <= s.at' /\ s.at' <= 100
theorem drP.mono {m n : Int} {w : List Stp} (h : drP m w) (hmn : m <= n) : drP n w := ⟨Int.le_trans h.1 hmn, h.2⟩
theorem drP.fit {m : Int} {w : List Stp} (h : drP m w) (hm : m <= 140737488355328) : wayFit w := ⟨Int.le_trans h.1 hm, fun s hs => by have := h.2 s hs; exact ⟨by omega, by omega, by omega⟩⟩
theorem drP.snoc {m : Int} {w : List Stp} {s : Stp} (h : drP m w) (h1 : (s.key.size : Int) <= 60) (h2 : -100 <= s.at') (h3 : s.at' <= 100) : drP (m + 1) (w ++ [s]) := by
 refine ⟨by have := h.1; simp; omega, fun x hx => ?_⟩
 rcases List.mem_append.1 hx with hx | hx
 ·exact h.2 x hx
 ·simp only [List.mem_singleton] at hx; subst hx; exact ⟨h1, h2, h3⟩
theorem drP_nil : drP 0 [] := ⟨by simp, by simp⟩
end Go.Proofs.Pw
namespace Go.Proofs.Pw
variable [Globs]
def stepAt (k : Int) (ks : List ByteArray) (i : Nat) : Stp := if k = 6 then ⟨true, ks.getD i ⟨#[]⟩, 0⟩ else ⟨false, ⟨#[]⟩, i⟩
mutual
def allT : T -> List Stp -> List (List Stp)
 | .mk k _ _ ks l, a => a :: allLs k ks l 0 a
def allLs (k : Int) (ks : List ByteArray) : List T -> Nat -> List Stp -> List (List Stp)
 | [], _, _ => []
 | t :: l, i, a => allT t (a ++ [stepAt k ks i]) ++ allLs k ks l (i + 1) a
end
mutual
def T.keyed : T -> Prop
 | .mk k _ _ ks l => (k = 6 -> ks.length = l.length) /\ keyedL l
def keyedL : List T -> Prop
 | [] => True
 | t :: l => t.keyed /\ keyedL l
end
theorem keyed_mem : ∀ {l : List T}, keyedL l -> ∀ t ∈ l, t.keyed
 | [], _, t, h => by simp at h
 | x :: l, h, t, ht => by
   rcases List.mem_cons.1 ht with rfl | ht
   ·exact h.1
   ·exact keyed_mem h.2 t ht
mutual
theorem allT_len : ∀ (t : T) (a : List Stp), ((allT t a).length : Int) = sizeT t
 | .mk k n s ks l, a => by
   have := allLs_len k ks l 0 a
   simp only [allT, List.length_cons, sizeT]; omega
theorem allLs_len (k : Int) (ks : List ByteArray) : ∀ (l : List T) (i : Nat) (a : List Stp), ((allLs k ks l i a).length : Int) = sizeL l
 | [], _, _ => by simp [allLs, sizeL]
 | t :: l, i, a => by
   have := allT_len t (a ++ [stepAt k ks i]); have := allLs_len k ks l (i + 1) a
   simp only [allLs, List.length_append, sizeL]; omega
end
theorem sizeL_mem {l : List T} {t : T} (h : t ∈ l) : sizeT t <= sizeL l := by
 induction l with
 | nil => simp at h
 | cons x l ih =>
   have := allLs_len 0 [] l 0 []; have := sizeT_pos x
   simp only [sizeL]
   rcases List.mem_cons.1 h with rfl | h
   ·omega
   ·have := ih h; omega
theorem sizeL_takeP : ∀ {l : List T} {i : Nat}, sizeL (l.take i) <= sizeL l
 | [], i => by simp [sizeL]
 | x :: l, 0 => by
   have := allLs_len 0 [] (x :: l) 0 []
   simp only [List.take_zero, sizeL] at *; omega
 | x :: l, i + 1 => by
   have := sizeL_takeP (l := l) (i := i)
   simp only [List.take_succ_cons, sizeL]; omega
theorem allLs_app (k : Int) (ks : List ByteArray) : ∀ (l : List T) (t : T) (i : Nat) (a : List Stp), allLs k ks (l ++ [t]) i a = allLs k ks l i a ++ allT t (a ++ [stepAt k ks (i + l.length)])
 | [], t, i, a => by simp [allLs]
 | x :: l, t, i, a => by
   simp only [List.cons_append, allLs, allLs_app k ks l t (i + 1) a, List.append_assoc, List.length_cons]
   rw [show i + 1 + l.length = i + (l.length + 1) by omega]
theorem allLs_take {k : Int} {ks : List ByteArray} {l : List T} {i : Nat} {t : T} {a : List Stp} (h : l[i]? = some t) : allLs k ks (l.take (i + 1)) 0 a = allLs k ks (l.take i) 0 a ++ allT t (a ++ [stepAt k ks i]) := by
 have hi := (List.getElem?_eq_some_iff.1 h).1
 rw [List.take_add_one, h, Option.toList_some, allLs_app, Nat.zero_add, List.length_take, Nat.min_eq_left (by omega)]
theorem foldS (a : List Stp) (b : Bool) (s : ByteArray) (n : Int) : encS a ++ [[C.bool b, C.str s, C.int .i64 n]] = encS (a ++ [⟨b, s, n⟩]) := by simp [encS, Stp.enc]
def x_l3All : X := (.seq (.reg [⟨some 2, none, .box (.t 0) (some 5)⟩, ⟨some 4, none, .mv (.k (.z 1))⟩] none [1, 2]) (.seq (.reg [⟨some 8, none, .bsl 3 []⟩, ⟨some 9, none, .mv (.t 1)⟩, ⟨some 10, none, .app (.t 8) (.t 9) 3 32 []⟩, ⟨some 11, none, .bslx 1 [((.t 10), none)]⟩, ⟨some 5, none, .mv (.t 11)⟩] none [1, 2, 5]) (.seq (.seq (.reg [⟨some 6, none, .mv (.k (.c (.int .i64 0)))⟩] none [1, 2, 5, 6]) (.block 0 (.loop (.seq (.seq (.reg [⟨some 12, none, .mv (.t 6)⟩, ⟨some 13, none, .fa (.t 2) 4⟩, ⟨some 14, none, .load (.t 13) none⟩, ⟨some 15, none, .len (.t 14) false⟩, ⟨some 16, none, .bin false .lss (.t 12) (.t 15)⟩] none [1, 2, 5, 6, 16]) (.cond (.t 16) .skip (.exit 0))) (.seq (.block 1 (.seq (.reg [⟨some 19, none, .mv (.t 6)⟩, ⟨some 20, none, .build [(.c (.bool false)), (.c (.str ⟨#[]⟩)), (.c (.int .i64 0))] [(2, (.t 19), none)]⟩, ⟨some 7, none, .alloc [(.c (.bool false)), (.c (.str ⟨#[]⟩)), (.c (.int .i64 0))]⟩, ⟨none, none, .st (.t 7) (.t 20) (some 3)⟩] none [1, 2, 5, 6, 7]) (.seq (.seq (.reg [⟨some 21, none, .fa (.t 2) 0⟩, ⟨some 22, none, .load (.t 21) none⟩, ⟨some 23, none, .bin false .eql (.t 22) (.k (.c (.int .i64 6)))⟩] none [1, 2, 5, 6, 7, 23]) (.cond (.t 23) (.reg [⟨some 24, none, .fa (.t 2) 3⟩, ⟨some 25, none, .load (.t 24) none⟩, ⟨some 26, none, .mv (.t 6)⟩, ⟨some 27, none, .ia (.t 25) (.t 26) 1⟩, ⟨some 28, none, .load (.t 27) none⟩, ⟨some 29, none, .build [(.c (.bool false)), (.c (.str ⟨#[]⟩)), (.c (.int .i64 0))] [(0, (.k (.c (.bool true))), none), (1, (.t 28), none)]⟩, ⟨none, none, .st (.t 7) (.t 29) (some 3)⟩] none [1, 2, 5, 6, 7]) .skip)) (.mix [⟨some 30, none, .mv (.t 5)⟩, ⟨some 31, none, .fa (.t 2) 4⟩, ⟨some 32, none, .load (.t 31) none⟩, ⟨some 33, none, .mv (.t 6)⟩, ⟨some 34, none, .ia (.t 32) (.t 33) 5⟩, ⟨some 35, none, .load (.t 34) (some 5)⟩, ⟨some 36, none, .bsl 3 []⟩, ⟨some 37, none, .mv (.t 1)⟩, ⟨some 38, none, .app (.t 36) (.t 37) 3 32 []⟩, ⟨some 39, none, .load (.t 7) (some 3)⟩, ⟨some 40, none, .bsl 3 [((.t 39), (some 3))]⟩, ⟨some 41, none, .app (.t 38) (.t 40) 3 32 []⟩, ⟨some 42, none, .callx 115 [(.t 35), (.t 41)]⟩] [⟨some 43, none, .appx (.t 30) (.t 42) 1 24⟩, ⟨some 5, none, .mv (.t 43)⟩] [[], [], [], [], [], [], [], [], [0, 1, 2, 3, 4, 5], [8], [], [0, 1, 2, 3, 4, 5], [0]] [1, 2, 5, 6])))) (.reg [⟨some 17, none, .mv (.t 6)⟩, ⟨some 18, none, .bin false .add (.t 17) (.k (.c (.int .i64 1)))⟩, ⟨some 6, none, .mv (.t 18)⟩] none [1, 2, 5, 6])))))) (.seq (.reg [⟨some 44, none, .mv (.t 5)⟩, ⟨some 4, none, .mv (.t 44)⟩] none [4]) .ret))))
theorem chk_l3All : chkX Tryd.prog 45 (Tryd.f115.body.getD .skip) x_l3All = true := by kernel_rfl
theorem rs_l3All : okRs Tryd.prog Tryd.f115.results.toList [.tmp 4] = true := by kernel_rfl
theorem call_l3All : okCallee Tryd.prog 115 = true := by kernel_rfl
noncomputable def spAllP (k:Nat) : Spec := Spec.of (ι := T × (List Stp)) [false, false] (fun i => [.d (.agg i.1.enc), .d (.one (.row 3 (encS i.2)))]) (fun i => (i.1.fit 2000000 /\ i.1.keyed /\ sizeT i.1 <= 100 /\ (i.2.length : Int) + sizeT i.1 <= 300) /\ SizeOf.sizeOf i.1 < k) (fun i => [.own 1 (encSX (allT i.1 i.2))]) (fun _ => [.gone, .gone])
theorem spAllP_inj : ∀ i j : T × (List Stp), (fun (i : T × (List Stp)) => ([.d (.agg i.1.enc), .d (.one (.row 3 (encS i.2)))] : List AV)) i = (fun (i : T × (List Stp)) => ([.d (.agg i.1.enc), .d (.one (.row 3 (encS i.2)))] : List AV)) j -> i = j := by
 rintro ⟨t, a⟩ ⟨t', a'⟩ h
 simp only [Prod.mk.injEq]
 simpa [strs_eq, T.enc_eq, encL_eq, F.enc_eq, encF_eq, Tk.enc_eq, encTk_eq, Gn.enc_eq, ints_eq, encS_eq] using h
theorem spAllP_md (k:Nat) : (spAllP k).md = [false, false] := rfl
theorem spAllP_pre (k:Nat) (t : T) (a : List Stp) : (spAllP k).pre [.d (.agg t.enc), .d (.one (.row 3 (encS a)))] = ((t.fit 2000000 /\ t.keyed /\ sizeT t <= 100 /\ (a.length : Int) + sizeT t <= 300) /\ SizeOf.sizeOf t < k) := Spec.of_pre' spAllP_inj (t, a)
theorem spAllP_alts (k:Nat) : (spAllP k).alts = none := rfl
theorem spAllP_res (k:Nat) (t : T) (a : List Stp) : (spAllP k).res [.d (.agg t.enc), .d (.one (.row 3 (encS a)))] = [.own 1 (encSX (allT t a))] := Spec.of_res spAllP_inj (t, a)
theorem spAllP_out (k:Nat) (t : T) (a : List Stp) : (spAllP k).out [.d (.agg t.enc), .d (.one (.row 3 (encS a)))] = [.gone, .gone] := Spec.of_out spAllP_inj (t, a)
theorem spAllP_all (k:Nat) (t : T) (a : List Stp) (F : List AV -> List AV -> Prop) : (spAllP k).all [.d (.agg t.enc), .d (.one (.row 3 (encS a)))] F = F [.own 1 (encSX (allT t a))] [.gone, .gone] := by rw [Spec.all_fn rfl, spAllP_res, spAllP_out]
theorem spAllP_ne (k:Nat) (t : T) (a : List Stp) : (spAllP k).ne [.d (.agg t.enc), .d (.one (.row 3 (encS a)))] = True := Spec.ne_fn rfl _
set_option maxHeartbeats 2000000 in
theorem l3All_sound (k : Nat) (hS : Sound Tryd.prog 115 (spAllP k)) : Sound Tryd.prog 115 (spAllP (k + 1)) := by
 refine sound_fam (GOK.cons call_l3All hS GOK.nil) Tryd.func115 (c := Tryd.f115.body.getD .skip) rfl (n := 45) rfl chk_l3All rs_l3All (fun _ => by simp) ?_ ?_
 ·exact spAllP_inj
 ·rintro ⟨t, a⟩ ⟨⟨h1, h2, h3, h5⟩, h4⟩
  obtain ⟨kk, n, s, ks, l⟩ := t
  simp only [T.fit, lenB, strsFit] at h1
  obtain ⟨_, _, f1, ⟨f2, _⟩, f3, f4⟩ := h1
  obtain ⟨g1, g2⟩ := h2
  have e3 : SizeOf.sizeOf l < k := by have e : SizeOf.sizeOf (T.mk kk n s ks l) < k + 1 := h4
                                      rw [T.mk.sizeOf_spec] at e; omega
  have hsz : sizeT (T.mk kk n s ks l) = 1 + sizeL l := rfl
  have hpos := allLs_len 0 [] l 0 []
  replace h3 : 1 + sizeL l <= 100 := h3
  replace h5 : (a.length : Int) + (1 + sizeL l) <= 300 := h5
  simp only [x_l3All, T.enc, go_sem, seval, Prod.fst, rg, strs_len, encL_len, encS_len]
  repeat' (first | with_reducible assumption | with_reducible refine And.intro ?_ ?_ | intro _)
  all_goals first | omega | skip
  refine pw_loop (ι := Nat) (fun i => l.length - i) (fun i => i <= l.length)
   (fun i => ⟨[(1, .q (.c (.row 3 (encS a)))), (2, .q (.box 2 0)), (5, .q (.own 11)), (6, .q (.c (.int .i64 i)))], [(2, [.c (.int .i64 kk), .c (.int .i64 n), .c (.str s), .c (.row 1 (strs ks)), .c (.row 5 (encL l))])],
    [(11, 1, encSX (a :: allLs kk ks (l.take i) 0 a))]⟩) 0 (Nat.zero_le _) ?_ ?_
  ·exact Le.sub (by simp) (by simp) (by simp [allLs, encSX])
  ·intro i hi
   rcases Nat.lt_or_ge i l.length with hlt | hge
   ·obtain ⟨t, ht, _, hmem⟩ := drop_at hlt
    have a1 := encL_at ht
    have a2 : ((i : Int) < (l.length : Int)) = True := by simp; omega
    have a3 := fitL_mem f4 t hmem
    have a4 := size_mem hmem
    have a6 := T.enc_len t
    have a8 := sizeL_mem hmem
    have a9 := keyed_mem g2 t hmem
    have c1 := allLs_len kk ks (l.take i) 0 a
    have c2 := allT_len t (a ++ [stepAt kk ks i])
    have c3 := allLs_len kk ks (l.take (i + 1)) 0 a
    have c4 : sizeL (l.take (i + 1)) <= sizeL l := sizeL_takeP
    rw [allLs_take ht, List.length_append] at c3
    have c5 := sizeT_pos t
    by_cases hk : kk = 6
    ·have b1 : (kk = 6) = True := eq_true hk
     have hlk : i < ks.length := by rw [g1 hk]; exact hlt
     have a5 := strs_at (l := ks) (i := i) (s := ks[i]) (by simp [hlk])
     have hst : stepAt kk ks i = ⟨true, ks[i], 0⟩ := by simp [stepAt, hk, hlk]
     rw [hst] at c2 c3
     simp only [go_sem, seval, Prod.fst, rg, a1, a2, a5, a6, b1, encL_len, foldS, dtR_encS, spAllP_md, spAllP_pre, spAllP_alts, spAllP_res, spAllP_out, spAllP_md, spAllP_pre, spAllP_ne, ↓spAllP_all, spAllP_all, encSX_len, List.length_append, List.length_cons, List.length_nil]
     repeat' (first | with_reducible assumption | with_reducible refine And.intro ?_ ?_ | intro _)
     all_goals first | omega | assumption | skip
     all_goals first | (have := hlt; omega) | skip
     refine ⟨i + 1, by omega, by omega, ?_⟩
     rw [allLs_take ht, hst]
     exact Le.sub (by simp) (by simp) (by simp [encSX])
    ·have b1 : (kk = 6) = False := eq_false hk
     have hst : stepAt kk ks i = ⟨false, ⟨#[]⟩, i⟩ := by simp [stepAt, hk]
     rw [hst] at c2 c3
     simp only [go_sem, seval, Prod.fst, rg, a1, a2, a6, b1, encL_len, foldS, dtR_encS, spAllP_md, spAllP_pre, spAllP_alts, spAllP_res, spAllP_out, spAllP_md, spAllP_pre, spAllP_ne, ↓spAllP_all, spAllP_all, encSX_len, List.length_append, List.length_cons, List.length_nil]
     repeat' (first | with_reducible assumption | with_reducible refine And.intro ?_ ?_ | intro _)
     all_goals first | omega | assumption | skip
     refine ⟨i + 1, by omega, by omega, ?_⟩
     rw [allLs_take ht, hst]
     exact Le.sub (by simp) (by simp) (by simp [encSX])
   ·have a2 : ((i : Int) < (l.length : Int)) = False := by simp; omega
    simp only [go_sem, seval, Prod.fst, rg, a2, List.take_of_length_le hge]
    simp [allT]
theorem l3All_all (k : Nat) : Sound Tryd.prog 115 (spAllP k) := by
 induction k with
 | zero => exact Sound.none
 | succ k ih => exact l3All_sound k ih
noncomputable def spAllPT  : Spec := Spec.of (ι := T × (List Stp)) [false, false] (fun i => [.d (.agg i.1.enc), .d (.one (.row 3 (encS i.2)))]) (fun i => i.1.fit 2000000 /\ i.1.keyed /\ sizeT i.1 <= 100 /\ (i.2.length : Int) + sizeT i.1 <= 300) (fun i => [.own 1 (encSX (allT i.1 i.2))]) (fun _ => [.gone, .gone])
theorem spAllPT_inj : ∀ i j : T × (List Stp), (fun (i : T × (List Stp)) => ([.d (.agg i.1.enc), .d (.one (.row 3 (encS i.2)))] : List AV)) i = (fun (i : T × (List Stp)) => ([.d (.agg i.1.enc), .d (.one (.row 3 (encS i.2)))] : List AV)) j -> i = j := by
 rintro ⟨t, a⟩ ⟨t', a'⟩ h
 simp only [Prod.mk.injEq]
 simpa [strs_eq, T.enc_eq, encL_eq, F.enc_eq, encF_eq, Tk.enc_eq, encTk_eq, Gn.enc_eq, ints_eq, encS_eq] using h
theorem spAllPT_md  : (spAllPT).md = [false, false] := rfl
theorem spAllPT_pre  (t : T) (a : List Stp) : (spAllPT).pre [.d (.agg t.enc), .d (.one (.row 3 (encS a)))] = (t.fit 2000000 /\ t.keyed /\ sizeT t <= 100 /\ (a.length : Int) + sizeT t <= 300) := Spec.of_pre' spAllPT_inj (t, a)
theorem spAllPT_alts  : (spAllPT).alts = none := rfl
theorem spAllPT_res  (t : T) (a : List Stp) : (spAllPT).res [.d (.agg t.enc), .d (.one (.row 3 (encS a)))] = [.own 1 (encSX (allT t a))] := Spec.of_res spAllPT_inj (t, a)
theorem spAllPT_out  (t : T) (a : List Stp) : (spAllPT).out [.d (.agg t.enc), .d (.one (.row 3 (encS a)))] = [.gone, .gone] := Spec.of_out spAllPT_inj (t, a)
theorem l3AllT_sound : Sound Tryd.prog 115 spAllPT := Sound.all (μ := fun i => SizeOf.sizeOf i.1) l3All_all
end Go.Proofs.Pw
namespace Go.Proofs.Pw
variable [Globs]
mutual
theorem form_keyed : ∀ (t : T) (d : Int), formT t d -> t.keyed
 | .mk k n s ks l, d, h => by
   simp only [formT] at h
   obtain ⟨_, _, _, _, _, _, _, _, _, _, h11, h12⟩ := h
   exact ⟨fun hk => (h11 hk).1, formL_keyed l (d - 1) h12⟩
theorem formL_keyed : ∀ (l : List T) (d : Int), formL l d -> keyedL l
 | [], _, _ => trivial
 | t :: l, d, h => by
   simp only [formL] at h
   exact ⟨form_keyed t d h.1, formL_keyed l d h.2⟩
end
noncomputable def waysT (t : T) : List (List Stp) := if okT t then allT t [] else []
theorem foldN : C.row 3 [] = C.row 3 (encS []) := rfl
def x_PathAll : X := (.seq (.reg [⟨some 1, none, .box (.t 0) (some 5)⟩, ⟨some 2, none, .mv (.k (.z 1))⟩] none [1]) (.seq (.seq (.reg [⟨some 3, none, .load (.t 1) (some 5)⟩, ⟨some 4, none, .call 10 [(.t 3)]⟩, ⟨some 5, none, .not (.t 4)⟩] none [1, 5]) (.cond (.t 5) (.seq (.reg [⟨some 6, none, .bsl 1 []⟩, ⟨some 2, none, .mv (.t 6)⟩] none [2]) .ret) .skip)) (.seq (.reg [⟨some 7, none, .load (.t 1) (some 5)⟩, ⟨some 8, none, .callx 115 [(.t 7), (.k (.z 3))]⟩, ⟨some 2, none, .mv (.t 8)⟩] none [2]) .ret)))
theorem chk_PathAll : chkX Tryd.prog 9 (Tryd.f100.body.getD .skip) x_PathAll = true := by kernel_rfl
theorem rs_PathAll : okRs Tryd.prog Tryd.f100.results.toList [.tmp 2] = true := by kernel_rfl
theorem call_PathAll : okCallee Tryd.prog 100 = true := by kernel_rfl
noncomputable def spPathAll  : Spec := Spec.of (ι := T) [false] (fun i => [.d (.agg i.enc)]) (fun i => i.fit 2000000 /\ sizeT i <= 1048577) (fun i => [.own 1 (encSX (waysT i))]) (fun _ => [.gone])
theorem spPathAll_inj : ∀ i j : T, (fun (i : T) => ([.d (.agg i.enc)] : List AV)) i = (fun (i : T) => ([.d (.agg i.enc)] : List AV)) j -> i = j := by
 intro t t' h
 simpa [strs_eq, T.enc_eq, encL_eq, F.enc_eq, encF_eq, Tk.enc_eq, encTk_eq, Gn.enc_eq, ints_eq] using h
theorem spPathAll_md  : (spPathAll).md = [false] := rfl
theorem spPathAll_pre  (t : T) : (spPathAll).pre [.d (.agg t.enc)] = (t.fit 2000000 /\ sizeT t <= 1048577) := Spec.of_pre' spPathAll_inj t
theorem spPathAll_alts  : (spPathAll).alts = none := rfl
theorem spPathAll_res  (t : T) : (spPathAll).res [.d (.agg t.enc)] = [.own 1 (encSX (waysT t))] := Spec.of_res spPathAll_inj t
theorem spPathAll_out  (t : T) : (spPathAll).out [.d (.agg t.enc)] = [.gone] := Spec.of_out spPathAll_inj t
set_option maxHeartbeats 2000000 in
theorem PathAll_sound : Sound Tryd.prog 100 spPathAll := by
 refine sound_fam (GOK.cons (l := [(115, spAllPT)]) call_ValOk sOkT_sound (GOK.cons call_l3All l3AllT_sound GOK.nil)) Tryd.func100 (c := Tryd.f100.body.getD .skip) rfl (n := 9) rfl chk_PathAll rs_PathAll (fun _ => by simp) ?_ ?_
 ·exact spPathAll_inj
 ·rintro t ⟨h1, h2⟩
  have a6 := T.enc_len t
  by_cases hk : okT t
  ·have b1 : okT t = True := eq_true hk
   have k1 := okT_size hk
   have k2 := form_keyed t 6 hk.1
   simp only [x_PathAll, go_sem, seval, Prod.fst, rg, a6, b1, foldN, spOkT_md, spOkT_pre, spOkT_alts, spOkT_res, spOkT_out, spAllPT_md, spAllPT_pre, spAllPT_alts, spAllPT_res, spAllPT_out]
   exact ⟨⟨T.fit_mono (by omega) h1, h2⟩, fun _ => ⟨⟨h1, k2, by omega, by omega⟩, fun _ => by simp [waysT, hk]⟩⟩
  ·have b1 : okT t = False := eq_false hk
   simp only [x_PathAll, go_sem, seval, Prod.fst, rg, a6, b1, foldN, spOkT_md, spOkT_pre, spOkT_alts, spOkT_res, spOkT_out, spAllPT_md, spAllPT_pre, spAllPT_alts, spAllPT_res, spAllPT_out]
   exact ⟨⟨T.fit_mono (by omega) h1, h2⟩, fun _ => by simp [waysT, hk, encSX]⟩
end Go.Proofs.Pw
namespace Go.Proofs.Pw
variable [Globs]
mutual
theorem allT_dr : ∀ (t : T) (a : List Stp) (m : Int), drP m a -> t.fit 60 -> sizeT t <= 60 -> ∀ w ∈ allT t a, drP (m + sizeT t - 1) w
 | .mk k n s ks l, a, m, ha, hf, hz, w, hw => by
   have h0 := sizeL_nn l
   simp only [sizeT] at hz ⊢
   simp only [allT, List.mem_cons] at hw
   rcases hw with rfl | hw
   ·exact ha.mono (by omega)
   ·exact (allLs_dr k ks l 0 a m ha hf.2.2.2.2.2 (fun s hs => hf.2.2.2.1.2 s hs) (by omega) w hw).mono (by omega)
theorem allLs_dr (k : Int) (ks : List ByteArray) : ∀ (l : List T) (i : Nat) (a : List Stp) (m : Int), drP m a -> fitL 60 l -> (∀ s ∈ ks, (s.size : Int) <= 60) -> (i : Int) + sizeL l <= 60 -> ∀ w ∈ allLs k ks l i a, drP (m + sizeL l) w
 | [], i, a, m, ha, hf, hk, hi, w, hw => by simp [allLs] at hw
 | t :: l, i, a, m, ha, hf, hk, hi, w, hw => by
   have h0 := sizeL_nn l
   have h1 := sizeT_pos t
   simp only [sizeL] at hi ⊢
   simp only [allLs, List.mem_append] at hw
   rcases hw with hw | hw
   ·have hs : ((stepAt k ks i).key.size : Int) <= 60 /\ -100 <= (stepAt k ks i).at' /\ (stepAt k ks i).at' <= 100 := by
     unfold stepAt; split
     ·refine ⟨?_, by simp, by simp⟩
      rw [List.getD_eq_getElem?_getD]
      cases hg : ks[i]? with
      | none => decide
      | some x => exact hk x (List.mem_of_getElem? hg)
     ·exact ⟨(by decide : (((⟨#[]⟩ : ByteArray).size : Nat) : Int) <= 60), by show -100 <= (i : Int); omega, by show (i : Int) <= 100; omega⟩
    exact (allT_dr t (a ++ [stepAt k ks i]) (m + 1) (ha.snoc hs.1 hs.2.1 hs.2.2) hf.1 (by omega) w hw).mono (by omega)
   ·exact (allLs_dr k ks l (i + 1) a m ha hf.2 hk (by push_cast; omega) w hw).mono (by omega)
end
theorem waysT_dr {v : T} {w : List Stp} (h : w ∈ waysT v) : drP 60 w := by
 unfold waysT at h; split at h
 ·rename_i hv
  have hz := okT_size hv
  exact (allT_dr v [] 0 drP_nil (okT_fit hv) hz w h).mono (by omega)
 ·cases h
theorem waysT_len (v : T) : ((waysT v).length : Int) <= 60 := by
 unfold waysT; split
 ·rename_i hv; rw [allT_len]; exact okT_size hv
 ·simp
theorem strs2 (a b : ByteArray) : C.row 1 [[C.str a], [C.str b]] = C.row 1 (strs [a, b]) := rfl
theorem ints4 (a b c d : Int) : C.row 1 [[C.int .i64 a], [C.int .i64 b], [C.int .i64 c], [C.int .i64 d]] = C.row 1 (ints .i64 [a, b, c, d]) := rfl
theorem ints2 (a b : Int) : C.row 1 [[C.int .i64 a], [C.int .i64 b]] = C.row 1 (ints .i64 [a, b]) := rfl
def x_l3Path : X := (.seq (.reg [⟨some 3, none, .box (.t 1) (some 5)⟩, ⟨some 4, none, .mv (.k (.z 3))⟩] none [0, 3]) (.seq (.reg [⟨some 9, none, .load (.t 3) (some 5)⟩, ⟨some 10, none, .callx 100 [(.t 9)]⟩, ⟨some 5, none, .mv (.t 10)⟩] none [0, 5]) (.seq (.seq (.reg [⟨some 11, none, .mv (.t 5)⟩, ⟨some 12, none, .len (.t 11) false⟩, ⟨some 13, none, .bin false .gtr (.t 12) (.k (.c (.int .i64 0)))⟩, ⟨some 14, none, .mv (.t 13)⟩, ⟨some 15, some (14, true), .mv (.t 0)⟩, ⟨some 16, some (14, true), .callr 48 [(.t 15), (.k (.c (.int .i64 3)))]⟩, ⟨some 17, some (14, true), .bin false .gtr (.t 16) (.k (.c (.int .i64 0)))⟩, ⟨some 18, none, .pick (.t 14) (.t 17) (.k (.c (.bool false)))⟩] none [0, 5, 18]) (.cond (.t 18) (.seq (.reg [⟨some 19, none, .mv (.t 5)⟩, ⟨some 20, none, .mv (.t 0)⟩, ⟨some 21, none, .mv (.t 5)⟩, ⟨some 22, none, .len (.t 21) false⟩, ⟨some 23, none, .callr 48 [(.t 20), (.t 22)]⟩, ⟨some 24, none, .ia (.t 19) (.t 23) 1⟩, ⟨some 25, none, .ldx (.t 24)⟩, ⟨some 6, none, .mv (.t 25)⟩] none [0, 6]) (.seq (.seq (.reg [⟨some 26, none, .mv (.t 0)⟩, ⟨some 27, none, .callr 48 [(.t 26), (.k (.c (.int .i64 3)))]⟩, ⟨some 28, none, .bin false .eql (.t 27) (.k (.c (.int .i64 0)))⟩, ⟨some 29, none, .mv (.t 28)⟩, ⟨some 30, some (29, true), .mv (.t 6)⟩, ⟨some 31, some (29, true), .len (.t 30) false⟩, ⟨some 32, some (29, true), .bin false .lss (.t 31) (.k (.c (.int .i64 6)))⟩, ⟨some 33, none, .pick (.t 29) (.t 32) (.k (.c (.bool false)))⟩] none [0, 6, 33]) (.cond (.t 33) (.reg [⟨some 34, none, .mv (.t 6)⟩, ⟨some 35, none, .mv (.t 0)⟩, ⟨some 36, none, .bsl 1 [((.k (.c (.str ⟨#[97]⟩))), none), ((.k (.c (.str ⟨#[122]⟩))), none)]⟩, ⟨some 37, none, .callr 49 [(.t 35), (.t 36)]⟩, ⟨some 38, none, .build [(.c (.bool false)), (.c (.str ⟨#[]⟩)), (.c (.int .i64 0))] [(0, (.k (.c (.bool true))), none), (1, (.t 37), none)]⟩, ⟨some 39, none, .bsl 3 [((.t 38), (some 3))]⟩, ⟨some 40, none, .app (.t 34) (.t 39) 3 32 []⟩, ⟨some 6, none, .mv (.t 40)⟩] none [6]) .skip)) (.seq (.reg [⟨some 41, none, .mv (.t 6)⟩, ⟨some 4, none, .mv (.t 41)⟩] none [4]) .ret))) .skip)) (.seq (.reg [⟨some 42, none, .bsl 3 []⟩, ⟨some 7, none, .mv (.t 42)⟩] none [0, 7]) (.seq (.seq (.reg [⟨some 43, none, .mv (.t 0)⟩, ⟨some 44, none, .callr 48 [(.t 43), (.k (.c (.int .i64 4)))]⟩, ⟨some 8, none, .mv (.t 44)⟩] none [0, 7, 8]) (.block 0 (.loop (.seq (.seq (.reg [⟨some 45, none, .mv (.t 8)⟩, ⟨some 46, none, .bin false .gtr (.t 45) (.k (.c (.int .i64 0)))⟩] none [0, 7, 8, 46]) (.cond (.t 46) .skip (.exit 0))) (.seq (.block 1 (.seq (.reg [⟨some 49, none, .mv (.t 0)⟩, ⟨some 50, none, .callr 48 [(.t 49), (.k (.c (.int .i64 2)))]⟩, ⟨some 51, none, .bin false .eql (.t 50) (.k (.c (.int .i64 0)))⟩] none [0, 7, 8, 51]) (.cond (.t 51) (.reg [⟨some 52, none, .mv (.t 7)⟩, ⟨some 53, none, .mv (.t 0)⟩, ⟨some 54, none, .bsl 1 [((.k (.c (.str ⟨#[97]⟩))), none), ((.k (.c (.str ⟨#[98]⟩))), none), ((.k (.c (.str ⟨#[99]⟩))), none), ((.k (.c (.str ⟨#[100]⟩))), none)]⟩, ⟨some 55, none, .callr 49 [(.t 53), (.t 54)]⟩, ⟨some 56, none, .build [(.c (.bool false)), (.c (.str ⟨#[]⟩)), (.c (.int .i64 0))] [(0, (.k (.c (.bool true))), none), (1, (.t 55), none)]⟩, ⟨some 57, none, .bsl 3 [((.t 56), (some 3))]⟩, ⟨some 58, none, .app (.t 52) (.t 57) 3 32 []⟩, ⟨some 7, none, .mv (.t 58)⟩] none [0, 7, 8]) (.reg [⟨some 59, none, .mv (.t 7)⟩, ⟨some 60, none, .mv (.t 0)⟩, ⟨some 61, none, .bsl 1 [((.k (.c (.int .i64 0))), none), ((.k (.c (.int .i64 1))), none), ((.k (.c (.int .i64 (-1)))), none), ((.k (.c (.int .i64 2))), none)]⟩, ⟨some 62, none, .callr 67 [(.t 60), (.t 61)]⟩, ⟨some 63, none, .build [(.c (.bool false)), (.c (.str ⟨#[]⟩)), (.c (.int .i64 0))] [(2, (.t 62), none)]⟩, ⟨some 64, none, .bsl 3 [((.t 63), (some 3))]⟩, ⟨some 65, none, .app (.t 59) (.t 64) 3 32 []⟩, ⟨some 7, none, .mv (.t 65)⟩] none [0, 7, 8])))) (.reg [⟨some 47, none, .mv (.t 8)⟩, ⟨some 48, none, .bin false .sub (.t 47) (.k (.c (.int .i64 1)))⟩, ⟨some 8, none, .mv (.t 48)⟩] none [0, 7, 8])))))) (.seq (.reg [⟨some 66, none, .mv (.t 7)⟩, ⟨some 4, none, .mv (.t 66)⟩] none [4]) .ret))))))
theorem chk_l3Path : chkX Tryd.prog 67 (Tryd.f84.body.getD .skip) x_l3Path = true := by kernel_rfl
theorem rs_l3Path : okRs Tryd.prog Tryd.f84.results.toList [.tmp 4] = true := by kernel_rfl
theorem call_l3Path : okCallee Tryd.prog 84 = true := by kernel_rfl
def spPath  : Spec := Spec.ofR (ι := (List Int) × Int × T) (κ := (List Stp) × Int) [true, false] (fun i => [.ref (rdC i.1 i.2.1), .d (.agg i.2.2.enc)]) (fun i => byt i.1 /\ 0 <= i.2.1 /\ i.2.1 + 20 <= 1099511627776 /\ i.2.2.fit 2000000 /\ sizeT i.2.2 <= 1048577) (fun i k => drP 61 k.1 /\ i.2.1 <= k.2 /\ k.2 <= i.2.1 + 20) (fun i k => [.own 3 (encS k.1)]) (fun i k => [.ref (rdC i.1 k.2), .gone])
theorem spPath_inj : ∀ i j : (List Int) × Int × T, (fun (i : (List Int) × Int × T) => ([.ref (rdC i.1 i.2.1), .d (.agg i.2.2.enc)] : List AV)) i = (fun (i : (List Int) × Int × T) => ([.ref (rdC i.1 i.2.1), .d (.agg i.2.2.enc)] : List AV)) j -> i = j := by
 rintro ⟨bs, p, v⟩ ⟨bs', p', v'⟩ h
 simp only [Prod.mk.injEq]
 simpa [strs_eq, T.enc_eq, encL_eq, F.enc_eq, encF_eq, Tk.enc_eq, encTk_eq, Gn.enc_eq, ints_eq, rdC_eq, and_assoc, encS_eq] using h
theorem spPath_md  : (spPath).md = [true, false] := rfl
theorem spPath_pre  (bs : List Int) (p : Int) (v : T) : (spPath).pre [.ref (rdC bs p), .d (.agg v.enc)] = (byt bs /\ 0 <= p /\ p + 20 <= 1099511627776 /\ v.fit 2000000 /\ sizeT v <= 1048577) := Spec.ofR_pre spPath_inj (bs, p, v)
theorem spPath_ne0  (bs : List Int) (p : Int) (v : T) : (spPath).ne [.ref (rdC bs p), .d (.agg v.enc)] = (∃ k : (List Stp) × Int, drP 61 k.1 /\ p <= k.2 /\ k.2 <= p + 20) := Spec.ofR_ne spPath_inj (bs, p, v)
theorem spPath_all  (bs : List Int) (p : Int) (v : T) (F : List AV -> List AV -> Prop) : (spPath).all [.ref (rdC bs p), .d (.agg v.enc)] F = (∀ (w : List Stp) (q : Int), (drP 61 w /\ p <= q /\ q <= p + 20) -> F [.own 3 (encS w)] [.ref (rdC bs q), .gone]) := by
 refine (Spec.ofR_all spPath_inj (bs, p, v) F).trans (propext ⟨fun h w q hr => h (w, q) hr, fun h k hr => ?_⟩)
 exact h k.1 k.2 hr
theorem spPath_ne (bs : List Int) (p : Int) (v : T) : spPath.ne [.ref (rdC bs p), .d (.agg v.enc)] = True := by
 rw [spPath_ne0]
 exact eq_true ⟨([], p), drP_nil.mono (by omega), Int.le_refl _, by show p <= p + 20; omega⟩
set_option maxHeartbeats 4000000 in
theorem l3Path_sound : Sound Tryd.prog 84 spPath := by
 refine sound_famR (GOK.cons (l := [(49, spDof), (67, spDnum), (100, spPathAll)]) call_pick pick_sound (GOK.cons call_dof dof_sound (GOK.cons call_dnum dnum_sound (GOK.cons call_PathAll PathAll_sound GOK.nil)))) Tryd.func84 (c := Tryd.f84.body.getD .skip) rfl (n := 67) rfl chk_l3Path rs_l3Path (fun _ => by simp) ?_
 ·rintro ⟨bs, p, v⟩ ⟨hb, h1, h2, h3, h4⟩
  change byt bs at hb
  simp only at h1 h2 h3 h4
  have f0 := T.enc_len v
  have wl := waysT_len v
  by_cases c : 0 < (waysT v).length
  ·have c' : (0 < ((waysT v).length : Int)) = True := eq_true (by omega)
   simp only [x_l3Path, rg, go_sem, seval, Prod.fst, f0, c', encSX_len, spPathAll_md, spPathAll_pre, spPathAll_alts, spPathAll_res, spPathAll_out, spPick_md, spPick_pre, spPick_ne, ↓spPick_all, spPick_all, spPick_md, spPick_pre, spPick_ne, ↓spPick_all, spPick_all]
   repeat' (first | with_reducible assumption | with_reducible refine And.intro ?_ ?_ | intro _)
   all_goals first | omega | skip
   ·rename_i m1 hm1 hm2 m hm hm3
    obtain ⟨w, hw, _, hmem⟩ := drop_at (l := waysT v) (i := m.toNat) (by omega)
    have a1 := encSX_at hw
    have dw := waysT_dr hmem
    simp only [rg, go_sem, seval, Prod.fst, a1, strs2, foldS, encS_len, encSX_len, spPick_md, spPick_pre, spPick_ne, ↓spPick_all, spPick_all, spDof_md, spDof_pre, spDof_ne, ↓spDof_all, spDof_all, spPick_md, spPick_pre, spPick_ne, ↓spPick_all, spPick_all]
    repeat' (first | with_reducible assumption | with_reducible refine And.intro ?_ ?_ | intro _)
    all_goals first | omega | skip
    ·rename_i k _ _ s hs _
     have hk : (s.size : Int) <= 60 := by
      simp only [List.mem_cons, List.not_mem_nil, or_false, reduceCtorEq] at hs
      rcases hs with rfl | rfl <;> decide
     exact ⟨(w ++ [⟨true, s, 0⟩], p + 1 + 1 + 1 + 1), ⟨dw.snoc hk (by simp) (by simp), by show p <= p + 1 + 1 + 1 + 1; omega, by show p + 1 + 1 + 1 + 1 <= p + 20; omega⟩, rfl, rfl⟩
    ·exact ⟨(w, p + 1 + 1 + 1), ⟨dw.mono (by omega), by show p <= p + 1 + 1 + 1; omega, by show p + 1 + 1 + 1 <= p + 20; omega⟩, rfl, rfl⟩
   ·rename_i m hm
    refine pw_loop (ι := Nat × Nat × Int × List Stp) (fun i => i.1)
     (fun i => i.1 + i.2.1 <= 3 /\ p + 1 <= i.2.2.1 /\ i.2.2.1 <= p + 2 + i.2.1 * 2 /\ drP i.2.1 i.2.2.2)
     (fun i => ⟨[(0, .q (.box 67 0)), (7, .q (.own 301)), (8, .q (.c (.int .i64 i.1)))],
      [(67, (rdC bs i.2.2.1).map .c), (3, v.enc.map .c)],
      [(10, 1, encSX (waysT v)), (301, 3, encS i.2.2.2)]⟩) (m.toNat, 0, p + 1 + 1, []) ⟨by show m.toNat + 0 <= 3; omega, by show p + 1 <= p + 1 + 1; omega, by show p + 1 + 1 <= p + 2 + ((0 : Nat) : Int) * 2; omega, drP_nil⟩ ?_ ?_
    ·have e : ((m.toNat : Nat) : Int) = m := by omega
     refine Le.own (t := 7) (d := 301) (sz := 3) (by decide) (by simp) (by simp [Q.killO, rdC]) ?_
     simp [e, PV.map, Q.killO, encS]
    ·rintro ⟨i, j, q, w⟩ ⟨g1, g2, g3, g4⟩
     simp only at g1 g2 g3 g4
     have g5 := g4.1
     rcases Nat.eq_zero_or_pos i with h0 | hpos
     ·subst h0
      have b1 : ((0 : Int) < ((0 : Nat) : Int)) = False := eq_false (by omega)
      simp only [rg, go_sem, seval, Prod.fst, b1, encS_len]
      repeat' (first | with_reducible assumption | with_reducible refine And.intro ?_ ?_ | intro _)
      all_goals first | omega | skip
      exact ⟨(w, q), ⟨g4.mono (by omega), by show p <= q; omega, by show q <= p + 20; omega⟩, rfl, rfl⟩
     ·have e1 : ((i - 1 : Nat) : Int) = i - 1 := by omega
      have b1 : ((0 : Int) < (i : Int)) = True := eq_true (by omega)
      simp only [rg, go_sem, seval, Prod.fst, b1, strs4, ints4, foldS, encS_len, spPick_md, spPick_pre, spPick_ne, ↓spPick_all, spPick_all, spDof_md, spDof_pre, spDof_ne, ↓spDof_all, spDof_all, spDnum_md, spDnum_pre, spDnum_ne, ↓spDnum_all, spDnum_all]
      repeat' (first | with_reducible assumption | with_reducible refine And.intro ?_ ?_ | intro _)
      all_goals first | omega | skip
      ·rename_i hs _ _
       have hk : ∀ s : ByteArray, s ∈ [⟨#[97]⟩, ⟨#[98]⟩, ⟨#[99]⟩, ⟨#[100]⟩] \/ False -> (s.size : Int) <= 60 := fun s hs => by
        simp only [List.mem_cons, List.not_mem_nil, or_false, reduceCtorEq] at hs
        rcases hs with rfl | rfl | rfl | rfl <;> decide
       exact ⟨(i - 1, j + 1, q + 1 + 1, w ++ [⟨true, _, 0⟩]), ⟨by show i - 1 + (j + 1) <= 3; omega, by show p + 1 <= q + 1 + 1; omega, by show q + 1 + 1 <= p + 2 + ((j + 1 : Nat) : Int) * 2; omega, (g4.snoc (s := ⟨true, _, 0⟩) (hk _ hs) (by simp) (by simp)).mono (by show (j : Int) + 1 <= ((j + 1 : Nat) : Int); omega)⟩, by show i - 1 < i; omega, Le.of_eq (by simp [e1])⟩
      ·rename_i hs _ _
       have hk : ∀ a : Int, a ∈ [0, 1, -1, 2] \/ False -> -100 <= a /\ a <= 100 := fun a hs => by
        simp only [List.mem_cons, List.not_mem_nil, or_false, reduceCtorEq] at hs
        rcases hs with rfl | rfl | rfl | rfl <;> decide
       exact ⟨(i - 1, j + 1, q + 1 + 1, w ++ [⟨false, ⟨#[]⟩, _⟩]), ⟨by show i - 1 + (j + 1) <= 3; omega, by show p + 1 <= q + 1 + 1; omega, by show q + 1 + 1 <= p + 2 + ((j + 1 : Nat) : Int) * 2; omega, (g4.snoc (s := ⟨false, ⟨#[]⟩, _⟩) (show (((⟨#[]⟩ : ByteArray).size : Nat) : Int) <= 60 by decide) (hk _ hs).1 (hk _ hs).2).mono (by show (j : Int) + 1 <= ((j + 1 : Nat) : Int); omega)⟩, by show i - 1 < i; omega, Le.of_eq (by simp [e1])⟩
  ·have c' : (0 < ((waysT v).length : Int)) = False := eq_false (by omega)
   simp only [x_l3Path, rg, go_sem, seval, Prod.fst, f0, c', encSX_len, spPathAll_md, spPathAll_pre, spPathAll_alts, spPathAll_res, spPathAll_out, spPick_md, spPick_pre, spPick_ne, ↓spPick_all, spPick_all, spPick_md, spPick_pre, spPick_ne, ↓spPick_all, spPick_all]
   repeat' (first | with_reducible assumption | with_reducible refine And.intro ?_ ?_ | intro _)
   all_goals first | omega | skip
   rename_i m hm
   refine pw_loop (ι := Nat × Nat × Int × List Stp) (fun i => i.1)
    (fun i => i.1 + i.2.1 <= 3 /\ p + 1 <= i.2.2.1 /\ i.2.2.1 <= p + 2 + i.2.1 * 2 /\ drP i.2.1 i.2.2.2)
    (fun i => ⟨[(0, .q (.box 67 0)), (7, .q (.own 301)), (8, .q (.c (.int .i64 i.1)))],
     [(67, (rdC bs i.2.2.1).map .c), (3, v.enc.map .c)],
     [(10, 1, encSX (waysT v)), (301, 3, encS i.2.2.2)]⟩) (m.toNat, 0, p + 1, []) ⟨by show m.toNat + 0 <= 3; omega, by show p + 1 <= p + 1; omega, by show p + 1 <= p + 2 + ((0 : Nat) : Int) * 2; omega, drP_nil⟩ ?_ ?_
   ·have e : ((m.toNat : Nat) : Int) = m := by omega
    refine Le.own (t := 7) (d := 301) (sz := 3) (by decide) (by simp) (by simp [Q.killO, rdC]) ?_
    simp [e, PV.map, Q.killO, encS]
   ·rintro ⟨i, j, q, w⟩ ⟨g1, g2, g3, g4⟩
    simp only at g1 g2 g3 g4
    have g5 := g4.1
    rcases Nat.eq_zero_or_pos i with h0 | hpos
    ·subst h0
     have b1 : ((0 : Int) < ((0 : Nat) : Int)) = False := eq_false (by omega)
     simp only [rg, go_sem, seval, Prod.fst, b1, encS_len]
     repeat' (first | with_reducible assumption | with_reducible refine And.intro ?_ ?_ | intro _)
     all_goals first | omega | skip
     exact ⟨(w, q), ⟨g4.mono (by omega), by show p <= q; omega, by show q <= p + 20; omega⟩, rfl, rfl⟩
    ·have e1 : ((i - 1 : Nat) : Int) = i - 1 := by omega
     have b1 : ((0 : Int) < (i : Int)) = True := eq_true (by omega)
     simp only [rg, go_sem, seval, Prod.fst, b1, strs4, ints4, foldS, encS_len, spPick_md, spPick_pre, spPick_ne, ↓spPick_all, spPick_all, spDof_md, spDof_pre, spDof_ne, ↓spDof_all, spDof_all, spDnum_md, spDnum_pre, spDnum_ne, ↓spDnum_all, spDnum_all]
     repeat' (first | with_reducible assumption | with_reducible refine And.intro ?_ ?_ | intro _)
     all_goals first | omega | skip
     ·rename_i hs _ _
      have hk : ∀ s : ByteArray, s ∈ [⟨#[97]⟩, ⟨#[98]⟩, ⟨#[99]⟩, ⟨#[100]⟩] \/ False -> (s.size : Int) <= 60 := fun s hs => by
       simp only [List.mem_cons, List.not_mem_nil, or_false, reduceCtorEq] at hs
       rcases hs with rfl | rfl | rfl | rfl <;> decide
      exact ⟨(i - 1, j + 1, q + 1 + 1, w ++ [⟨true, _, 0⟩]), ⟨by show i - 1 + (j + 1) <= 3; omega, by show p + 1 <= q + 1 + 1; omega, by show q + 1 + 1 <= p + 2 + ((j + 1 : Nat) : Int) * 2; omega, (g4.snoc (s := ⟨true, _, 0⟩) (hk _ hs) (by simp) (by simp)).mono (by show (j : Int) + 1 <= ((j + 1 : Nat) : Int); omega)⟩, by show i - 1 < i; omega, Le.of_eq (by simp [e1])⟩
     ·rename_i hs _ _
      have hk : ∀ a : Int, a ∈ [0, 1, -1, 2] \/ False -> -100 <= a /\ a <= 100 := fun a hs => by
       simp only [List.mem_cons, List.not_mem_nil, or_false, reduceCtorEq] at hs
       rcases hs with rfl | rfl | rfl | rfl <;> decide
      exact ⟨(i - 1, j + 1, q + 1 + 1, w ++ [⟨false, ⟨#[]⟩, _⟩]), ⟨by show i - 1 + (j + 1) <= 3; omega, by show p + 1 <= q + 1 + 1; omega, by show q + 1 + 1 <= p + 2 + ((j + 1 : Nat) : Int) * 2; omega, (g4.snoc (s := ⟨false, ⟨#[]⟩, _⟩) (show (((⟨#[]⟩ : ByteArray).size : Nat) : Int) <= 60 by decide) (hk _ hs).1 (hk _ hs).2).mono (by show (j : Int) + 1 <= ((j + 1 : Nat) : Int); omega)⟩, by show i - 1 < i; omega, Le.of_eq (by simp [e1])⟩
end Go.Proofs.Pw
namespace Go.Proofs.Pw
variable [Globs]
def x_l3Bent : X := (.seq (.reg [⟨some 3, none, .box (.t 1) (some 5)⟩, ⟨some 4, none, .mv (.k (.z 3))⟩] none [0, 3]) (.seq (.reg [⟨some 6, none, .mv (.t 0)⟩, ⟨some 7, none, .load (.t 3) (some 5)⟩, ⟨some 8, none, .callr 84 [(.t 6), (.t 7)]⟩, ⟨some 5, none, .mv (.t 8)⟩] none [0, 5]) (.seq (.seq (.reg [⟨some 9, none, .mv (.t 0)⟩, ⟨some 10, none, .callr 48 [(.t 9), (.k (.c (.int .i64 30)))]⟩] none [0, 5, 10]) (.block 0 (.seq (.reg [⟨some 12, none, .bin false .eql (.t 10) (.k (.c (.int .i64 0)))⟩, ⟨some 11, none, .mv (.t 12)⟩] none [0, 5, 10, 11]) (.cond (.t 11) (.seq (.reg [⟨some 13, none, .mv (.t 5)⟩, ⟨some 14, none, .build [(.c (.bool false)), (.c (.str ⟨#[]⟩)), (.c (.int .i64 0))] [(0, (.k (.c (.bool true))), none), (1, (.k (.c (.str ⟨#[65]⟩))), none)]⟩, ⟨some 15, none, .bsl 3 [((.t 14), (some 3))]⟩, ⟨some 16, none, .app (.t 13) (.t 15) 3 32 []⟩, ⟨some 4, none, .mv (.t 16)⟩] none [4]) .ret) (.seq (.reg [⟨some 18, none, .bin false .eql (.t 10) (.k (.c (.int .i64 1)))⟩, ⟨some 17, none, .mv (.t 18)⟩] none [0, 5, 10, 17]) (.cond (.t 17) (.seq (.reg [⟨some 19, none, .mv (.t 5)⟩, ⟨some 20, none, .mv (.t 0)⟩, ⟨some 21, none, .bsl 1 [((.k (.c (.int .i64 60))), none), ((.k (.c (.int .i64 (-61)))), none)]⟩, ⟨some 22, none, .callr 67 [(.t 20), (.t 21)]⟩, ⟨some 23, none, .build [(.c (.bool false)), (.c (.str ⟨#[]⟩)), (.c (.int .i64 0))] [(2, (.t 22), none)]⟩, ⟨some 24, none, .bsl 3 [((.t 23), (some 3))]⟩, ⟨some 25, none, .app (.t 19) (.t 24) 3 32 []⟩, ⟨some 4, none, .mv (.t 25)⟩] none [4]) .ret) (.seq (.reg [⟨some 27, none, .bin false .eql (.t 10) (.k (.c (.int .i64 2)))⟩, ⟨some 26, none, .mv (.t 27)⟩] none [5, 26]) (.cond (.t 26) (.block 1 (.loop (.seq (.seq (.reg [⟨some 28, none, .mv (.t 5)⟩, ⟨some 29, none, .len (.t 28) false⟩, ⟨some 30, none, .bin false .leq (.t 29) (.k (.c (.int .i64 6)))⟩] none [5, 30]) (.cond (.t 30) .skip (.exit 1))) (.block 2 (.reg [⟨some 31, none, .mv (.t 5)⟩, ⟨some 32, none, .build [(.c (.bool false)), (.c (.str ⟨#[]⟩)), (.c (.int .i64 0))] []⟩, ⟨some 33, none, .bsl 3 [((.t 32), (some 3))]⟩, ⟨some 34, none, .app (.t 31) (.t 33) 3 32 []⟩, ⟨some 5, none, .mv (.t 34)⟩] none [5]))))) .skip)))))))) (.seq (.reg [⟨some 35, none, .mv (.t 5)⟩, ⟨some 4, none, .mv (.t 35)⟩] none [4]) .ret))))
theorem chk_l3Bent : chkX Tryd.prog 36 (Tryd.f60.body.getD .skip) x_l3Bent = true := by kernel_rfl
theorem rs_l3Bent : okRs Tryd.prog Tryd.f60.results.toList [.tmp 4] = true := by kernel_rfl
theorem call_l3Bent : okCallee Tryd.prog 60 = true := by kernel_rfl
def spBentP  : Spec := Spec.ofR (ι := (List Int) × Int × T) (κ := (List Stp) × Int) [true, false] (fun i => [.ref (rdC i.1 i.2.1), .d (.agg i.2.2.enc)]) (fun i => byt i.1 /\ 0 <= i.2.1 /\ i.2.1 + 40 <= 1099511627776 /\ i.2.2.fit 2000000 /\ sizeT i.2.2 <= 1048577) (fun i k => drP 62 k.1 /\ i.2.1 <= k.2 /\ k.2 <= i.2.1 + 30) (fun i k => [.own 3 (encS k.1)]) (fun i k => [.ref (rdC i.1 k.2), .gone])
theorem spBentP_inj : ∀ i j : (List Int) × Int × T, (fun (i : (List Int) × Int × T) => ([.ref (rdC i.1 i.2.1), .d (.agg i.2.2.enc)] : List AV)) i = (fun (i : (List Int) × Int × T) => ([.ref (rdC i.1 i.2.1), .d (.agg i.2.2.enc)] : List AV)) j -> i = j := by
 rintro ⟨bs, p, v⟩ ⟨bs', p', v'⟩ h
 simp only [Prod.mk.injEq]
 simpa [strs_eq, T.enc_eq, encL_eq, F.enc_eq, encF_eq, Tk.enc_eq, encTk_eq, Gn.enc_eq, ints_eq, rdC_eq, and_assoc, encS_eq] using h
theorem spBentP_md  : (spBentP).md = [true, false] := rfl
theorem spBentP_pre  (bs : List Int) (p : Int) (v : T) : (spBentP).pre [.ref (rdC bs p), .d (.agg v.enc)] = (byt bs /\ 0 <= p /\ p + 40 <= 1099511627776 /\ v.fit 2000000 /\ sizeT v <= 1048577) := Spec.ofR_pre spBentP_inj (bs, p, v)
theorem spBentP_ne0  (bs : List Int) (p : Int) (v : T) : (spBentP).ne [.ref (rdC bs p), .d (.agg v.enc)] = (∃ k : (List Stp) × Int, drP 62 k.1 /\ p <= k.2 /\ k.2 <= p + 30) := Spec.ofR_ne spBentP_inj (bs, p, v)
theorem spBentP_all  (bs : List Int) (p : Int) (v : T) (F : List AV -> List AV -> Prop) : (spBentP).all [.ref (rdC bs p), .d (.agg v.enc)] F = (∀ (w : List Stp) (q : Int), (drP 62 w /\ p <= q /\ q <= p + 30) -> F [.own 3 (encS w)] [.ref (rdC bs q), .gone]) := by
 refine (Spec.ofR_all spBentP_inj (bs, p, v) F).trans (propext ⟨fun h w q hr => h (w, q) hr, fun h k hr => ?_⟩)
 exact h k.1 k.2 hr
theorem spBentP_ne (bs : List Int) (p : Int) (v : T) : spBentP.ne [.ref (rdC bs p), .d (.agg v.enc)] = True := by
 rw [spBentP_ne0]
 exact eq_true ⟨([], p), drP_nil.mono (by omega), Int.le_refl _, by show p <= p + 30; omega⟩
set_option maxHeartbeats 4000000 in
theorem l3Bent_sound : Sound Tryd.prog 60 spBentP := by
 refine sound_famR (GOK.cons (l := [(67, spDnum), (84, spPath)]) call_pick pick_sound (GOK.cons call_dnum dnum_sound (GOK.cons call_l3Path l3Path_sound GOK.nil))) Tryd.func60 (c := Tryd.f60.body.getD .skip) rfl (n := 36) rfl chk_l3Bent rs_l3Bent (fun _ => by simp) ?_
 ·rintro ⟨bs, p, v⟩ ⟨hb, h1, h2, h3, h4⟩
  change byt bs at hb
  simp only at h1 h2 h3 h4
  have f0 := T.enc_len v
  simp only [x_l3Bent, rg, go_sem, seval, Prod.fst, f0, ints2, foldS, encS_len, spPick_md, spPick_pre, spPick_ne, ↓spPick_all, spPick_all, spDnum_md, spDnum_pre, spDnum_ne, ↓spDnum_all, spDnum_all, spPath_md, spPath_pre, spPath_ne, ↓spPath_all, spPath_all]
  repeat' (first | with_reducible assumption | with_reducible refine And.intro ?_ ?_ | intro _)
  all_goals first | omega | skip
  ·have := (‹drP _ _ /\ _›).1.1
   omega
  ·rename_i w q hw m _ _ _
   exact ⟨(w ++ [⟨true, ⟨#[65]⟩, 0⟩], q + 1), ⟨hw.1.snoc (show (((⟨#[65]⟩ : ByteArray).size : Nat) : Int) <= 60 by decide) (by simp) (by simp), by show p <= q + 1; omega, by show q + 1 <= p + 30; omega⟩, rfl, rfl⟩
  ·have := (‹drP _ _ /\ _›).1.1
   omega
  ·rename_i w q hw m _ _ _ a ha _
   have hk : -100 <= a /\ a <= 100 := by
    simp only [List.mem_cons, List.not_mem_nil, or_false, reduceCtorEq] at ha
    rcases ha with rfl | rfl <;> decide
   exact ⟨(w ++ [⟨false, ⟨#[]⟩, a⟩], q + 1 + 1), ⟨hw.1.snoc (show (((⟨#[]⟩ : ByteArray).size : Nat) : Int) <= 60 by decide) hk.1 hk.2, by show p <= q + 1 + 1; omega, by show q + 1 + 1 <= p + 30; omega⟩, rfl, rfl⟩
  ·rename_i w q hw m _ _ _ _
   refine pw_loop (ι := List Stp) (fun i => 7 - i.length) (fun i => drP 62 i)
    (fun i => ⟨[(5, .q (.own 8))], [(36, (rdC bs (q + 1)).map .c), (3, v.enc.map .c)], [(8, 3, encS i)]⟩) w (hw.1.mono (by omega)) (Le.sub (by simp) (by simp) (by simp)) ?_
   intro i hi
   by_cases c : (i.length : Int) <= 6
   ·have c' := eq_true c
    have sn := (drP.snoc (m := 6) (s := ⟨false, ⟨#[]⟩, 0⟩) ⟨c, hi.2⟩ (show (((⟨#[]⟩ : ByteArray).size : Nat) : Int) <= 60 by decide) (by simp) (by simp)).mono (n := 62) (by omega)
    simp only [rg, go_sem, seval, Prod.fst, c', foldS, encS_len]
    repeat' (first | with_reducible assumption | with_reducible refine And.intro ?_ ?_ | intro _)
    all_goals first | omega | skip
    exact ⟨i ++ [⟨false, ⟨#[]⟩, 0⟩], sn, by simp; omega, Le.of_eq rfl⟩
   ·have c' := eq_false c
    simp only [rg, go_sem, seval, Prod.fst, c', encS_len]
    repeat' (first | with_reducible assumption | with_reducible refine And.intro ?_ ?_ | intro _)
    all_goals first | omega | skip
    exact ⟨(i, q + 1), ⟨hi, by show p <= q + 1; omega, by show q + 1 <= p + 30; omega⟩, rfl, rfl⟩
  ·rename_i w q hw m _ _ _ _
   exact ⟨(w, q + 1), ⟨hw.1.mono (by omega), by show p <= q + 1; omega, by show q + 1 <= p + 30; omega⟩, rfl, rfl⟩
end Go.Proofs.Pw
