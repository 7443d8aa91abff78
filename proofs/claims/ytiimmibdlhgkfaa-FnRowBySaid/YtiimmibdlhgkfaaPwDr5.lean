/- What is drawn: rows of trees by keys. -/
import Derived.Test.YtiimmibdlhgkfaaPwDr4
import Derived.Test.YtiimmibdlhgkfaaPwPlBy
set_option linter.unusedSimpArgs false
set_option linter.unusedVariables false
set_option linter.unusedSimpArgs false
set_option maxRecDepth 20000
namespace Go.Proofs.Pw
set_option linter.unusedSectionVars false
variable [Globs]
def x_l2Num : X := (.seq (.reg [⟨some 2, none, .alloc [(.c (.int .i64 0)), (.c (.int .i64 0)), (.c (.str ⟨#[]⟩)), (.z 1), (.z 5)]⟩] none [0, 2]) (.seq (.reg [⟨some 3, none, .mv (.t 0)⟩, ⟨some 4, none, .build [(.c (.int .i64 0)), (.c (.int .i64 0)), (.c (.str ⟨#[]⟩)), (.z 1), (.z 5)] [(0, (.k (.c (.int .i64 3))), none), (1, (.t 3), none)]⟩, ⟨none, none, .st (.t 2) (.t 4) (some 5)⟩] none [2]) .ret))
theorem chk_l2Num : chkX Go.Proofs.Try.prog 5 (Go.Proofs.Try.f83.body.getD .skip) x_l2Num = true := by kernel_rfl
theorem rs_l2Num : okRs Go.Proofs.Try.prog Go.Proofs.Try.f83.results.toList [.cell 2 (some 5)] = true := by kernel_rfl
theorem call_l2Num : okCallee Go.Proofs.Try.prog 83 = true := by kernel_rfl
def x_l2Put : X := (.seq (.reg [⟨some 3, none, .box (.t 0) (some 5)⟩, ⟨some 5, none, .box (.t 2) (some 5)⟩, ⟨some 6, none, .alloc [(.c (.int .i64 0)), (.c (.int .i64 0)), (.c (.str ⟨#[]⟩)), (.z 1), (.z 5)]⟩] none [1, 3, 5, 6]) (.seq (.reg [⟨some 10, none, .build [(.c (.int .i64 0)), (.c (.int .i64 0)), (.c (.str ⟨#[]⟩)), (.z 1), (.z 5)] [(0, (.k (.c (.int .i64 6))), none)]⟩, ⟨some 7, none, .alloc [(.c (.int .i64 0)), (.c (.int .i64 0)), (.c (.str ⟨#[]⟩)), (.z 1), (.z 5)]⟩, ⟨none, none, .st (.t 7) (.t 10) (some 5)⟩] none [1, 3, 5, 6, 7]) (.seq (.reg [⟨some 8, none, .mv (.k (.c (.bool false)))⟩] none [1, 3, 5, 6, 7, 8]) (.seq (.seq (.reg [⟨some 9, none, .mv (.k (.c (.int .i64 0)))⟩] none [1, 3, 5, 6, 7, 8, 9]) (.block 0 (.loop (.seq (.seq (.reg [⟨some 11, none, .mv (.t 9)⟩, ⟨some 12, none, .fa (.t 3) 3⟩, ⟨some 13, none, .load (.t 12) none⟩, ⟨some 14, none, .len (.t 13) false⟩, ⟨some 15, none, .bin false .lss (.t 11) (.t 14)⟩] none [1, 3, 5, 6, 7, 8, 9, 15]) (.cond (.t 15) .skip (.exit 0))) (.seq (.block 1 (.seq (.seq (.reg [⟨some 18, none, .mv (.t 8)⟩, ⟨some 19, none, .not (.t 18)⟩, ⟨some 20, none, .mv (.t 19)⟩, ⟨some 21, some (20, true), .fa (.t 3) 3⟩, ⟨some 22, some (20, true), .load (.t 21) none⟩, ⟨some 23, some (20, true), .mv (.t 9)⟩, ⟨some 24, some (20, true), .ia (.t 22) (.t 23) 1⟩, ⟨some 25, some (20, true), .load (.t 24) none⟩, ⟨some 26, some (20, true), .mv (.t 1)⟩, ⟨some 27, some (20, true), .bin false .geq (.t 25) (.t 26)⟩, ⟨some 28, none, .pick (.t 20) (.t 27) (.k (.c (.bool false)))⟩] none [1, 3, 5, 6, 7, 8, 9, 28]) (.cond (.t 28) (.seq (.reg [⟨some 29, none, .fa (.t 7) 3⟩, ⟨some 30, none, .load (.t 29) none⟩, ⟨some 31, none, .mv (.t 1)⟩, ⟨some 32, none, .bsl 1 [((.t 31), none)]⟩, ⟨some 33, none, .app (.t 30) (.t 32) 1 16 []⟩, ⟨some 34, none, .fa (.t 7) 3⟩, ⟨none, none, .st (.t 34) (.t 33) none⟩] none [1, 3, 5, 6, 7, 9]) (.seq (.reg [⟨some 35, none, .fa (.t 7) 4⟩, ⟨some 36, none, .load (.t 35) none⟩, ⟨some 37, none, .load (.t 5) (some 5)⟩, ⟨some 38, none, .bsl 5 [((.t 37), (some 5))]⟩, ⟨some 39, none, .app (.t 36) (.t 38) 5 80 []⟩, ⟨some 40, none, .fa (.t 7) 4⟩, ⟨none, none, .st (.t 40) (.t 39) none⟩] none [1, 3, 5, 6, 7, 9]) (.reg [⟨some 8, none, .mv (.k (.c (.bool true)))⟩] none [1, 3, 5, 6, 7, 8, 9]))) .skip)) (.seq (.reg [⟨some 41, none, .fa (.t 3) 3⟩, ⟨some 42, none, .load (.t 41) none⟩, ⟨some 43, none, .mv (.t 9)⟩, ⟨some 44, none, .ia (.t 42) (.t 43) 1⟩, ⟨some 45, none, .load (.t 44) none⟩, ⟨some 46, none, .mv (.t 1)⟩, ⟨some 47, none, .bin false .neq (.t 45) (.t 46)⟩] none [1, 3, 5, 6, 7, 8, 9, 47]) (.cond (.t 47) (.seq (.reg [⟨some 48, none, .fa (.t 7) 3⟩, ⟨some 49, none, .load (.t 48) none⟩, ⟨some 50, none, .fa (.t 3) 3⟩, ⟨some 51, none, .load (.t 50) none⟩, ⟨some 52, none, .mv (.t 9)⟩, ⟨some 53, none, .ia (.t 51) (.t 52) 1⟩, ⟨some 54, none, .load (.t 53) none⟩, ⟨some 55, none, .bsl 1 [((.t 54), none)]⟩, ⟨some 56, none, .app (.t 49) (.t 55) 1 16 []⟩, ⟨some 57, none, .fa (.t 7) 3⟩, ⟨none, none, .st (.t 57) (.t 56) none⟩] (some 8) [1, 3, 5, 6, 7, 8, 9]) (.reg [⟨some 58, none, .fa (.t 7) 4⟩, ⟨some 59, none, .load (.t 58) none⟩, ⟨some 60, none, .fa (.t 3) 4⟩, ⟨some 61, none, .load (.t 60) none⟩, ⟨some 62, none, .mv (.t 9)⟩, ⟨some 63, none, .ia (.t 61) (.t 62) 5⟩, ⟨some 64, none, .load (.t 63) (some 5)⟩, ⟨some 65, none, .bsl 5 [((.t 64), (some 5))]⟩, ⟨some 66, none, .app (.t 59) (.t 65) 5 80 []⟩, ⟨some 67, none, .fa (.t 7) 4⟩, ⟨none, none, .st (.t 67) (.t 66) none⟩] (some 8) [1, 3, 5, 6, 7, 8, 9])) .skip)))) (.reg [⟨some 16, none, .mv (.t 9)⟩, ⟨some 17, none, .bin false .add (.t 16) (.k (.c (.int .i64 1)))⟩, ⟨some 9, none, .mv (.t 17)⟩] none [1, 3, 5, 6, 7, 8, 9])))))) (.seq (.seq (.reg [⟨some 68, none, .mv (.t 8)⟩, ⟨some 69, none, .not (.t 68)⟩] none [1, 5, 6, 7, 69]) (.cond (.t 69) (.seq (.reg [⟨some 70, none, .fa (.t 7) 3⟩, ⟨some 71, none, .load (.t 70) none⟩, ⟨some 72, none, .mv (.t 1)⟩, ⟨some 73, none, .bsl 1 [((.t 72), none)]⟩, ⟨some 74, none, .app (.t 71) (.t 73) 1 16 []⟩, ⟨some 75, none, .fa (.t 7) 3⟩, ⟨none, none, .st (.t 75) (.t 74) none⟩] none [5, 6, 7]) (.reg [⟨some 76, none, .fa (.t 7) 4⟩, ⟨some 77, none, .load (.t 76) none⟩, ⟨some 78, none, .load (.t 5) (some 5)⟩, ⟨some 79, none, .bsl 5 [((.t 78), (some 5))]⟩, ⟨some 80, none, .app (.t 77) (.t 79) 5 80 []⟩, ⟨some 81, none, .fa (.t 7) 4⟩, ⟨none, none, .st (.t 81) (.t 80) none⟩] none [6, 7])) .skip)) (.seq (.reg [⟨some 82, none, .load (.t 7) (some 5)⟩, ⟨none, none, .st (.t 6) (.t 82) (some 5)⟩] none [6]) .ret))))))
theorem chk_l2Put : chkX Go.Proofs.Try.prog 83 (Go.Proofs.Try.f82.body.getD .skip) x_l2Put = true := by kernel_rfl
theorem rs_l2Put : okRs Go.Proofs.Try.prog Go.Proofs.Try.f82.results.toList [.cell 6 (some 5)] = true := by kernel_rfl
theorem call_l2Put : okCallee Go.Proofs.Try.prog 82 = true := by kernel_rfl
def x_l2KeyDraw : X := (.seq (.reg [⟨some 2, none, .mv (.k (.c (.str ⟨#[]⟩)))⟩] none [0]) (.seq (.reg [⟨some 3, none, .mv (.t 0)⟩, ⟨some 4, none, .bsl 1 [((.k (.c (.str ⟨#[97]⟩))), none), ((.k (.c (.str ⟨#[98]⟩))), none), ((.k (.c (.str ⟨#[99]⟩))), none), ((.k (.c (.str ⟨#[97]⟩))), none), ((.k (.c (.str ⟨#[98]⟩))), none), ((.k (.c (.str ⟨#[100]⟩))), none), ((.k (.c (.str ⟨#[]⟩))), none), ((.k (.c (.str ⟨#[65]⟩))), none), ((.k (.c (.str ⟨#[122, 122]⟩))), none)]⟩, ⟨some 5, none, .callr 85 [(.t 3), (.t 4)]⟩, ⟨some 2, none, .mv (.t 5)⟩] none [2]) .ret))
theorem chk_l2KeyDraw : chkX Go.Proofs.Try.prog 6 (Go.Proofs.Try.f81.body.getD .skip) x_l2KeyDraw = true := by kernel_rfl
theorem rs_l2KeyDraw : okRs Go.Proofs.Try.prog Go.Proofs.Try.f81.results.toList [.tmp 2] = true := by kernel_rfl
theorem call_l2KeyDraw : okCallee Go.Proofs.Try.prog 81 = true := by kernel_rfl
def x_DrawRowBy : X := (.seq (.reg [⟨some 2, none, .alloc [(.c (.int .i64 0)), (.c (.int .i64 0)), (.c (.str ⟨#[]⟩)), (.z 1), (.z 5)]⟩, ⟨some 3, none, .mv (.k (.c (.str ⟨#[]⟩)))⟩] none [0, 2]) (.seq (.reg [⟨some 8, none, .mv (.t 0)⟩, ⟨some 9, none, .call 51 [(.t 8)]⟩, ⟨some 4, none, .mv (.t 9)⟩] none [2, 4]) (.seq (.seq (.reg [⟨some 10, none, .mv (.t 4)⟩, ⟨some 11, none, .callr 69 [(.t 10), (.k (.c (.int .i64 4)))]⟩, ⟨some 12, none, .bin false .eql (.t 11) (.k (.c (.int .i64 0)))⟩] none [2, 4, 12]) (.cond (.t 12) (.seq (.reg [⟨some 13, none, .mv (.t 4)⟩, ⟨some 14, none, .callr 50 [(.t 13)]⟩, ⟨some 15, none, .mv (.t 4)⟩, ⟨some 16, none, .callr 81 [(.t 15)]⟩, ⟨none, none, .st (.t 2) (.t 14) (some 5)⟩, ⟨some 3, none, .mv (.t 16)⟩] none [2, 3]) .ret) .skip)) (.seq (.reg [⟨some 17, none, .bsl 5 []⟩, ⟨some 5, none, .mv (.t 17)⟩] none [2, 4, 5]) (.seq (.seq (.reg [⟨some 18, none, .mv (.t 4)⟩, ⟨some 19, none, .callr 69 [(.t 18), (.k (.c (.int .i64 5)))]⟩, ⟨some 6, none, .mv (.t 19)⟩] none [2, 4, 5, 6]) (.block 0 (.loop (.seq (.seq (.reg [⟨some 20, none, .mv (.t 6)⟩, ⟨some 21, none, .bin false .gtr (.t 20) (.k (.c (.int .i64 0)))⟩] none [2, 4, 5, 6, 21]) (.cond (.t 21) .skip (.exit 0))) (.seq (.block 1 (.seq (.reg [⟨some 24, none, .build [(.c (.int .i64 0)), (.c (.int .i64 0)), (.c (.str ⟨#[]⟩)), (.z 1), (.z 5)] [(0, (.k (.c (.int .i64 6))), none)]⟩, ⟨some 7, none, .alloc [(.c (.int .i64 0)), (.c (.int .i64 0)), (.c (.str ⟨#[]⟩)), (.z 1), (.z 5)]⟩, ⟨none, none, .st (.t 7) (.t 24) (some 5)⟩] none [2, 4, 5, 6, 7]) (.seq (.mix [⟨some 25, none, .load (.t 7) (some 5)⟩, ⟨some 26, none, .mv (.t 4)⟩, ⟨some 27, none, .callr 69 [(.t 26), (.k (.c (.int .i64 3)))]⟩, ⟨some 28, none, .call 83 [(.t 27)]⟩] [⟨some 29, none, .call 82 [(.t 25), (.k (.c (.str ⟨#[97]⟩))), (.t 28)]⟩, ⟨none, none, .st (.t 7) (.t 29) (some 5)⟩] [[], [], [0], []] [2, 4, 5, 6, 7]) (.seq (.seq (.reg [⟨some 30, none, .mv (.t 4)⟩, ⟨some 31, none, .callr 69 [(.t 30), (.k (.c (.int .i64 2)))]⟩, ⟨some 32, none, .bin false .eql (.t 31) (.k (.c (.int .i64 0)))⟩] none [2, 4, 5, 6, 7, 32]) (.cond (.t 32) (.mix [⟨some 33, none, .load (.t 7) (some 5)⟩, ⟨some 34, none, .mv (.t 4)⟩, ⟨some 35, none, .callr 84 [(.t 34)]⟩] [⟨some 36, none, .call 82 [(.t 33), (.k (.c (.str ⟨#[98]⟩))), (.t 35)]⟩, ⟨none, none, .st (.t 7) (.t 36) (some 5)⟩] [[], [], [0]] [2, 4, 5, 6, 7]) .skip)) (.reg [⟨some 37, none, .mv (.t 5)⟩, ⟨some 38, none, .load (.t 7) (some 5)⟩, ⟨some 39, none, .bsl 5 [((.t 38), (some 5))]⟩, ⟨some 40, none, .app (.t 37) (.t 39) 5 80 []⟩, ⟨some 5, none, .mv (.t 40)⟩] none [2, 4, 5, 6]))))) (.reg [⟨some 22, none, .mv (.t 6)⟩, ⟨some 23, none, .bin false .sub (.t 22) (.k (.c (.int .i64 1)))⟩, ⟨some 6, none, .mv (.t 23)⟩] none [2, 4, 5, 6])))))) (.seq (.reg [⟨some 41, none, .mv (.t 5)⟩, ⟨some 42, none, .call 70 [(.t 41)]⟩, ⟨some 43, none, .mv (.t 4)⟩, ⟨some 44, none, .bsl 1 [((.k (.c (.str ⟨#[97]⟩))), none), ((.k (.c (.str ⟨#[97]⟩))), none), ((.k (.c (.str ⟨#[98]⟩))), none), ((.k (.c (.str ⟨#[99]⟩))), none)]⟩, ⟨some 45, none, .callr 85 [(.t 43), (.t 44)]⟩, ⟨none, none, .st (.t 2) (.t 42) (some 5)⟩, ⟨some 3, none, .mv (.t 45)⟩] none [2, 3]) .ret))))))
theorem chk_DrawRowBy : chkX Go.Proofs.Try.prog 46 (Go.Proofs.Try.f32.body.getD .skip) x_DrawRowBy = true := by kernel_rfl
theorem rs_DrawRowBy : okRs Go.Proofs.Try.prog Go.Proofs.Try.f32.results.toList [.cell 2 (some 5), .tmp 3] = true := by kernel_rfl
theorem call_DrawRowBy : okCallee Go.Proofs.Try.prog 32 = true := by kernel_rfl
noncomputable def spL2Num  : Spec := Spec.of (ι := Int) [false] (fun i => [.d (.one (.int .i64 i))]) (fun _ => True) (fun i => [.d (.agg (T.mk 3 i ⟨#[]⟩ [] []).enc)]) (fun _ => [.gone])
theorem spL2Num_inj : ∀ i j : Int, (fun (i : Int) => ([.d (.one (.int .i64 i))] : List AV)) i = (fun (i : Int) => ([.d (.one (.int .i64 i))] : List AV)) j → i = j := by
  intro n n' h
  simpa [strs_eq, T.enc_eq, encL_eq, F.enc_eq, encF_eq, Tk.enc_eq, encTk_eq, Gn.enc_eq, ints_eq, rdC_eq, and_assoc] using h
theorem spL2Num_md  : (spL2Num).md = [false] := rfl
theorem spL2Num_pre  (n : Int) : (spL2Num).pre [.d (.one (.int .i64 n))] = (True) := Spec.of_pre' spL2Num_inj n
theorem spL2Num_alts  : (spL2Num).alts = none := rfl
theorem spL2Num_res  (n : Int) : (spL2Num).res [.d (.one (.int .i64 n))] = [.d (.agg (T.mk 3 n ⟨#[]⟩ [] []).enc)] := Spec.of_res spL2Num_inj n
theorem spL2Num_out  (n : Int) : (spL2Num).out [.d (.one (.int .i64 n))] = [.gone] := Spec.of_out spL2Num_inj n
theorem spL2Num_all  (n : Int) (F : List AV → List AV → Prop) : (spL2Num).all [.d (.one (.int .i64 n))] F = F [.d (.agg (T.mk 3 n ⟨#[]⟩ [] []).enc)] [.gone] := by rw [Spec.all_fn rfl, spL2Num_res, spL2Num_out]
theorem spL2Num_ne  (n : Int) : (spL2Num).ne [.d (.one (.int .i64 n))] = True := Spec.ne_fn rfl _
theorem l2Num_sound : Sound Go.Proofs.Try.prog 83 spL2Num := by
  refine sound_fam GOK.nil Go.Proofs.Try.func83 (c := Go.Proofs.Try.f83.body.getD .skip) rfl (n := 5) rfl chk_l2Num rs_l2Num (fun _ => by simp) ?_ ?_
  · exact spL2Num_inj
  · intro n _
    simp only [x_l2Num, rg, seval, argsB, PV.toDB, Q.toCB, allCB, callB, flatP, flatC, flatS, List.all_nil, List.all_cons, svL, svP, addR, agQ, agR, pid, nodupN, List.contains_nil, List.contains_cons, finG, gIds, idsR, oneI, agI, gOk, oneOk, ptOk, notIn, List.filter_nil, List.filter_cons, pw_mix, ↓runH, ↓one, ↓effC, effR, Updr.app, putO, updL, St.kil, kilQ, kilP, kilL, invC, opKil, excOf, invT, invB, plT, plA, rcOf, wrU, kilI, memK, PV.ids, disj, pairOk, okPast, setP, invU, outB, PV.pl, Q.pl, plL, plL_map, List.all_nil, List.all_cons, List.getD_cons_zero, Prod.fst, List.nil_append, id_eq, List.map_id, Nat.reduceMul, allCB_map, PV.rowB, BASE, ltB, List.isEmpty_nil, delL, St.delO, or_true, List.mem_singleton, T.enc, strs, encL]
theorem mulB16 {n : Nat} (h : n ≤ 2000002) : n * 16 ≤ 140737488355328 := by omega
theorem mulB80 {n : Nat} (h : n ≤ 2000002) : n * 80 ≤ 140737488355328 := by omega
noncomputable def putT (v : T) (key : ByteArray) (x : T) : T := .mk 6 0 ⟨#[]⟩ (putS key x false v.keys v.list).1 (putS key x false v.keys v.list).2
noncomputable def spL2Put  : Spec := Spec.of (ι := T × ByteArray × T) [false, false, false] (fun i => [.d (.agg i.1.enc), .d (.one (.str i.2.1)), .d (.agg i.2.2.enc)]) (fun i => i.1.fit 140737488355328 ∧ lenB 1000000 i.1.keys.length ∧ i.1.keys.length = i.1.list.length) (fun i => [.d (.agg (putT i.1 i.2.1 i.2.2).enc)]) (fun _ => [.gone, .gone, .gone])
theorem spL2Put_inj : ∀ i j : T × ByteArray × T, (fun (i : T × ByteArray × T) => ([.d (.agg i.1.enc), .d (.one (.str i.2.1)), .d (.agg i.2.2.enc)] : List AV)) i = (fun (i : T × ByteArray × T) => ([.d (.agg i.1.enc), .d (.one (.str i.2.1)), .d (.agg i.2.2.enc)] : List AV)) j → i = j := by
  rintro ⟨v, key, x⟩ ⟨v', key', x'⟩ h
  simp only [Prod.mk.injEq]
  simpa [strs_eq, T.enc_eq, encL_eq, F.enc_eq, encF_eq, Tk.enc_eq, encTk_eq, Gn.enc_eq, ints_eq, rdC_eq, and_assoc] using h
theorem spL2Put_md  : (spL2Put).md = [false, false, false] := rfl
theorem spL2Put_pre  (v : T) (key : ByteArray) (x : T) : (spL2Put).pre [.d (.agg v.enc), .d (.one (.str key)), .d (.agg x.enc)] = (v.fit 140737488355328 ∧ lenB 1000000 v.keys.length ∧ v.keys.length = v.list.length) := Spec.of_pre' spL2Put_inj (v, key, x)
theorem spL2Put_alts  : (spL2Put).alts = none := rfl
theorem spL2Put_res  (v : T) (key : ByteArray) (x : T) : (spL2Put).res [.d (.agg v.enc), .d (.one (.str key)), .d (.agg x.enc)] = [.d (.agg (putT v key x).enc)] := Spec.of_res spL2Put_inj (v, key, x)
theorem spL2Put_out  (v : T) (key : ByteArray) (x : T) : (spL2Put).out [.d (.agg v.enc), .d (.one (.str key)), .d (.agg x.enc)] = [.gone, .gone, .gone] := Spec.of_out spL2Put_inj (v, key, x)
theorem spL2Put_all  (v : T) (key : ByteArray) (x : T) (F : List AV → List AV → Prop) : (spL2Put).all [.d (.agg v.enc), .d (.one (.str key)), .d (.agg x.enc)] F = F [.d (.agg (putT v key x).enc)] [.gone, .gone, .gone] := by rw [Spec.all_fn rfl, spL2Put_res, spL2Put_out]
theorem spL2Put_ne  (v : T) (key : ByteArray) (x : T) : (spL2Put).ne [.d (.agg v.enc), .d (.one (.str key)), .d (.agg x.enc)] = True := Spec.ne_fn rfl _
set_option maxHeartbeats 10000000 in
theorem l2Put_sound : Sound Go.Proofs.Try.prog 82 spL2Put := by
  refine sound_fam GOK.nil Go.Proofs.Try.func82 (c := Go.Proofs.Try.f82.body.getD .skip) rfl (n := 83) rfl chk_l2Put rs_l2Put (fun _ => by simp) ?_ ?_
  · exact spL2Put_inj
  · rintro ⟨v, key, x⟩ ⟨h1, h2, h3⟩
    obtain ⟨k, n, s, ks, l⟩ := v
    have h4 : (ks.length : Int) ≤ 1000000 := h2
    have h5 : ks.length = l.length := h3
    have fx := T.enc_len x
    simp only [x_l2Put, rg, seval, argsB, PV.toDB, Q.toCB, allCB, callB, flatP, flatC, flatS, List.all_nil, List.all_cons, svL, svP, addR, agQ, agR, pid, nodupN, List.contains_nil, List.contains_cons, finG, gIds, idsR, oneI, agI, gOk, oneOk, ptOk, notIn, List.filter_nil, List.filter_cons, pw_mix, ↓runH, ↓one, ↓effC, effR, Updr.app, putO, updL, St.kil, kilQ, kilP, kilL, invC, opKil, excOf, invT, invB, plT, plA, rcOf, wrU, kilI, memK, PV.ids, disj, pairOk, okPast, setP, invU, outB, PV.pl, Q.pl, plL, plL_map, List.all_nil, List.all_cons, List.getD_cons_zero, Prod.fst, List.nil_append, id_eq, List.map_id, Nat.reduceMul, allCB_map, PV.rowB, BASE, ltB, List.isEmpty_nil, delL, St.delO, or_true, List.mem_singleton, T.enc, fx]
    refine pw_loop (ι := Nat × Bool × List ByteArray × List T) (fun i => ks.length - i.1)
      (fun i => i.1 ≤ ks.length ∧ i.2.2.1 ++ (putS key x i.2.1 (ks.drop i.1) (l.drop i.1)).1 = (putS key x false ks l).1 ∧ i.2.2.2 ++ (putS key x i.2.1 (ks.drop i.1) (l.drop i.1)).2 = (putS key x false ks l).2 ∧ i.2.2.1.length ≤ 2 * i.1 ∧ i.2.2.2.length ≤ 2 * i.1)
      (fun i => ⟨[(1, .q (.c (.str key))), (3, .q (.box 3 0)), (5, .q (.box 5 0)), (6, .q (.box 6 0)), (7, .q (.box 7 0)), (8, .q (.c (.bool i.2.1))), (9, .q (.c (.int .i64 i.1)))],
        [(3, [.c (.int .i64 k), .c (.int .i64 n), .c (.str s), .c (.row 1 (strs ks)), .c (.row 5 (encL l))]), (5, x.enc.map .c), (6, [.c (.int .i64 0), .c (.int .i64 0), .c (.str ⟨#[]⟩), .z 1, .z 5]), (7, [.c (.int .i64 6), .c (.int .i64 0), .c (.str ⟨#[]⟩), .own 301, .own 302])],
        [(301, 1, strs i.2.2.1), (302, 5, encL i.2.2.2)]⟩) (0, false, [], []) ⟨by simp, by simp, by simp, by simp, by simp⟩ ?_ ?_
    · refine (Le.ownB (b := 7) (j := 3) (d := 301) (sz := 1) (qs := [.c (.int .i64 6), .c (.int .i64 0), .c (.str ⟨#[]⟩), .z 1, .z 5]) (by decide) (by simp) rfl (by simp [Q.killO]) (by simp [PV.map, Q.killO])).trans
        ((Le.ownB (b := 7) (j := 4) (d := 302) (sz := 5) (qs := [.c (.int .i64 6), .c (.int .i64 0), .c (.str ⟨#[]⟩), .own 301, .z 5]) (by decide) (by simp [upd]) rfl (by simp [upd, del, Q.killO]) (by simp [PV.map, Q.killO])).trans (Le.of_eq (by simp [upd, del, strs, encL])))
    · rintro ⟨i, d, a, b⟩ ⟨g1, g2, g3, g4, g5⟩
      simp only at g1 g2 g3 g4 g5
      rcases Nat.lt_or_ge i ks.length with hlt | hge
      · obtain ⟨y, hy, hd, _⟩ := drop_at hlt
        obtain ⟨t, ht, hd', _⟩ := drop_at (l := l) (i := i) (by omega)
        have b1 : ((i : Int) < (ks.length : Int)) = True := eq_true (by omega)
        have a1 := strs_at hy
        have a2 := encL_at ht
        have f1 := T.enc_len t
        have hi : i < l.length := by omega
        rw [hd, hd'] at g2 g3
        simp only [putS] at g2 g3
        cases d with
        | true =>
          by_cases e : y = key
          · have e' : (y = key) = True := eq_true e
            simp only [rg, seval, argsB, PV.toDB, Q.toCB, allCB, callB, flatP, flatC, flatS, List.all_nil, List.all_cons, svL, svP, addR, agQ, agR, pid, nodupN, List.contains_nil, List.contains_cons, finG, gIds, idsR, oneI, agI, gOk, oneOk, ptOk, notIn, List.filter_nil, List.filter_cons, pw_mix, ↓runH, ↓one, ↓effC, effR, Updr.app, putO, updL, St.kil, kilQ, kilP, kilL, invC, opKil, excOf, invT, invB, plT, plA, rcOf, wrU, kilI, memK, PV.ids, disj, pairOk, okPast, setP, invU, outB, PV.pl, Q.pl, plL, plL_map, List.all_nil, List.all_cons, List.getD_cons_zero, Prod.fst, List.nil_append, id_eq, List.map_id, Nat.reduceMul, allCB_map, PV.rowB, BASE, ltB, List.isEmpty_nil, delL, St.delO, or_true, List.mem_singleton, b1, a1, a2, e', f1, fx, encL_len, encL_appL, encL_one, List.length_append]
            repeat' (first | with_reducible assumption | with_reducible refine And.intro ?_ ?_ | intro _)
            all_goals first | omega | assumption | skip
            refine ⟨(i + 1, true, a, b), ⟨by show i + 1 ≤ _; omega, ?_, ?_, by show a.length ≤ 2 * (i + 1); omega, by show b.length ≤ 2 * (i + 1); omega⟩, by show ks.length - (i + 1) < _; omega, Le.refl _⟩
            · rw [← g2]; simp [e]
            · rw [← g3]; simp [e]
          · have e' : (y = key) = False := eq_false e
            simp only [rg, seval, argsB, PV.toDB, Q.toCB, allCB, callB, flatP, flatC, flatS, List.all_nil, List.all_cons, svL, svP, addR, agQ, agR, pid, nodupN, List.contains_nil, List.contains_cons, finG, gIds, idsR, oneI, agI, gOk, oneOk, ptOk, notIn, List.filter_nil, List.filter_cons, pw_mix, ↓runH, ↓one, ↓effC, effR, Updr.app, putO, updL, St.kil, kilQ, kilP, kilL, invC, opKil, excOf, invT, invB, plT, plA, rcOf, wrU, kilI, memK, PV.ids, disj, pairOk, okPast, setP, invU, outB, PV.pl, Q.pl, plL, plL_map, List.all_nil, List.all_cons, List.getD_cons_zero, Prod.fst, List.nil_append, id_eq, List.map_id, Nat.reduceMul, allCB_map, PV.rowB, BASE, ltB, List.isEmpty_nil, delL, St.delO, or_true, List.mem_singleton, b1, a1, a2, e', f1, fx, encL_len, encL_appL, encL_one, List.length_append]
            repeat' (first | with_reducible assumption | with_reducible refine And.intro ?_ ?_ | intro _)
            all_goals first | omega | assumption | skip
            refine ⟨(i + 1, true, a ++ [y], b ++ [t]), ⟨by show i + 1 ≤ _; omega, ?_, ?_, by show (a ++ [y]).length ≤ 2 * (i + 1); simp; omega, by show (b ++ [t]).length ≤ 2 * (i + 1); simp; omega⟩, by show ks.length - (i + 1) < _; omega, Le.of_eq (by simp [strs])⟩
            · rw [← g2]; simp [e]
            · rw [← g3]; simp [e]
        | false =>
          by_cases c : sl y key
          · have c' : sl y key = True := eq_true c
            have e : ¬ y = key := fun h => by rw [h] at c; exact sl_irrefl _ c
            have e' : (y = key) = False := eq_false e
            simp only [rg, seval, argsB, PV.toDB, Q.toCB, allCB, callB, flatP, flatC, flatS, List.all_nil, List.all_cons, svL, svP, addR, agQ, agR, pid, nodupN, List.contains_nil, List.contains_cons, finG, gIds, idsR, oneI, agI, gOk, oneOk, ptOk, notIn, List.filter_nil, List.filter_cons, pw_mix, ↓runH, ↓one, ↓effC, effR, Updr.app, putO, updL, St.kil, kilQ, kilP, kilL, invC, opKil, excOf, invT, invB, plT, plA, rcOf, wrU, kilI, memK, PV.ids, disj, pairOk, okPast, setP, invU, outB, PV.pl, Q.pl, plL, plL_map, List.all_nil, List.all_cons, List.getD_cons_zero, Prod.fst, List.nil_append, id_eq, List.map_id, Nat.reduceMul, allCB_map, PV.rowB, BASE, ltB, List.isEmpty_nil, delL, St.delO, or_true, List.mem_singleton, b1, a1, a2, c', e', f1, fx, encL_len, encL_appL, encL_one, List.length_append]
            repeat' (first | with_reducible assumption | with_reducible refine And.intro ?_ ?_ | intro _)
            all_goals first | omega | assumption | skip
            refine ⟨(i + 1, false, a ++ [y], b ++ [t]), ⟨by show i + 1 ≤ _; omega, ?_, ?_, by show (a ++ [y]).length ≤ 2 * (i + 1); simp; omega, by show (b ++ [t]).length ≤ 2 * (i + 1); simp; omega⟩, by show ks.length - (i + 1) < _; omega, Le.of_eq (by simp [strs])⟩
            · rw [← g2]; simp [e, c]
            · rw [← g3]; simp [e, c]
          · have c' : sl y key = False := eq_false c
            by_cases e : y = key
            · have e' : (y = key) = True := eq_true e
              simp only [rg, seval, argsB, PV.toDB, Q.toCB, allCB, callB, flatP, flatC, flatS, List.all_nil, List.all_cons, svL, svP, addR, agQ, agR, pid, nodupN, List.contains_nil, List.contains_cons, finG, gIds, idsR, oneI, agI, gOk, oneOk, ptOk, notIn, List.filter_nil, List.filter_cons, pw_mix, ↓runH, ↓one, ↓effC, effR, Updr.app, putO, updL, St.kil, kilQ, kilP, kilL, invC, opKil, excOf, invT, invB, plT, plA, rcOf, wrU, kilI, memK, PV.ids, disj, pairOk, okPast, setP, invU, outB, PV.pl, Q.pl, plL, plL_map, List.all_nil, List.all_cons, List.getD_cons_zero, Prod.fst, List.nil_append, id_eq, List.map_id, Nat.reduceMul, allCB_map, PV.rowB, BASE, ltB, List.isEmpty_nil, delL, St.delO, or_true, List.mem_singleton, b1, a1, a2, c', e', f1, fx, encL_len, encL_appL, encL_one, List.length_append]
              repeat' (first | with_reducible assumption | with_reducible refine And.intro ?_ ?_ | intro _)
              all_goals first | omega | assumption | skip
              refine ⟨(i + 1, true, a ++ [key], b ++ [x]), ⟨by show i + 1 ≤ _; omega, ?_, ?_, by show (a ++ [key]).length ≤ 2 * (i + 1); simp; omega, by show (b ++ [x]).length ≤ 2 * (i + 1); simp; omega⟩, by show ks.length - (i + 1) < _; omega, Le.of_eq (by simp [strs])⟩
              · rw [e] at g2; rw [← g2]; simp [sl_irrefl]
              · rw [e] at g3; rw [← g3]; simp [sl_irrefl]
            · have e' : (y = key) = False := eq_false e
              simp only [rg, seval, argsB, PV.toDB, Q.toCB, allCB, callB, flatP, flatC, flatS, List.all_nil, List.all_cons, svL, svP, addR, agQ, agR, pid, nodupN, List.contains_nil, List.contains_cons, finG, gIds, idsR, oneI, agI, gOk, oneOk, ptOk, notIn, List.filter_nil, List.filter_cons, pw_mix, ↓runH, ↓one, ↓effC, effR, Updr.app, putO, updL, St.kil, kilQ, kilP, kilL, invC, opKil, excOf, invT, invB, plT, plA, rcOf, wrU, kilI, memK, PV.ids, disj, pairOk, okPast, setP, invU, outB, PV.pl, Q.pl, plL, plL_map, List.all_nil, List.all_cons, List.getD_cons_zero, Prod.fst, List.nil_append, id_eq, List.map_id, Nat.reduceMul, allCB_map, PV.rowB, BASE, ltB, List.isEmpty_nil, delL, St.delO, or_true, List.mem_singleton, b1, a1, a2, c', e', f1, fx, encL_len, encL_appL, encL_one, List.length_append]
              have ha : a.length + 1 + 1 ≤ 2000002 := by omega
              have hb : b.length + 1 + 1 ≤ 2000002 := by omega
              clear b1 c' e'
              repeat' (first | with_reducible assumption | with_reducible refine And.intro ?_ ?_ | intro _)
              · omega
              · omega
              · omega
              · exact mulB16 ha
              · omega
              · exact mulB80 hb
              · omega
              · omega
              · refine ⟨(i + 1, true, a ++ [key, y], b ++ [x, t]), ⟨by show i + 1 ≤ _; omega, ?_, ?_, by show (a ++ [key, y]).length ≤ 2 * (i + 1); simp; omega, by show (b ++ [x, t]).length ≤ 2 * (i + 1); simp; omega⟩, by show ks.length - (i + 1) < _; omega, Le.of_eq (by simp [strs, encL_app, encL])⟩
                · rw [← g2]; simp [e, c]
                · rw [← g3]; simp [e, c]
      · obtain rfl : i = ks.length := by omega
        have b1 : ((ks.length : Int) < (ks.length : Int)) = False := eq_false (by omega)
        rw [List.drop_length] at g2 g3
        cases d with
        | true =>
          simp only [putS, if_true, List.append_nil] at g2 g3
          simp only [rg, seval, argsB, PV.toDB, Q.toCB, allCB, callB, flatP, flatC, flatS, List.all_nil, List.all_cons, svL, svP, addR, agQ, agR, pid, nodupN, List.contains_nil, List.contains_cons, finG, gIds, idsR, oneI, agI, gOk, oneOk, ptOk, notIn, List.filter_nil, List.filter_cons, pw_mix, ↓runH, ↓one, ↓effC, effR, Updr.app, putO, updL, St.kil, kilQ, kilP, kilL, invC, opKil, excOf, invT, invB, plT, plA, rcOf, wrU, kilI, memK, PV.ids, disj, pairOk, okPast, setP, invU, outB, PV.pl, Q.pl, plL, plL_map, List.all_nil, List.all_cons, List.getD_cons_zero, Prod.fst, List.nil_append, id_eq, List.map_id, Nat.reduceMul, allCB_map, PV.rowB, BASE, ltB, List.isEmpty_nil, delL, St.delO, or_true, List.mem_singleton, b1, fx, encL_len, encL_appL, encL_one, List.length_append]
          repeat' (first | with_reducible assumption | with_reducible refine And.intro ?_ ?_ | intro _)
          all_goals first | omega | assumption | skip
          all_goals simp [putT, T.keys, T.list, T.enc, g2, g3]
        | false =>
          simp only [putS] at g2 g3
          simp only [rg, seval, argsB, PV.toDB, Q.toCB, allCB, callB, flatP, flatC, flatS, List.all_nil, List.all_cons, svL, svP, addR, agQ, agR, pid, nodupN, List.contains_nil, List.contains_cons, finG, gIds, idsR, oneI, agI, gOk, oneOk, ptOk, notIn, List.filter_nil, List.filter_cons, pw_mix, ↓runH, ↓one, ↓effC, effR, Updr.app, putO, updL, St.kil, kilQ, kilP, kilL, invC, opKil, excOf, invT, invB, plT, plA, rcOf, wrU, kilI, memK, PV.ids, disj, pairOk, okPast, setP, invU, outB, PV.pl, Q.pl, plL, plL_map, List.all_nil, List.all_cons, List.getD_cons_zero, Prod.fst, List.nil_append, id_eq, List.map_id, Nat.reduceMul, allCB_map, PV.rowB, BASE, ltB, List.isEmpty_nil, delL, St.delO, or_true, List.mem_singleton, b1, fx, encL_len, encL_appL, encL_one, List.length_append]
          repeat' (first | with_reducible assumption | with_reducible refine And.intro ?_ ?_ | intro _)
          all_goals first | omega | assumption | skip
          all_goals simp [putT, T.keys, T.list, T.enc, ← g2, ← g3, strs]
theorem putS_eq (key : ByteArray) (x : T) : ∀ (done : Bool) (ks : List ByteArray) (l : List T), ks.length = l.length → (putS key x done ks l).1.length = (putS key x done ks l).2.length
  | done, k :: ks, t :: l, h => by
    have ih := putS_eq key x (done || (!done && !decide (sl k key))) ks l (by simpa using h)
    simp only [putS]
    by_cases d : k = key
    · subst d
      have hs : ¬ sl k k := sl_irrefl k
      cases done <;> simp [hs] at ih ⊢ <;> exact ih
    · by_cases c : sl k key <;> cases done <;> simp [c, d] at ih ⊢ <;> exact ih
  | done, [], [], _ => by cases done <;> simp [putS]
structure goodM (m : Nat) (z : Int) (v : T) : Prop where
  f : v.fit 1000
  e : v.keys.length = v.list.length
  m : v.keys.length ≤ m
  z : sizeT v ≤ z
theorem putT_good {m : Nat} {z w : Int} {v x : T} {key : ByteArray} (h : goodM m z v) (hx : x.fit 1000) (hk : (key.size : Int) ≤ 1000) (hw : sizeT x ≤ w) (hm : m + 1 ≤ 1000) : goodM (m + 1) (z + w) (putT v key x) := by
  obtain ⟨k, n, s, ks, l⟩ := v
  obtain ⟨h1, h2, h3, h4⟩ := h
  simp only [T.keys, T.list] at h2 h3
  have a := putS_len key x false ks l
  have b := putS_mem key x false ks l
  have c := putS_eq key x false ks l h2
  have d := putS_size key x false ks l
  simp only [Bool.false_eq_true, if_false] at a d
  simp only [sizeT] at h4
  refine ⟨⟨by unfold i64; omega, by unfold i64; omega, by unfold lenB; decide, ⟨?_, fun s hs => ?_⟩, ?_, fitL_of fun t ht => ?_⟩, c, ?_, ?_⟩
  · simp only [T.keys, T.list, lenB]; omega
  · rcases b.1 s hs with e | e
    · rw [e]; exact hk
    · exact h1.2.2.2.1.2 s e
  · simp only [T.keys, T.list, lenB]; omega
  · rcases b.2 t ht with e | e
    · rw [e]; exact hx
    · exact fitL_in h1.2.2.2.2.2 t e
  · show (putS key x false ks l).1.length ≤ m + 1; omega
  · show sizeT (T.mk _ _ _ _ _) ≤ _
    simp only [sizeT, T.keys, T.list]; omega
theorem strs9 (a b c d e f g h i : ByteArray) : C.row 1 [[C.str a], [C.str b], [C.str c], [C.str d], [C.str e], [C.str f], [C.str g], [C.str h], [C.str i]] = C.row 1 (strs [a, b, c, d, e, f, g, h, i]) := rfl
def spKeyDraw  : Spec := Spec.ofR (ι := (List Int) × Int) (κ := ByteArray) [true] (fun i => [.ref (rdC i.1 i.2)]) (fun i => byt i.1 ∧ 0 ≤ i.2 ∧ i.2 ≤ 1099511627776) (fun i k => (k.size : Int) ≤ 10) (fun i k => [.d (.one (.str k))]) (fun i k => [.ref (rdC i.1 (i.2 + 1))])
theorem spKeyDraw_inj : ∀ i j : (List Int) × Int, (fun (i : (List Int) × Int) => ([.ref (rdC i.1 i.2)] : List AV)) i = (fun (i : (List Int) × Int) => ([.ref (rdC i.1 i.2)] : List AV)) j → i = j := by
  rintro ⟨bs, p⟩ ⟨bs', p'⟩ h
  simp only [Prod.mk.injEq]
  simpa [strs_eq, T.enc_eq, encL_eq, F.enc_eq, encF_eq, Tk.enc_eq, encTk_eq, Gn.enc_eq, ints_eq, rdC_eq, and_assoc] using h
theorem spKeyDraw_md  : (spKeyDraw).md = [true] := rfl
theorem spKeyDraw_pre  (bs : List Int) (p : Int) : (spKeyDraw).pre [.ref (rdC bs p)] = (byt bs ∧ 0 ≤ p ∧ p ≤ 1099511627776) := Spec.ofR_pre spKeyDraw_inj (bs, p)
theorem spKeyDraw_ne0  (bs : List Int) (p : Int) : (spKeyDraw).ne [.ref (rdC bs p)] = (∃ k : ByteArray, (k.size : Int) ≤ 10) := Spec.ofR_ne spKeyDraw_inj (bs, p)
theorem spKeyDraw_all  (bs : List Int) (p : Int) (F : List AV → List AV → Prop) : (spKeyDraw).all [.ref (rdC bs p)] F = (∀ (s : ByteArray), ((s.size : Int) ≤ 10) → F [.d (.one (.str s))] [.ref (rdC bs (p + 1))]) := by
  refine (Spec.ofR_all spKeyDraw_inj (bs, p) F).trans (propext ⟨fun h s hr => h s hr, fun h k hr => ?_⟩)
  exact h k hr
theorem spKeyDraw_ne (bs : List Int) (p : Int) : spKeyDraw.ne [.ref (rdC bs p)] = True := by
  rw [spKeyDraw_ne0]
  exact eq_true ⟨⟨#[]⟩, by decide⟩
theorem l2KeyDraw_sound : Sound Go.Proofs.Try.prog 81 spKeyDraw := by
  refine sound_famR (GOK.cons call_dof dof_sound GOK.nil) Go.Proofs.Try.func81 (c := Go.Proofs.Try.f81.body.getD .skip) rfl (n := 6) rfl chk_l2KeyDraw rs_l2KeyDraw (fun _ => by simp) ?_
  · rintro ⟨bs, p⟩ ⟨hb, h1, h2⟩
    change byt bs at hb
    simp only at h1 h2
    simp only [x_l2KeyDraw, rg, seval, argsB, PV.toDB, Q.toCB, allCB, callB, flatP, flatC, flatS, List.all_nil, List.all_cons, svL, svP, addR, agQ, agR, pid, nodupN, List.contains_nil, List.contains_cons, finG, gIds, idsR, oneI, agI, gOk, oneOk, ptOk, notIn, List.filter_nil, List.filter_cons, pw_mix, ↓runH, ↓one, ↓effC, effR, Updr.app, putO, updL, St.kil, kilQ, kilP, kilL, invC, opKil, excOf, invT, invB, plT, plA, rcOf, wrU, kilI, memK, PV.ids, disj, pairOk, okPast, setP, invU, outB, PV.pl, Q.pl, plL, plL_map, List.all_nil, List.all_cons, List.getD_cons_zero, Prod.fst, List.nil_append, id_eq, List.map_id, Nat.reduceMul, allCB_map, PV.rowB, BASE, ltB, List.isEmpty_nil, delL, St.delO, or_true, List.mem_singleton, strs9, spDof_md, spDof_pre, spDof_ne, ↓spDof_all, spDof_all]
    repeat' (first | with_reducible assumption | with_reducible refine And.intro ?_ ?_ | intro _)
    all_goals first | omega | skip
    rename_i s h
    refine ⟨s, ?_, rfl⟩
    simp only [List.mem_cons, List.not_mem_nil, or_false, reduceCtorEq] at h
    rcases h with rfl | rfl | rfl | rfl | rfl | rfl | rfl | rfl | rfl <;> decide
theorem leaf_weak : Sound Go.Proofs.Try.prog 84 spLeaf.weak := l1Leaf_sound.weak (by
    rintro ds r o _ ⟨i, k, _, _, rfl, _⟩ x hx cs rfl
    simp at hx)
def spDRowBy  : Spec := Spec.ofR (ι := (List Int)) (κ := Int × Int × ByteArray × (List ByteArray) × (List T) × ByteArray) [false] (fun i => [.d (.one (.row 1 (ints .u8 i)))]) (fun i => (∀ b ∈ i, 0 ≤ b ∧ b ≤ 255) ∧ lenB 140737488355328 i.length) (fun i k => drW 16000 (.mk k.1 k.2.1 k.2.2.1 k.2.2.2.1 k.2.2.2.2.1) ∧ (k.2.2.2.2.2.size : Int) ≤ 10) (fun i k => [.d (.agg (T.mk k.1 k.2.1 k.2.2.1 k.2.2.2.1 k.2.2.2.2.1).enc), .d (.one (.str k.2.2.2.2.2))]) (fun i k => [.gone])
theorem spDRowBy_inj : ∀ i j : (List Int), (fun (i : (List Int)) => ([.d (.one (.row 1 (ints .u8 i)))] : List AV)) i = (fun (i : (List Int)) => ([.d (.one (.row 1 (ints .u8 i)))] : List AV)) j → i = j := by
  intro bs bs' h
  simpa [strs_eq, T.enc_eq, encL_eq, F.enc_eq, encF_eq, Tk.enc_eq, encTk_eq, Gn.enc_eq, ints_eq, rdC_eq, and_assoc] using h
theorem spDRowBy_md  : (spDRowBy).md = [false] := rfl
theorem spDRowBy_pre  (bs : List Int) : (spDRowBy).pre [.d (.one (.row 1 (ints .u8 bs)))] = ((∀ b ∈ bs, 0 ≤ b ∧ b ≤ 255) ∧ lenB 140737488355328 bs.length) := Spec.ofR_pre spDRowBy_inj bs
theorem spDRowBy_all  (bs : List Int) (F : List AV → List AV → Prop) : (spDRowBy).all [.d (.one (.row 1 (ints .u8 bs)))] F = (∀ (k : Int) (n : Int) (s : ByteArray) (ks : List ByteArray) (l : List T) (key : ByteArray), (drW 16000 (.mk k n s ks l) ∧ (key.size : Int) ≤ 10) → F [.d (.agg (T.mk k n s ks l).enc), .d (.one (.str key))] [.gone]) := by
  refine (Spec.ofR_all spDRowBy_inj bs F).trans (propext ⟨fun h k n s ks l key hr => h (k, n, s, ks, l, key) hr, fun h k hr => ?_⟩)
  exact h k.1 k.2.1 k.2.2.1 k.2.2.2.1 k.2.2.2.2.1 k.2.2.2.2.2 hr
set_option maxHeartbeats 4000000 in
theorem DrawRowBy_sound : Sound Go.Proofs.Try.prog 32 spDRowBy := by
  refine sound_famR (GOK.cons (l := [(85, spDof), (84, spLeaf.weak), (50, spRowDraw), (70, spL4Of), (83, spL2Num), (82, spL2Put), (81, spKeyDraw), (51, spOpen)]) call_pick pick_sound (GOK.cons call_dof dof_sound (GOK.cons call_l1Leaf leaf_weak (GOK.cons call_l4RowDraw l4RowDraw_sound (GOK.cons call_l4Of l4Of_sound (GOK.cons call_l2Num l2Num_sound (GOK.cons call_l2Put l2Put_sound (GOK.cons call_l2KeyDraw l2KeyDraw_sound (GOK.cons call_l11Open l11Open_sound GOK.nil))))))))) Go.Proofs.Try.func32 (c := Go.Proofs.Try.f32.body.getD .skip) rfl (n := 46) rfl chk_DrawRowBy rs_DrawRowBy (fun _ => by simp) ?_
  · rintro bs ⟨hb, h1⟩
    have hy := byt_take hb
    simp only [x_DrawRowBy, rg, seval, argsB, PV.toDB, Q.toCB, allCB, callB, flatP, flatC, flatS, List.all_nil, List.all_cons, svL, svP, addR, agQ, agR, pid, nodupN, List.contains_nil, List.contains_cons, finG, gIds, idsR, oneI, agI, gOk, oneOk, ptOk, notIn, List.filter_nil, List.filter_cons, pw_mix, ↓runH, ↓one, ↓effC, effR, Updr.app, putO, updL, St.kil, kilQ, kilP, kilL, invC, opKil, excOf, invT, invB, plT, plA, rcOf, wrU, kilI, memK, PV.ids, disj, pairOk, okPast, setP, invU, outB, PV.pl, Q.pl, plL, plL_map, List.all_nil, List.all_cons, List.getD_cons_zero, Prod.fst, List.nil_append, id_eq, List.map_id, Nat.reduceMul, allCB_map, PV.rowB, BASE, ltB, List.isEmpty_nil, delL, St.delO, or_true, List.mem_singleton, T.enc_len, spOpen_md, spOpen_pre, spOpen_alts, spOpen_res, spOpen_out, spRowDraw_md, spRowDraw_pre, spRowDraw_ne, ↓spRowDraw_all, spRowDraw_all, spPick_md, spPick_pre, spPick_ne, ↓spPick_all, spPick_all, spKeyDraw_md, spKeyDraw_pre, spKeyDraw_ne, ↓spKeyDraw_all, spKeyDraw_all]
    repeat' (first | with_reducible assumption | with_reducible refine And.intro ?_ ?_ | intro _)
    all_goals first | omega | skip
    · rename_i k n s ks l q hd key hk
      exact ⟨(k, n, s, ks, l, key), ⟨hd.1, hk⟩, ⟨rfl, rfl⟩⟩
    · rename_i m hm
      refine pw_loop (ι := Nat × Nat × Int × List T) (fun i => i.1)
        (fun i => i.1 + i.2.1 ≤ 4 ∧ 2 ≤ i.2.2.1 ∧ i.2.2.1 ≤ 2 + i.2.1 * 30 ∧ i.2.2.2.length ≤ i.2.1 ∧ fitL 1000 i.2.2.2 ∧ sizeL i.2.2.2 ≤ i.2.1 * 10)
        (fun i => ⟨[(2, .q (.box 2 0)), (4, .q (.box 9 0)), (5, .q (.own 301)), (6, .q (.c (.int .i64 i.1)))],
          [(2, [.c (.int .i64 0), .c (.int .i64 0), .c (.str ⟨#[]⟩), .z 1, .z 5]), (9, (rdC (bs.take 2000) i.2.2.1).map .c)],
          [(301, 5, encL i.2.2.2)]⟩) (m.toNat, 0, 2, []) ⟨by show m.toNat + 0 ≤ 4; omega, by show (2 : Int) ≤ 2; omega, by show (2 : Int) ≤ 2 + ((0 : Nat) : Int) * 30; simp, by simp, trivial, by simp [sizeL]⟩ ?_ ?_
      · have e : ((m.toNat : Nat) : Int) = m := by omega
        refine Le.own (t := 5) (d := 301) (sz := 5) (by decide) (by simp) (by simp [Q.killO, rdC]) ?_
        simp [e, PV.map, Q.killO]
      · rintro ⟨i, j, q, l⟩ ⟨g1, g2, g3, g4, g5, g6⟩
        simp only at g1 g2 g3 g4 g5 g6
        rcases Nat.eq_zero_or_pos i with h0 | hpos
        · have b1 : (((i : Nat) : Int) > 0) = False := eq_false (by omega)
          have hh : drW 16000 (.mk 5 0 ⟨#[]⟩ [] l) := (drT_mk (m := 16000) (by unfold i64; omega) (by unfold i64; omega) (by decide) (by simp) (by simp) (by omega) g5 (by omega)).w
          simp only [rg, seval, argsB, PV.toDB, Q.toCB, allCB, callB, flatP, flatC, flatS, List.all_nil, List.all_cons, svL, svP, addR, agQ, agR, pid, nodupN, List.contains_nil, List.contains_cons, finG, gIds, idsR, oneI, agI, gOk, oneOk, ptOk, notIn, List.filter_nil, List.filter_cons, pw_mix, ↓runH, ↓one, ↓effC, effR, Updr.app, putO, updL, St.kil, kilQ, kilP, kilL, invC, opKil, excOf, invT, invB, plT, plA, rcOf, wrU, kilI, memK, PV.ids, disj, pairOk, okPast, setP, invU, outB, PV.pl, Q.pl, plL, plL_map, List.all_nil, List.all_cons, List.getD_cons_zero, Prod.fst, List.nil_append, id_eq, List.map_id, Nat.reduceMul, allCB_map, PV.rowB, BASE, ltB, List.isEmpty_nil, delL, St.delO, or_true, List.mem_singleton, b1, strs4, T.enc_len, spL4Of_md, spL4Of_pre, spL4Of_alts, spL4Of_res, spL4Of_out, spDof_md, spDof_pre, spDof_ne, ↓spDof_all, spDof_all]
          repeat' (first | with_reducible assumption | with_reducible refine And.intro ?_ ?_ | intro _)
          all_goals first | omega | skip
          rename_i key hk
          have hs : (key.size : Int) ≤ 10 := by
            simp only [List.mem_cons, List.not_mem_nil, or_false, reduceCtorEq] at hk
            rcases hk with rfl | rfl | rfl | rfl <;> decide
          exact ⟨(5, 0, ⟨#[]⟩, [], l, key), ⟨hh, hs⟩, rfl, rfl⟩
        · have b1 : (((i : Nat) : Int) > 0) = True := eq_true (by omega)
          have G0 : goodM 0 1 (T.mk 6 0 ⟨#[]⟩ [] []) := ⟨⟨by unfold i64; omega, by unfold i64; omega, by unfold lenB; decide, ⟨by unfold lenB; decide, by simp⟩, by unfold lenB; decide, trivial⟩, rfl, by simp [T.keys], by simp [sizeT, sizeL]⟩
          have G1 : ∀ m : Int, 0 ≤ m ∧ m < 3 → goodM 1 2 (putT (T.mk 6 0 ⟨#[]⟩ [] []) ⟨#[97]⟩ (T.mk 3 m ⟨#[]⟩ [] [])) := fun m hm =>
            putT_good G0 ⟨by unfold i64; omega, by unfold i64; omega, by unfold lenB; decide, ⟨by unfold lenB; decide, by simp⟩, by unfold lenB; decide, trivial⟩ (by decide) (w := 1) (by simp [sizeT, sizeL]) (by omega)
          have ei : (i : Int) - 1 = ((i - 1 : Nat) : Int) := by omega
          have fin : ∀ (v : T), goodM 2 3 v → ∀ q' : Int, q ≤ q' → q' ≤ q + 25 → i - 1 + (j + 1) ≤ 4 ∧ 2 ≤ q' ∧ q' ≤ 2 + ((j + 1 : Nat) : Int) * 30 ∧ (l ++ [v]).length ≤ j + 1 ∧ fitL 1000 (l ++ [v]) ∧ sizeL (l ++ [v]) ≤ ((j + 1 : Nat) : Int) * 10 := fun v hv q' k1 k2 => by
            have h3 := hv.z
            refine ⟨by omega, by omega, by omega, by simp; omega, fitL_app g5 ⟨hv.f, trivial⟩, ?_⟩
            rw [sizeL_app]; simp only [sizeL]; omega
          simp only [rg, seval, argsB, PV.toDB, Q.toCB, allCB, callB, flatP, flatC, flatS, List.all_nil, List.all_cons, svL, svP, addR, agQ, agR, pid, nodupN, List.contains_nil, List.contains_cons, finG, gIds, idsR, oneI, agI, gOk, oneOk, ptOk, notIn, List.filter_nil, List.filter_cons, pw_mix, ↓runH, ↓one, ↓effC, effR, Updr.app, putO, updL, St.kil, kilQ, kilP, kilL, invC, opKil, excOf, invT, invB, plT, plA, rcOf, wrU, kilI, memK, PV.ids, disj, pairOk, okPast, setP, invU, outB, PV.pl, Q.pl, plL, plL_map, List.all_nil, List.all_cons, List.getD_cons_zero, Prod.fst, List.nil_append, id_eq, List.map_id, Nat.reduceMul, allCB_map, PV.rowB, BASE, ltB, List.isEmpty_nil, delL, St.delO, or_true, List.mem_singleton, b1, T.enc_len, T.enc_dropQ, encL_len, foldT, foldT2, spL2Num_md, spL2Num_pre, spL2Num_alts, spL2Num_res, spL2Num_out, spL2Num_md, spL2Num_pre, spL2Num_ne, ↓spL2Num_all, spL2Num_all, spL2Put_md, spL2Put_pre, spL2Put_alts, spL2Put_res, spL2Put_out, spL2Put_md, spL2Put_pre, spL2Put_ne, ↓spL2Put_all, spL2Put_all, spPick_md, spPick_pre, spPick_ne, ↓spPick_all, spPick_all, weak_md, weak_pre, weak_ne, ↓weak_all, AV.weak, Pt.toC, spLeaf_md, spLeaf_pre, spLeaf_ne, ↓spLeaf_all, spLeaf_all]
          repeat' (first | with_reducible assumption | with_reducible refine And.intro ?_ ?_ | intro _)
          all_goals first | exact T.fit_mono (by decide) G0.f | exact T.fit_mono (by decide) (G1 _ (by assumption)).f | rfl | exact (G1 _ (by assumption)).e | skip
          all_goals first | (have h1 := (G1 _ (by assumption)).m; unfold lenB; omega) | (unfold lenB; decide) | exact mulB80 (by omega) | (show _ ≤ (_ : Int); omega) | (show _ < (_ : Int); omega) | skip
          · rename_i m1 hm1 _ _ _ _ k2 n2 s2 ks2 l2 q2 hd _ _ _
            obtain ⟨hd, hq, hq2⟩ := hd
            refine ⟨(i - 1, j + 1, q2, l ++ [putT (putT (T.mk 6 0 ⟨#[]⟩ [] []) ⟨#[97]⟩ (T.mk 3 m1 ⟨#[]⟩ [] [])) ⟨#[98]⟩ (T.mk k2 n2 s2 ks2 l2)]), fin _ (putT_good (G1 m1 hm1) hd.1 (by decide) hd.2.1 (by omega)) q2 (by omega) (by omega), by show i - 1 < i; omega, ?_⟩
            rw [ei]
            refine Le.sub ?_ ?_ ?_ <;> simp [encL_app, encL]
          · rename_i m1 hm1 _ _ _ _ _ _
            have G2 := G1 m1 hm1
            refine ⟨(i - 1, j + 1, q + 1 + 1, l ++ [putT (T.mk 6 0 ⟨#[]⟩ [] []) ⟨#[97]⟩ (T.mk 3 m1 ⟨#[]⟩ [] [])]), fin _ ⟨G2.f, G2.e, Nat.le_succ_of_le G2.m, Int.le_trans G2.z (by decide)⟩ (q + 1 + 1) (by omega) (by omega), by show i - 1 < i; omega, ?_⟩
            rw [ei]
            refine Le.sub ?_ ?_ ?_ <;> simp [encL_app, encL]
end Go.Proofs.Pw
