/- Rows: the least, a piece. -/
import Derived.Test.YtiimmibdlhgkfaaPwSo2
set_option linter.unusedSimpArgs false
set_option linter.unusedVariables false
set_option linter.unusedSimpArgs false
set_option maxRecDepth 20000
namespace Go.Proofs.Pw
set_option linter.unusedSectionVars false
variable [Globs]
def x_str : X := (.seq (.reg [⟨some 2, none, .alloc [(.c (.int .i64 0)), (.c (.int .i64 0)), (.c (.str ⟨#[]⟩)), (.z 1), (.z 5)]⟩] none [0, 2]) (.seq (.reg [⟨some 3, none, .mv (.t 0)⟩, ⟨some 4, none, .build [(.c (.int .i64 0)), (.c (.int .i64 0)), (.c (.str ⟨#[]⟩)), (.z 1), (.z 5)] [(0, (.k (.c (.int .i64 4))), none), (2, (.t 3), none)]⟩, ⟨none, none, .st (.t 2) (.t 4) (some 5)⟩] none [2]) .ret))
theorem chk_str : chkX Go.Proofs.Try.prog 5 (Go.Proofs.Try.f67.body.getD .skip) x_str = true := by kernel_rfl
theorem rs_str : okRs Go.Proofs.Try.prog Go.Proofs.Try.f67.results.toList [.cell 2 (some 5)] = true := by kernel_rfl
theorem call_str : okCallee Go.Proofs.Try.prog 67 = true := by kernel_rfl
def x_row : X := (.seq (.reg [⟨some 2, none, .alloc [(.c (.int .i64 0)), (.c (.int .i64 0)), (.c (.str ⟨#[]⟩)), (.z 1), (.z 5)]⟩] none [0, 2]) (.seq (.reg [⟨some 3, none, .mv (.t 0)⟩, ⟨some 4, none, .build [(.c (.int .i64 0)), (.c (.int .i64 0)), (.c (.str ⟨#[]⟩)), (.z 1), (.z 5)] [(0, (.k (.c (.int .i64 5))), none), (4, (.t 3), none)]⟩, ⟨none, none, .st (.t 2) (.t 4) (some 5)⟩] none [2]) .ret))
theorem chk_row : chkX Go.Proofs.Try.prog 5 (Go.Proofs.Try.f68.body.getD .skip) x_row = true := by kernel_rfl
theorem rs_row : okRs Go.Proofs.Try.prog Go.Proofs.Try.f68.results.toList [.cell 2 (some 5)] = true := by kernel_rfl
theorem call_row : okCallee Go.Proofs.Try.prog 68 = true := by kernel_rfl
def x_span1 : X := (.seq (.reg [⟨some 3, none, .mv (.k (.c (.int .i64 0)))⟩] none [0, 1]) (.seq (.seq (.reg [⟨some 4, none, .mv (.t 0)⟩, ⟨some 5, none, .bin false .lss (.t 4) (.k (.c (.int .i64 0)))⟩] none [0, 1, 5]) (.cond (.t 5) (.reg [⟨some 6, none, .mv (.t 0)⟩, ⟨some 7, none, .load (.t 1) none⟩, ⟨some 8, none, .bin false .add (.t 6) (.t 7)⟩, ⟨some 0, none, .mv (.t 8)⟩] none [0, 1]) .skip)) (.seq (.reg [⟨some 9, none, .mv (.t 0)⟩, ⟨some 10, none, .mm true (.t 9) (.k (.c (.int .i64 0)))⟩, ⟨some 11, none, .load (.t 1) none⟩, ⟨some 12, none, .mm false (.t 10) (.t 11)⟩, ⟨some 3, none, .mv (.t 12)⟩] none [3]) .ret)))
theorem chk_span1 : chkX Go.Proofs.Try.prog 13 (Go.Proofs.Try.f119.body.getD .skip) x_span1 = true := by kernel_rfl
theorem rs_span1 : okRs Go.Proofs.Try.prog Go.Proofs.Try.f119.results.toList [.tmp 3] = true := by kernel_rfl
theorem call_span1 : okCallee Go.Proofs.Try.prog 119 = true := by kernel_rfl
def x_span : X := (.seq (.reg [⟨some 5, none, .box (.t 2) none⟩, ⟨some 6, none, .mv (.k (.c (.int .i64 0)))⟩, ⟨some 7, none, .mv (.k (.c (.int .i64 0)))⟩] none [0, 1, 5]) (.seq (.reg [⟨some 9, none, .mkf 119 (.t 5)⟩, ⟨some 8, none, .mv (.t 9)⟩] none [0, 1, 8]) (.seq (.reg [⟨some 10, none, .mv (.t 8)⟩, ⟨some 11, none, .mv (.t 0)⟩, ⟨some 12, none, .calli (.t 10) [(.t 11)]⟩, ⟨some 13, none, .mv (.t 8)⟩, ⟨some 14, none, .mv (.t 1)⟩, ⟨some 15, none, .calli (.t 13) [(.t 14)]⟩, ⟨some 0, none, .mv (.t 12)⟩, ⟨some 1, none, .mv (.t 15)⟩] none [0, 1]) (.seq (.reg [⟨some 16, none, .mv (.t 0)⟩, ⟨some 17, none, .mv (.t 0)⟩, ⟨some 18, none, .mv (.t 1)⟩, ⟨some 19, none, .mm true (.t 17) (.t 18)⟩, ⟨some 6, none, .mv (.t 16)⟩, ⟨some 7, none, .mv (.t 19)⟩] none [6, 7]) .ret))))
theorem chk_span : chkX Go.Proofs.Try.prog 20 (Go.Proofs.Try.f66.body.getD .skip) x_span = true := by kernel_rfl
theorem rs_span : okRs Go.Proofs.Try.prog Go.Proofs.Try.f66.results.toList [.tmp 6, .tmp 7] = true := by kernel_rfl
theorem call_span : okCallee Go.Proofs.Try.prog 66 = true := by kernel_rfl
def x_RowCutI : X := (.seq (.reg [⟨some 3, none, .box (.t 0) (some 5)⟩, ⟨some 6, none, .alloc [(.c (.int .i64 0)), (.c (.int .i64 0)), (.c (.str ⟨#[]⟩)), (.z 1), (.z 5)]⟩, ⟨some 7, none, .mv (.k (.c (.bool false)))⟩] none [1, 2, 3, 6]) (.seq (.block 0 (.seq (.reg [⟨some 13, none, .load (.t 3) (some 5)⟩, ⟨some 14, none, .call 40 [(.t 13)]⟩, ⟨some 15, none, .not (.t 14)⟩, ⟨some 12, none, .mv (.t 15)⟩] none [1, 2, 3, 6, 12]) (.cond (.t 12) (.seq (.reg [⟨some 16, none, .build [(.c (.int .i64 0)), (.c (.int .i64 0)), (.c (.str ⟨#[]⟩)), (.z 1), (.z 5)] []⟩, ⟨none, none, .st (.t 6) (.t 16) (some 5)⟩, ⟨some 7, none, .mv (.k (.c (.bool false)))⟩] none [6, 7]) .ret) (.seq (.reg [⟨some 18, none, .fa (.t 3) 0⟩, ⟨some 19, none, .load (.t 18) none⟩, ⟨some 20, none, .bin false .eql (.t 19) (.k (.c (.int .i64 4)))⟩, ⟨some 17, none, .mv (.t 20)⟩] none [1, 2, 3, 6, 17]) (.cond (.t 17) (.seq (.reg [⟨some 22, none, .mv (.t 1)⟩, ⟨some 23, none, .mv (.t 2)⟩, ⟨some 24, none, .fa (.t 3) 2⟩, ⟨some 25, none, .load (.t 24) none⟩, ⟨some 26, none, .len (.t 25) true⟩, ⟨some 27, none, .call 66 [(.t 22), (.t 23), (.t 26)]⟩, ⟨some 21, none, .mv (.t 27)⟩, ⟨some 28, none, .ext (.t 21) 0⟩, ⟨some 29, none, .ext (.t 21) 1⟩, ⟨some 8, none, .mv (.t 28)⟩, ⟨some 9, none, .mv (.t 29)⟩] none [3, 6, 8, 9]) (.seq (.reg [⟨some 30, none, .fa (.t 3) 2⟩, ⟨some 31, none, .load (.t 30) none⟩, ⟨some 32, none, .mv (.t 8)⟩, ⟨some 33, none, .mv (.t 9)⟩, ⟨some 34, none, .sub (.t 31) (some (.t 32)) (some (.t 33)) 0⟩, ⟨some 35, none, .call 67 [(.t 34)]⟩, ⟨some 36, none, .call 54 [(.t 35), (.k (.c (.bool true)))]⟩, ⟨some 37, none, .ext (.t 36) 0⟩, ⟨some 38, none, .ext (.t 36) 1⟩, ⟨none, none, .st (.t 6) (.t 37) (some 5)⟩, ⟨some 7, none, .mv (.t 38)⟩] none [6, 7]) .ret)) (.seq (.reg [⟨some 40, none, .fa (.t 3) 0⟩, ⟨some 41, none, .load (.t 40) none⟩, ⟨some 42, none, .bin false .eql (.t 41) (.k (.c (.int .i64 5)))⟩, ⟨some 39, none, .mv (.t 42)⟩] none [1, 2, 3, 6, 39]) (.cond (.t 39) (.seq (.reg [⟨some 44, none, .mv (.t 1)⟩, ⟨some 45, none, .mv (.t 2)⟩, ⟨some 46, none, .fa (.t 3) 4⟩, ⟨some 47, none, .load (.t 46) none⟩, ⟨some 48, none, .len (.t 47) false⟩, ⟨some 49, none, .call 66 [(.t 44), (.t 45), (.t 48)]⟩, ⟨some 43, none, .mv (.t 49)⟩, ⟨some 50, none, .ext (.t 43) 0⟩, ⟨some 51, none, .ext (.t 43) 1⟩, ⟨some 10, none, .mv (.t 50)⟩, ⟨some 11, none, .mv (.t 51)⟩] none [3, 6, 10, 11]) (.seq (.reg [⟨some 52, none, .fa (.t 3) 4⟩, ⟨some 53, none, .load (.t 52) none⟩, ⟨some 54, none, .mv (.t 10)⟩, ⟨some 55, none, .mv (.t 11)⟩, ⟨some 56, none, .sub (.t 53) (some (.t 54)) (some (.t 55)) 5⟩, ⟨some 57, none, .call 68 [(.t 56)]⟩, ⟨some 58, none, .call 54 [(.t 57), (.k (.c (.bool true)))]⟩, ⟨some 59, none, .ext (.t 58) 0⟩, ⟨some 60, none, .ext (.t 58) 1⟩, ⟨none, none, .st (.t 6) (.t 59) (some 5)⟩, ⟨some 7, none, .mv (.t 60)⟩] none [6, 7]) .ret)) .skip))))))) (.seq (.reg [⟨some 61, none, .build [(.c (.int .i64 0)), (.c (.int .i64 0)), (.c (.str ⟨#[]⟩)), (.z 1), (.z 5)] []⟩, ⟨none, none, .st (.t 6) (.t 61) (some 5)⟩, ⟨some 7, none, .mv (.k (.c (.bool false)))⟩] none [6, 7]) .ret)))
theorem chk_RowCutI : chkX Go.Proofs.Try.prog 62 (Go.Proofs.Try.f18.body.getD .skip) x_RowCutI = true := by kernel_rfl
theorem rs_RowCutI : okRs Go.Proofs.Try.prog Go.Proofs.Try.f18.results.toList [.cell 6 (some 5), .tmp 7] = true := by kernel_rfl
theorem call_RowCutI : okCallee Go.Proofs.Try.prog 18 = true := by kernel_rfl
def leastOk (v : T) : Prop := rowT v ∧ okT ((sortC cmpT v.list).headD T.zero)
noncomputable instance (t : T) : Decidable (leastOk t) := Classical.propDecidable _
theorem T.fit_list {B : Int} {k n : Int} {s : ByteArray} {ks : List ByteArray} {l : List T} (h : (T.mk k n s ks l).fit B) : lenB B l.length ∧ fitL B l := h.2.2.2.2
noncomputable def spStr  : Spec := Spec.of (ι := ByteArray) [false] (fun i => [.d (.one (.str i))]) (fun _ => True) (fun i => [.d (.agg (T.mk 4 0 i [] []).enc)]) (fun _ => [.gone])
theorem spStr_inj : ∀ i j : ByteArray, (fun (i : ByteArray) => ([.d (.one (.str i))] : List AV)) i = (fun (i : ByteArray) => ([.d (.one (.str i))] : List AV)) j → i = j := by
  intro s s' h
  simpa [strs_eq, T.enc_eq, encL_eq, F.enc_eq, encF_eq, Tk.enc_eq, encTk_eq, Gn.enc_eq, ints_eq] using h
theorem spStr_md  : (spStr).md = [false] := rfl
theorem spStr_pre  (s : ByteArray) : (spStr).pre [.d (.one (.str s))] = (True) := Spec.of_pre' spStr_inj s
theorem spStr_alts  : (spStr).alts = none := rfl
theorem spStr_res  (s : ByteArray) : (spStr).res [.d (.one (.str s))] = [.d (.agg (T.mk 4 0 s [] []).enc)] := Spec.of_res spStr_inj s
theorem spStr_out  (s : ByteArray) : (spStr).out [.d (.one (.str s))] = [.gone] := Spec.of_out spStr_inj s
theorem str_sound : Sound Go.Proofs.Try.prog 67 spStr := by
  refine sound_fam GOK.nil Go.Proofs.Try.func67 (c := Go.Proofs.Try.f67.body.getD .skip) rfl (n := 5) rfl chk_str rs_str (fun _ => by simp) ?_ ?_
  · exact spStr_inj
  · intro s _
    simp only [x_str, rg, seval, T.enc, strs, encL]
noncomputable def spRow  : Spec := Spec.of (ι := (List T)) [false] (fun i => [.d (.one (.row 5 (encL i)))]) (fun _ => True) (fun i => [.d (.agg (T.mk 5 0 ⟨#[]⟩ [] i).enc)]) (fun _ => [.gone])
theorem spRow_inj : ∀ i j : (List T), (fun (i : (List T)) => ([.d (.one (.row 5 (encL i)))] : List AV)) i = (fun (i : (List T)) => ([.d (.one (.row 5 (encL i)))] : List AV)) j → i = j := by
  intro l l' h
  simpa [strs_eq, T.enc_eq, encL_eq, F.enc_eq, encF_eq, Tk.enc_eq, encTk_eq, Gn.enc_eq, ints_eq] using h
theorem spRow_md  : (spRow).md = [false] := rfl
theorem spRow_pre  (l : List T) : (spRow).pre [.d (.one (.row 5 (encL l)))] = (True) := Spec.of_pre' spRow_inj l
theorem spRow_alts  : (spRow).alts = none := rfl
theorem spRow_res  (l : List T) : (spRow).res [.d (.one (.row 5 (encL l)))] = [.d (.agg (T.mk 5 0 ⟨#[]⟩ [] l).enc)] := Spec.of_res spRow_inj l
theorem spRow_out  (l : List T) : (spRow).out [.d (.one (.row 5 (encL l)))] = [.gone] := Spec.of_out spRow_inj l
theorem row_sound : Sound Go.Proofs.Try.prog 68 spRow := by
  refine sound_fam GOK.nil Go.Proofs.Try.func68 (c := Go.Proofs.Try.f68.body.getD .skip) rfl (n := 5) rfl chk_row rs_row (fun _ => by simp) ?_ ?_
  · exact spRow_inj
  · intro l _
    simp only [x_row, rg, seval, T.enc, strs]
def edge (m n : Int) : Int := if m < n then m else n
def edge2 (m a b : Int) : Int := if edge m b > edge m a then edge m b else edge m a
noncomputable def spSpan1  : Spec := Spec.of (ι := Int × Int) [false, false] (fun i => [.d (.one (.int .i64 i.1)), .d (.one (.ptr [.int .i64 i.2]))]) (fun i => 0 ≤ i.1 ∧ i.1 ≤ 1000000 ∧ 0 ≤ i.2 ∧ i.2 ≤ 1000000) (fun i => [.d (.one (.int .i64 (edge i.2 i.1)))]) (fun _ => [.gone, .gone])
theorem spSpan1_inj : ∀ i j : Int × Int, (fun (i : Int × Int) => ([.d (.one (.int .i64 i.1)), .d (.one (.ptr [.int .i64 i.2]))] : List AV)) i = (fun (i : Int × Int) => ([.d (.one (.int .i64 i.1)), .d (.one (.ptr [.int .i64 i.2]))] : List AV)) j → i = j := by
  rintro ⟨n, m⟩ ⟨n', m'⟩ h
  simp only [Prod.mk.injEq]
  simpa [strs_eq, T.enc_eq, encL_eq, F.enc_eq, encF_eq, Tk.enc_eq, encTk_eq, Gn.enc_eq, ints_eq] using h
theorem spSpan1_md  : (spSpan1).md = [false, false] := rfl
theorem spSpan1_pre  (n : Int) (m : Int) : (spSpan1).pre [.d (.one (.int .i64 n)), .d (.one (.ptr [.int .i64 m]))] = (0 ≤ n ∧ n ≤ 1000000 ∧ 0 ≤ m ∧ m ≤ 1000000) := Spec.of_pre' spSpan1_inj (n, m)
theorem spSpan1_alts  : (spSpan1).alts = none := rfl
theorem spSpan1_res  (n : Int) (m : Int) : (spSpan1).res [.d (.one (.int .i64 n)), .d (.one (.ptr [.int .i64 m]))] = [.d (.one (.int .i64 (edge m n)))] := Spec.of_res spSpan1_inj (n, m)
theorem spSpan1_out  (n : Int) (m : Int) : (spSpan1).out [.d (.one (.int .i64 n)), .d (.one (.ptr [.int .i64 m]))] = [.gone, .gone] := Spec.of_out spSpan1_inj (n, m)
theorem span1_sound : Sound Go.Proofs.Try.prog 119 spSpan1 := by
  refine sound_fam GOK.nil Go.Proofs.Try.func119 (c := Go.Proofs.Try.f119.body.getD .skip) rfl (n := 13) rfl chk_span1 rs_span1 (fun _ => by simp) ?_ ?_
  · exact spSpan1_inj
  · rintro ⟨n, m⟩ ⟨h1, h2, h3, h4⟩
    simp only at h1 h2 h3 h4
    have b1 : (n < 0) = False := eq_false (by omega)
    simp only [x_span1, rg, seval, b1, edge]
noncomputable def spSpan  : Spec := Spec.of (ι := Int × Int × Int) [false, false, false] (fun i => [.d (.one (.int .i64 i.1)), .d (.one (.int .i64 i.2.1)), .d (.one (.int .i64 i.2.2))]) (fun i => 0 ≤ i.1 ∧ i.1 ≤ 1000000 ∧ 0 ≤ i.2.1 ∧ i.2.1 ≤ 1000000 ∧ 0 ≤ i.2.2 ∧ i.2.2 ≤ 1000000) (fun i => [.d (.one (.int .i64 (edge i.2.2 i.1))), .d (.one (.int .i64 (edge2 i.2.2 i.1 i.2.1)))]) (fun _ => [.gone, .gone, .gone])
theorem spSpan_inj : ∀ i j : Int × Int × Int, (fun (i : Int × Int × Int) => ([.d (.one (.int .i64 i.1)), .d (.one (.int .i64 i.2.1)), .d (.one (.int .i64 i.2.2))] : List AV)) i = (fun (i : Int × Int × Int) => ([.d (.one (.int .i64 i.1)), .d (.one (.int .i64 i.2.1)), .d (.one (.int .i64 i.2.2))] : List AV)) j → i = j := by
  rintro ⟨a, b, m⟩ ⟨a', b', m'⟩ h
  simp only [Prod.mk.injEq]
  simpa [strs_eq, T.enc_eq, encL_eq, F.enc_eq, encF_eq, Tk.enc_eq, encTk_eq, Gn.enc_eq, ints_eq] using h
theorem spSpan_md  : (spSpan).md = [false, false, false] := rfl
theorem spSpan_pre  (a : Int) (b : Int) (m : Int) : (spSpan).pre [.d (.one (.int .i64 a)), .d (.one (.int .i64 b)), .d (.one (.int .i64 m))] = (0 ≤ a ∧ a ≤ 1000000 ∧ 0 ≤ b ∧ b ≤ 1000000 ∧ 0 ≤ m ∧ m ≤ 1000000) := Spec.of_pre' spSpan_inj (a, b, m)
theorem spSpan_alts  : (spSpan).alts = none := rfl
theorem spSpan_res  (a : Int) (b : Int) (m : Int) : (spSpan).res [.d (.one (.int .i64 a)), .d (.one (.int .i64 b)), .d (.one (.int .i64 m))] = [.d (.one (.int .i64 (edge m a))), .d (.one (.int .i64 (edge2 m a b)))] := Spec.of_res spSpan_inj (a, b, m)
theorem spSpan_out  (a : Int) (b : Int) (m : Int) : (spSpan).out [.d (.one (.int .i64 a)), .d (.one (.int .i64 b)), .d (.one (.int .i64 m))] = [.gone, .gone, .gone] := Spec.of_out spSpan_inj (a, b, m)
theorem span_sound : Sound Go.Proofs.Try.prog 66 spSpan := by
  refine sound_fam (GOK.cons call_span1 span1_sound GOK.nil) Go.Proofs.Try.func66 (c := Go.Proofs.Try.f66.body.getD .skip) rfl (n := 20) rfl chk_span rs_span (fun _ => by simp) ?_ ?_
  · exact spSpan_inj
  · rintro ⟨a, b, m⟩ ⟨h1, h2, h3, h4, h5, h6⟩
    simp only at h1 h2 h3 h4 h5 h6
    simp only [x_span, rg, seval, spSpan1_md, spSpan1_pre, spSpan1_alts, spSpan1_res, spSpan1_out, edge2]
    exact ⟨⟨h1, h2, h5, h6⟩, fun _ => ⟨h3, h4, h5, h6⟩⟩
def cutL (a b : Int) (l : List T) : List T := (l.take (edge2 l.length a b).toNat).drop (edge l.length a).toNat
theorem edge_le {m a b : Int} (h : 0 ≤ a) (_ : 0 ≤ b) (hm : 0 ≤ m) : 0 ≤ edge m a ∧ edge m a ≤ edge2 m a b ∧ edge2 m a b ≤ m := by
  simp only [edge, edge2]
  repeat' split
  all_goals omega
noncomputable def spCutI  : Spec := Spec.of (ι := (List T) × Int × Int) [false, false, false] (fun i => [.d (.agg (T.mk 5 0 ⟨#[]⟩ [] i.1).enc), .d (.one (.int .i64 i.2.1)), .d (.one (.int .i64 i.2.2))]) (fun i => (T.mk 5 0 ⟨#[]⟩ [] i.1).fit 1000000 ∧ okT (T.mk 5 0 ⟨#[]⟩ [] i.1) ∧ 0 ≤ i.2.1 ∧ i.2.1 ≤ 1000000 ∧ 0 ≤ i.2.2 ∧ i.2.2 ≤ 1000000) (fun i => [.d (.agg (toldT true (T.mk 5 0 ⟨#[]⟩ [] (cutL i.2.1 i.2.2 i.1))).enc), .d (.one (.bool (decide (okT (T.mk 5 0 ⟨#[]⟩ [] (cutL i.2.1 i.2.2 i.1))))))]) (fun _ => [.gone, .gone, .gone])
theorem spCutI_inj : ∀ i j : (List T) × Int × Int, (fun (i : (List T) × Int × Int) => ([.d (.agg (T.mk 5 0 ⟨#[]⟩ [] i.1).enc), .d (.one (.int .i64 i.2.1)), .d (.one (.int .i64 i.2.2))] : List AV)) i = (fun (i : (List T) × Int × Int) => ([.d (.agg (T.mk 5 0 ⟨#[]⟩ [] i.1).enc), .d (.one (.int .i64 i.2.1)), .d (.one (.int .i64 i.2.2))] : List AV)) j → i = j := by
  rintro ⟨l, a, b⟩ ⟨l', a', b'⟩ h
  simp only [Prod.mk.injEq]
  simpa [strs_eq, T.enc_eq, encL_eq, F.enc_eq, encF_eq, Tk.enc_eq, encTk_eq, Gn.enc_eq, ints_eq] using h
theorem spCutI_md  : (spCutI).md = [false, false, false] := rfl
theorem spCutI_pre  (l : List T) (a : Int) (b : Int) : (spCutI).pre [.d (.agg (T.mk 5 0 ⟨#[]⟩ [] l).enc), .d (.one (.int .i64 a)), .d (.one (.int .i64 b))] = ((T.mk 5 0 ⟨#[]⟩ [] l).fit 1000000 ∧ okT (T.mk 5 0 ⟨#[]⟩ [] l) ∧ 0 ≤ a ∧ a ≤ 1000000 ∧ 0 ≤ b ∧ b ≤ 1000000) := Spec.of_pre' spCutI_inj (l, a, b)
theorem spCutI_alts  : (spCutI).alts = none := rfl
theorem spCutI_res  (l : List T) (a : Int) (b : Int) : (spCutI).res [.d (.agg (T.mk 5 0 ⟨#[]⟩ [] l).enc), .d (.one (.int .i64 a)), .d (.one (.int .i64 b))] = [.d (.agg (toldT true (T.mk 5 0 ⟨#[]⟩ [] (cutL a b l))).enc), .d (.one (.bool (decide (okT (T.mk 5 0 ⟨#[]⟩ [] (cutL a b l))))))] := Spec.of_res spCutI_inj (l, a, b)
theorem spCutI_out  (l : List T) (a : Int) (b : Int) : (spCutI).out [.d (.agg (T.mk 5 0 ⟨#[]⟩ [] l).enc), .d (.one (.int .i64 a)), .d (.one (.int .i64 b))] = [.gone, .gone, .gone] := Spec.of_out spCutI_inj (l, a, b)
theorem RowCutI_sound : Sound Go.Proofs.Try.prog 18 spCutI := by
  refine sound_fam (GOK.cons (l := [(66, spSpan), (68, spRow), (54, spTold)]) call_ValOkI valOkI_sound (GOK.cons call_span span_sound (GOK.cons call_row row_sound (GOK.cons call_told told_sound GOK.nil)))) Go.Proofs.Try.func18 (c := Go.Proofs.Try.f18.body.getD .skip) rfl (n := 62) rfl chk_RowCutI rs_RowCutI (fun _ => by simp) ?_ ?_
  · exact spCutI_inj
  · rintro ⟨l, a, b⟩ ⟨h1, h2, h3, h4, h5, h6⟩
    simp only at h1 h2 h3 h4 h5 h6
    have g1 : (T.mk 5 0 ⟨#[]⟩ [] l).fit 140737488355328 := T.fit_mono (by decide) h1
    have g2 : lenB 1000000 l.length := (T.fit_list h1).1
    have g3 := (T.fit_list h1).2
    simp only [lenB] at g2
    have e := (okI_iff _).2 h2
    have hb := edge_le (m := l.length) h3 h5 (by omega)
    have f1 : (T.mk 5 0 ⟨#[]⟩ [] (cutL a b l)).fit 2000000 := by
      refine ⟨by unfold i64; omega, by unfold i64; omega, by unfold lenB; decide, ⟨by unfold lenB; simp, by simp⟩, ?_, fitL_of fun t ht => T.fit_mono (B := 2000000) (by decide) (fitL_mem g3 t (List.mem_of_mem_take (List.mem_of_mem_drop ht)))⟩
      unfold lenB; simp [cutL]; omega
    have f2 := T.enc_len (T.mk 5 0 ⟨#[]⟩ [] (cutL a b l))
    have f3 := T.enc_len (toldT true (T.mk 5 0 ⟨#[]⟩ [] (cutL a b l)))
    have e2 : C.row 1 [] = C.row 1 (strs []) := rfl
    have e3 : (l.take (edge2 l.length a b).toNat).drop (edge l.length a).toNat = cutL a b l := rfl
    simp only [x_RowCutI, rg, seval, T.enc, foldT, encL_len, encL_takeL, encL_dropL, e, e3, f2, f3, spValOkI_md, spValOkI_pre, spValOkI_alts, spValOkI_res, spValOkI_out, spSpan_md, spSpan_pre, spSpan_alts, spSpan_res, spSpan_out, spRow_md, spRow_pre, spRow_alts, spRow_res, spRow_out, spTold_md, spTold_pre, spTold_alts, spTold_res, spTold_out]
    repeat' (first | with_reducible assumption | with_reducible refine And.intro ?_ ?_ | intro _)
    all_goals first | omega | assumption | skip
end Go.Proofs.Pw
