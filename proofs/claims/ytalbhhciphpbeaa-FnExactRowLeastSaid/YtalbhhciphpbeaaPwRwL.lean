/- Rows: the least, a piece. -/
import Derived.Test.YtalbhhciphpbeaaPwSo2
set_option linter.unusedSimpArgs false
set_option linter.unusedVariables false
set_option linter.unusedSimpArgs false
set_option maxRecDepth 20000
namespace Go.Proofs.Pw
set_option linter.unusedSectionVars false
variable [Globs]
def x_RowLeastI : X := (.seq (.reg [⟨some 1, none, .box (.t 0) (some 5)⟩, ⟨some 2, none, .alloc [(.c (.int .i64 0)), (.c (.int .i64 0)), (.c (.str ⟨#[]⟩)), (.z 1), (.z 5)]⟩, ⟨some 3, none, .mv (.k (.c (.bool false)))⟩] none [1, 2]) (.seq (.seq (.reg [⟨some 4, none, .load (.t 1) (some 5)⟩, ⟨some 5, none, .call 28 [(.t 4)]⟩, ⟨some 6, none, .not (.t 5)⟩] none [1, 2, 6]) (.cond (.t 6) (.seq (.reg [⟨some 7, none, .build [(.c (.int .i64 0)), (.c (.int .i64 0)), (.c (.str ⟨#[]⟩)), (.z 1), (.z 5)] []⟩, ⟨none, none, .st (.t 2) (.t 7) (some 5)⟩, ⟨some 3, none, .mv (.k (.c (.bool false)))⟩] none [2, 3]) .ret) .skip)) (.seq (.seq (.reg [⟨some 8, none, .fa (.t 1) 4⟩, ⟨some 9, none, .load (.t 8) none⟩, ⟨some 10, none, .len (.t 9) false⟩, ⟨some 11, none, .bin false .eql (.t 10) (.k (.c (.int .i64 0)))⟩] none [1, 2, 11]) (.cond (.t 11) (.seq (.reg [⟨some 12, none, .build [(.c (.int .i64 0)), (.c (.int .i64 0)), (.c (.str ⟨#[]⟩)), (.z 1), (.z 5)] []⟩, ⟨none, none, .st (.t 2) (.t 12) (some 5)⟩, ⟨some 3, none, .mv (.k (.c (.bool true)))⟩] none [2, 3]) .ret) .skip)) (.seq (.reg [⟨some 13, none, .fa (.t 1) 4⟩, ⟨some 14, none, .load (.t 13) none⟩, ⟨some 15, none, .call 31 [(.t 14)]⟩, ⟨some 16, none, .ia (.t 15) (.k (.c (.int .i64 0))) 5⟩, ⟨some 17, none, .load (.t 16) (some 5)⟩, ⟨some 18, none, .call 29 [(.t 17), (.k (.c (.bool true)))]⟩, ⟨some 19, none, .ext (.t 18) 0⟩, ⟨some 20, none, .ext (.t 18) 1⟩, ⟨none, none, .st (.t 2) (.t 19) (some 5)⟩, ⟨some 3, none, .mv (.t 20)⟩] none [2, 3]) .ret))))
theorem chk_RowLeastI : chkX Go.Proofs.Try.prog 21 (Go.Proofs.Try.f15.body.getD .skip) x_RowLeastI = true := by kernel_rfl
theorem rs_RowLeastI : okRs Go.Proofs.Try.prog Go.Proofs.Try.f15.results.toList [.cell 2 (some 5), .tmp 3] = true := by kernel_rfl
theorem call_RowLeastI : okCallee Go.Proofs.Try.prog 15 = true := by kernel_rfl
def x_RowLeast : X := (.seq (.reg [⟨some 1, none, .box (.t 0) (some 5)⟩, ⟨some 2, none, .alloc [(.c (.int .i64 0)), (.c (.int .i64 0)), (.c (.str ⟨#[]⟩)), (.z 1), (.z 5)]⟩, ⟨some 3, none, .mv (.k (.c (.bool false)))⟩] none [1, 2]) (.seq (.seq (.reg [⟨some 4, none, .load (.t 1) (some 5)⟩, ⟨some 5, none, .call 22 [(.t 4)]⟩, ⟨some 6, none, .not (.t 5)⟩] none [1, 2, 6]) (.cond (.t 6) (.seq (.reg [⟨some 7, none, .build [(.c (.int .i64 0)), (.c (.int .i64 0)), (.c (.str ⟨#[]⟩)), (.z 1), (.z 5)] []⟩, ⟨none, none, .st (.t 2) (.t 7) (some 5)⟩, ⟨some 3, none, .mv (.k (.c (.bool false)))⟩] none [2, 3]) .ret) .skip)) (.seq (.seq (.reg [⟨some 8, none, .fa (.t 1) 4⟩, ⟨some 9, none, .load (.t 8) none⟩, ⟨some 10, none, .len (.t 9) false⟩, ⟨some 11, none, .bin false .eql (.t 10) (.k (.c (.int .i64 0)))⟩] none [1, 2, 11]) (.cond (.t 11) (.seq (.reg [⟨some 12, none, .build [(.c (.int .i64 0)), (.c (.int .i64 0)), (.c (.str ⟨#[]⟩)), (.z 1), (.z 5)] []⟩, ⟨none, none, .st (.t 2) (.t 12) (some 5)⟩, ⟨some 3, none, .mv (.k (.c (.bool true)))⟩] none [2, 3]) .ret) .skip)) (.seq (.reg [⟨some 13, none, .fa (.t 1) 4⟩, ⟨some 14, none, .load (.t 13) none⟩, ⟨some 15, none, .call 25 [(.t 14)]⟩, ⟨some 16, none, .ia (.t 15) (.k (.c (.int .i64 0))) 5⟩, ⟨some 17, none, .load (.t 16) (some 5)⟩, ⟨some 18, none, .call 23 [(.t 17)]⟩, ⟨some 19, none, .ext (.t 18) 0⟩, ⟨some 20, none, .ext (.t 18) 1⟩, ⟨none, none, .st (.t 2) (.t 19) (some 5)⟩, ⟨some 3, none, .mv (.t 20)⟩] none [2, 3]) .ret))))
theorem chk_RowLeast : chkX Go.Proofs.Try.prog 21 (Go.Proofs.Try.f14.body.getD .skip) x_RowLeast = true := by kernel_rfl
theorem rs_RowLeast : okRs Go.Proofs.Try.prog Go.Proofs.Try.f14.results.toList [.cell 2 (some 5), .tmp 3] = true := by kernel_rfl
theorem call_RowLeast : okCallee Go.Proofs.Try.prog 14 = true := by kernel_rfl
open Classical in
noncomputable def leastT (v : T) : T := if rowT v then toldT true ((sortC cmpT v.list).headD T.zero) else T.zero
def leastOk (v : T) : Prop := rowT v ∧ okT ((sortC cmpT v.list).headD T.zero)
noncomputable instance (t : T) : Decidable (leastOk t) := Classical.propDecidable _
theorem okT_zero : okT T.zero := ⟨by simp [T.zero, formT, formL, okS_nil], by simp [T.zero, manyT, manyL]⟩
theorem T.fit_list {B : Int} {k n : Int} {s : ByteArray} {ks : List ByteArray} {l : List T} (h : (T.mk k n s ks l).fit B) : lenB B l.length ∧ fitL B l := h.2.2.2.2
theorem sizeT_mem {k n : Int} {s : ByteArray} {ks : List ByteArray} {l : List T} {t : T} (h : t ∈ l) : sizeT t ≤ sizeT (T.mk k n s ks l) := by
  obtain ⟨i, hi⟩ := List.getElem?_of_mem h
  have := sizeL_at hi
  simp only [sizeT]; omega
end Go.Proofs.Pw
