/- What is a generator that is ok. -/
import Derived.Test.YtaldfcjengfibaaPwT10
import Derived.Test.YtaldfcjengfibaaProg
import Derived.KernelRfl
set_option linter.unusedSimpArgs false
set_option linter.unusedVariables false
namespace Go.Proofs.Pw
def okTk (t : Tk) : Prop := okT t.v ∧ t.todo.length ≤ 40 ∧ ∀ f ∈ t.todo, okF f
def okGn (g : Gn) : Prop := 0 ≤ g.fuel ∧ g.fuel ≤ 400 ∧ 0 ≤ g.code ∧ g.code ≤ 3 ∧ (g.code = 0 ∨ g.tasks.length = 0) ∧ g.tasks.length ≤ 2000 ∧ ∀ t ∈ g.tasks, okTk t
noncomputable instance (g : Gn) : Decidable (okGn g) := Classical.propDecidable _
def okTkI (t : Tk) : Prop := (okI t.v 1 60).1 = true ∧ t.todo.length ≤ 40 ∧ ∀ f ∈ t.todo, (okFI f 1 16).1 = true
def okGnI (g : Gn) : Prop := 0 ≤ g.fuel ∧ g.fuel ≤ 400 ∧ 0 ≤ g.code ∧ g.code ≤ 3 ∧ (g.code = 0 ∨ g.tasks.length = 0) ∧ g.tasks.length ≤ 2000 ∧ ∀ t ∈ g.tasks, okTkI t
noncomputable instance (g : Gn) : Decidable (okGnI g) := Classical.propDecidable _
mutual
/-- The program's count agrees with the specification's. -/
theorem okI_form : ∀ (t : T) (d left : Int), 0 ≤ d → (okI t d left).1 = true → formT t (7 - d) ∧ (okI t d left).2 = left - sizeT t
  | .mk k n s ks l, d, left, hd, h => by
    simp only [okI] at h ⊢
    split at h
    · rename_i hc
      rw [if_pos hc]
      obtain ⟨h1, h2, h3, h4, h5, h6, h7, h8, h9, h10, h11, h12, h13⟩ := hc
      have := okIL_form l (d + 1) (left - 1) (by omega) h
      simp only [formT, sizeT]
      refine ⟨⟨by omega, h3, h4, h5.imp id (fun h => List.eq_nil_of_length_eq_zero h), h6.imp id (fun h => List.eq_nil_of_length_eq_zero h), h7, h8, h9, h10, h11, fun hk => ⟨h12 hk, h13⟩, ?_⟩, by omega⟩
      rw [show 7 - d - 1 = 7 - (d + 1) by omega]; exact this.1
    · cases h
theorem okIL_form : ∀ (l : List T) (d left : Int), 0 ≤ d → (okIL l d left).1 = true → formL l (7 - d) ∧ (okIL l d left).2 = left - sizeL l
  | [], d, left, _, _ => by simp [okIL, formL, sizeL]
  | t :: r, d, left, hd, h => by
    simp only [okIL] at h ⊢
    split at h
    · rename_i hc
      rw [if_pos hc]
      have h1 := okI_form t d left hd hc
      have h2 := okIL_form r d _ hd h
      simp only [formL, sizeL]
      exact ⟨⟨h1.1, h2.1⟩, by omega⟩
    · cases h
end
end Go.Proofs.Pw
namespace Go.Proofs.Pw
mutual
theorem form_okI : ∀ (t : T) (d left : Int), 0 ≤ d → formT t (7 - d) → sizeT t ≤ left → (okI t d left).1 = true ∧ (okI t d left).2 = left - sizeT t
  | .mk k n s ks l, d, left, hd, h, hs => by
    simp only [formT, sizeT] at h hs
    obtain ⟨h1, h2, h3, h4, h5, h6, h7, h8, h9, h10, h11, h12⟩ := h
    have hz := (manyL_le l 0)
    have hk : okKeys ks := by
      rcases h4 with h4 | h4
      · exact (h11 h4).2
      · subst h4; exact okKeysN_zero []
    have hc : 1 ≤ left ∧ d ≤ 6 ∧ headOk k n s ks l := ⟨by omega, by omega, h2, h3, h4.imp id (fun h => by rw [h]; rfl), h5.imp id (fun h => by rw [h]; rfl), h6, h7, h8, h9, h10, fun h => (h11 h).1, hk⟩
    have := form_okIL l (d + 1) (left - 1) (by omega) (by rw [show 7 - (d + 1) = 7 - d - 1 by omega]; exact h12) (by omega)
    simp only [okI, sizeT]
    rw [if_pos hc]
    exact ⟨this.1, by omega⟩
theorem form_okIL : ∀ (l : List T) (d left : Int), 0 ≤ d → formL l (7 - d) → sizeL l ≤ left → (okIL l d left).1 = true ∧ (okIL l d left).2 = left - sizeL l
  | [], d, left, _, _, _ => by simp [okIL, sizeL]
  | t :: r, d, left, hd, h, hs => by
    simp only [formL, sizeL] at h hs
    have hz := (manyL_le r 0)
    have h1 := form_okI t d left hd h.1 (by omega)
    have h2 := form_okIL r d (okI t d left).2 hd h.2 (by omega)
    simp only [okIL, sizeL]
    rw [if_pos h1.1]
    exact ⟨h2.1, by omega⟩
end
mutual
theorem many_size : ∀ (t : T) (d : Int), formT t d → manyT t d = sizeT t
  | .mk k n s ks l, d, h => by
    simp only [formT] at h
    simp only [manyT, sizeT]
    have := manyL_size l d h.2.2.2.2.2.2.2.2.2.2.2
    omega
theorem manyL_size : ∀ (l : List T) (d : Int), formL l (d - 1) → manyL l d = sizeL l
  | [], d, _ => by simp [manyL, sizeL]
  | t :: l, d, h => by
    simp only [formL] at h
    have h1 := many_size t (d - 1) h.1
    have h2 := manyL_size l d h.2
    have h3 : 0 < d := by
      cases t with
      | mk k n s ks r => have := h.1; simp only [formT] at this; omega
    simp only [manyL, sizeL]
    rw [if_pos h3]; omega
end
/-- The program and the specification mean the same trees. -/
theorem okI_iff (t : T) : (okI t 1 60).1 = true ↔ okT t := by
  constructor
  · intro h
    have h1 := okI_form t 1 60 (by omega) h
    have h2 := okI_le t 1 60
    have h3 := many_size t 6 h1.1
    refine ⟨h1.1, ?_⟩
    have := h2.2 h
    omega
  · rintro ⟨h1, h2⟩
    have h3 := many_size t 6 h1
    exact (form_okI t 1 60 (by omega) h1 (by omega)).1
end Go.Proofs.Pw
namespace Go.Proofs.Pw
mutual
theorem okFI_form : ∀ (t : F) (d left : Int), 0 ≤ d → (okFI t d left).1 = true → formF t (8 - d) ∧ (okFI t d left).2 = left - sizeF t
  | .mk k n s v l, d, left, hd, h => by
    simp only [okFI] at h ⊢
    split at h
    · rename_i hc
      rw [if_pos hc]
      split at h
      · rename_i hr
        rw [if_pos hr]
        obtain ⟨h1, h2, h3, h4, h5, h6, h7, h8, h9, h10⟩ := hc
        have := okFIL_form l (d + 1) (left - 1) (by omega) hr
        simp only [formF, sizeF]
        refine ⟨⟨by omega, h5, h6, h9, h7, by omega, (okI_iff v).1 h10, ?_, by simpa using h⟩, by omega⟩
        rw [show 8 - d - 1 = 8 - (d + 1) by omega]; exact this.1
      · cases h
    · cases h
theorem okFIL_form : ∀ (l : List F) (d left : Int), 0 ≤ d → (okFIL l d left).1 = true → formFL l (8 - d) ∧ (okFIL l d left).2 = left - sizeFL l
  | [], d, left, _, _ => by simp [okFIL, formFL, sizeFL]
  | t :: r, d, left, hd, h => by
    simp only [okFIL] at h ⊢
    split at h
    · rename_i hc
      rw [if_pos hc]
      have h1 := okFI_form t d left hd hc
      have h2 := okFIL_form r d _ hd h
      simp only [formFL, sizeFL]
      exact ⟨⟨h1.1, h2.1⟩, by omega⟩
    · cases h
end
theorem kidsOf_range {k : Int} (h : 0 ≤ kidsOf k) : 1 ≤ k ∧ k ≤ 21 := by
  unfold kidsOf at h
  split at h
  · omega
  · split at h
    · omega
    · split at h
      · omega
      · split at h <;> omega
mutual
theorem form_okFI : ∀ (t : F) (d left : Int), 0 ≤ d → formF t (8 - d) → sizeF t ≤ left → (okFI t d left).1 = true ∧ (okFI t d left).2 = left - sizeF t
  | .mk k n s v l, d, left, hd, h, hs => by
    simp only [formF, sizeF] at h hs
    obtain ⟨h1, h2, h3, h4, h5, h6, h7, h8, h9⟩ := h
    have hz := (manyFL_le l 0)
    have hk := kidsOf_range (k := k) (by omega)
    have hc : 1 ≤ left ∧ d ≤ 7 ∧ headF k n s v l := ⟨by omega, by omega, hk.1, hk.2, h2, h3, h5, by omega, h4, (okI_iff v).2 h7⟩
    have := form_okFIL l (d + 1) (left - 1) (by omega) (by rw [show 8 - (d + 1) = 8 - d - 1 by omega]; exact h8) (by omega)
    simp only [okFI, sizeF]
    rw [if_pos hc, if_pos this.1]
    exact ⟨by simpa using h9, by simp only; omega⟩
theorem form_okFIL : ∀ (l : List F) (d left : Int), 0 ≤ d → formFL l (8 - d) → sizeFL l ≤ left → (okFIL l d left).1 = true ∧ (okFIL l d left).2 = left - sizeFL l
  | [], d, left, _, _, _ => by simp [okFIL, sizeFL]
  | t :: r, d, left, hd, h, hs => by
    simp only [formFL, sizeFL] at h hs
    have hz := (manyFL_le r 0)
    have h1 := form_okFI t d left hd h.1 (by omega)
    have h2 := form_okFIL r d (okFI t d left).2 hd h.2 (by omega)
    simp only [okFIL, sizeFL]
    rw [if_pos h1.1]
    exact ⟨h2.1, by omega⟩
end
mutual
theorem manyF_size : ∀ (t : F) (d : Int), formF t d → manyF t d = sizeF t
  | .mk k n s v l, d, h => by
    simp only [formF] at h
    simp only [manyF, sizeF]
    have := manyFL_size l d h.2.2.2.2.2.2.2.1
    omega
theorem manyFL_size : ∀ (l : List F) (d : Int), formFL l (d - 1) → manyFL l d = sizeFL l
  | [], d, _ => by simp [manyFL, sizeFL]
  | t :: l, d, h => by
    simp only [formFL] at h
    have h1 := manyF_size t (d - 1) h.1
    have h2 := manyFL_size l d h.2
    have h3 : 0 < d := by
      cases t with
      | mk k n s v r => have := h.1; simp only [formF] at this; omega
    simp only [manyFL, sizeFL]
    rw [if_pos h3]; omega
end
end Go.Proofs.Pw
/- Trees in new memory: what is told. -/
set_option linter.unusedSimpArgs false
set_option maxRecDepth 20000
namespace Go.Proofs.Pw
set_option linter.unusedSectionVars false
variable [Globs]
def x_told : X := (.seq (.reg [⟨some 2, none, .box (.t 0) (some 5)⟩, ⟨some 4, none, .alloc [(.c (.int .i64 0)), (.c (.int .i64 0)), (.c (.str ⟨#[]⟩)), (.z 1), (.z 5)]⟩, ⟨some 5, none, .mv (.k (.c (.bool false)))⟩] none [1, 2, 4]) (.seq (.seq (.reg [⟨some 6, none, .mv (.t 1)⟩, ⟨some 7, none, .not (.t 6)⟩, ⟨some 8, none, .mv (.t 7)⟩, ⟨some 9, some (8, false), .load (.t 2) (some 5)⟩, ⟨some 10, some (8, false), .call 35 [(.t 9)]⟩, ⟨some 11, some (8, false), .not (.t 10)⟩, ⟨some 12, none, .pick (.t 8) (.k (.c (.bool true))) (.t 11)⟩] none [2, 4, 12]) (.cond (.t 12) (.seq (.reg [⟨some 13, none, .build [(.c (.int .i64 0)), (.c (.int .i64 0)), (.c (.str ⟨#[]⟩)), (.z 1), (.z 5)] []⟩, ⟨none, none, .st (.t 4) (.t 13) (some 5)⟩, ⟨some 5, none, .mv (.k (.c (.bool false)))⟩] none [4, 5]) .ret) .skip)) (.seq (.reg [⟨some 14, none, .load (.t 2) (some 5)⟩, ⟨some 15, none, .call 64 [(.t 14)]⟩, ⟨none, none, .st (.t 4) (.t 15) (some 5)⟩, ⟨some 5, none, .mv (.k (.c (.bool true)))⟩] none [4, 5]) .ret)))
theorem chk_told : chkX Go.Proofs.Try.prog 16 (Go.Proofs.Try.f28.body.getD .skip) x_told = true := by kernel_rfl
theorem rs_told : okRs Go.Proofs.Try.prog Go.Proofs.Try.f28.results.toList [.cell 4 (some 5), .tmp 5] = true := by kernel_rfl
theorem call_told : okCallee Go.Proofs.Try.prog 28 = true := by kernel_rfl
def x_isRow : X := (.seq (.reg [⟨some 1, none, .box (.t 0) (some 5)⟩, ⟨some 2, none, .mv (.k (.c (.bool false)))⟩] none [1]) (.seq (.reg [⟨some 3, none, .load (.t 1) (some 5)⟩, ⟨some 4, none, .call 35 [(.t 3)]⟩, ⟨some 5, none, .mv (.t 4)⟩, ⟨some 6, some (5, true), .fa (.t 1) 0⟩, ⟨some 7, some (5, true), .load (.t 6) none⟩, ⟨some 8, some (5, true), .bin false .eql (.t 7) (.k (.c (.int .i64 5)))⟩, ⟨some 9, none, .pick (.t 5) (.t 8) (.k (.c (.bool false)))⟩, ⟨some 2, none, .mv (.t 9)⟩] none [2]) .ret))
theorem chk_isRow : chkX Go.Proofs.Try.prog 10 (Go.Proofs.Try.f27.body.getD .skip) x_isRow = true := by kernel_rfl
theorem rs_isRow : okRs Go.Proofs.Try.prog Go.Proofs.Try.f27.results.toList [.tmp 2] = true := by kernel_rfl
theorem call_isRow : okCallee Go.Proofs.Try.prog 27 = true := by kernel_rfl
def x_l1Copy : X := (.seq (.reg [⟨some 1, none, .box (.t 0) (some 5)⟩, ⟨some 2, none, .alloc [(.c (.int .i64 0)), (.c (.int .i64 0)), (.c (.str ⟨#[]⟩)), (.z 1), (.z 5)]⟩] none [1, 2]) (.seq (.mix [⟨some 5, none, .fa (.t 1) 0⟩, ⟨some 6, none, .load (.t 5) none⟩, ⟨some 7, none, .fa (.t 1) 1⟩, ⟨some 8, none, .load (.t 7) none⟩, ⟨some 9, none, .fa (.t 1) 2⟩, ⟨some 10, none, .load (.t 9) none⟩, ⟨some 11, none, .bsl 1 []⟩, ⟨some 12, none, .fa (.t 1) 3⟩, ⟨some 13, none, .load (.t 12) none⟩, ⟨some 14, none, .app (.t 11) (.t 13) 1 16 []⟩, ⟨some 15, none, .build [(.c (.int .i64 0)), (.c (.int .i64 0)), (.c (.str ⟨#[]⟩)), (.z 1), (.z 5)] [(0, (.t 6), none), (1, (.t 8), none), (2, (.t 10), none), (3, (.t 14), none)]⟩, ⟨some 3, none, .alloc [(.c (.int .i64 0)), (.c (.int .i64 0)), (.c (.str ⟨#[]⟩)), (.z 1), (.z 5)]⟩] [⟨none, none, .st (.t 3) (.t 15) (some 5)⟩] [[], [], [], [], [], [], [], [], [], [0, 1, 2, 3, 4, 5], [], [0, 1, 2, 3, 4, 5, 7, 8, 9, 10]] [1, 2, 3]) (.seq (.seq (.reg [⟨some 4, none, .mv (.k (.c (.int .i64 0)))⟩] none [1, 2, 3, 4]) (.block 0 (.loop (.seq (.seq (.reg [⟨some 16, none, .mv (.t 4)⟩, ⟨some 17, none, .fa (.t 1) 4⟩, ⟨some 18, none, .load (.t 17) none⟩, ⟨some 19, none, .len (.t 18) false⟩, ⟨some 20, none, .bin false .lss (.t 16) (.t 19)⟩] none [1, 2, 3, 4, 20]) (.cond (.t 20) .skip (.exit 0))) (.seq (.block 1 (.reg [⟨some 23, none, .fa (.t 3) 4⟩, ⟨some 24, none, .load (.t 23) none⟩, ⟨some 25, none, .fa (.t 1) 4⟩, ⟨some 26, none, .load (.t 25) none⟩, ⟨some 27, none, .mv (.t 4)⟩, ⟨some 28, none, .ia (.t 26) (.t 27) 5⟩, ⟨some 29, none, .load (.t 28) (some 5)⟩, ⟨some 30, none, .call 65 [(.t 29)]⟩, ⟨some 31, none, .bsl 5 [((.t 30), (some 5))]⟩, ⟨some 32, none, .app (.t 24) (.t 31) 5 80 []⟩, ⟨some 33, none, .fa (.t 3) 4⟩, ⟨none, none, .st (.t 33) (.t 32) none⟩] (some 9) [1, 2, 3, 4])) (.reg [⟨some 21, none, .mv (.t 4)⟩, ⟨some 22, none, .bin false .add (.t 21) (.k (.c (.int .i64 1)))⟩, ⟨some 4, none, .mv (.t 22)⟩] none [1, 2, 3, 4])))))) (.seq (.reg [⟨some 34, none, .load (.t 3) (some 5)⟩, ⟨none, none, .st (.t 2) (.t 34) (some 5)⟩] none [2]) .ret))))
theorem chk_l1Copy : chkX Go.Proofs.Try.prog 35 (Go.Proofs.Try.f65.body.getD .skip) x_l1Copy = true := by kernel_rfl
theorem rs_l1Copy : okRs Go.Proofs.Try.prog Go.Proofs.Try.f65.results.toList [.cell 2 (some 5)] = true := by kernel_rfl
theorem call_l1Copy : okCallee Go.Proofs.Try.prog 65 = true := by kernel_rfl
def x_l2Told : X := (.seq (.reg [⟨some 1, none, .box (.t 0) (some 5)⟩, ⟨some 2, none, .alloc [(.c (.int .i64 0)), (.c (.int .i64 0)), (.c (.str ⟨#[]⟩)), (.z 1), (.z 5)]⟩, ⟨some 3, none, .mv (.k (.c (.bool false)))⟩] none [1, 2]) (.seq (.seq (.reg [⟨some 4, none, .load (.t 1) (some 5)⟩, ⟨some 5, none, .call 63 [(.t 4)]⟩, ⟨some 6, none, .not (.t 5)⟩] none [1, 2, 6]) (.cond (.t 6) (.seq (.reg [⟨some 7, none, .build [(.c (.int .i64 0)), (.c (.int .i64 0)), (.c (.str ⟨#[]⟩)), (.z 1), (.z 5)] []⟩, ⟨none, none, .st (.t 2) (.t 7) (some 5)⟩, ⟨some 3, none, .mv (.k (.c (.bool false)))⟩] none [2, 3]) .ret) .skip)) (.seq (.reg [⟨some 8, none, .load (.t 1) (some 5)⟩, ⟨some 9, none, .call 65 [(.t 8)]⟩, ⟨none, none, .st (.t 2) (.t 9) (some 5)⟩, ⟨some 3, none, .mv (.k (.c (.bool true)))⟩] none [2, 3]) .ret)))
theorem chk_l2Told : chkX Go.Proofs.Try.prog 10 (Go.Proofs.Try.f31.body.getD .skip) x_l2Told = true := by kernel_rfl
theorem rs_l2Told : okRs Go.Proofs.Try.prog Go.Proofs.Try.f31.results.toList [.cell 2 (some 5), .tmp 3] = true := by kernel_rfl
theorem call_l2Told : okCallee Go.Proofs.Try.prog 31 = true := by kernel_rfl
def x_l4Row : X := (.seq (.reg [⟨some 1, none, .box (.t 0) (some 5)⟩, ⟨some 2, none, .mv (.k (.c (.bool false)))⟩] none [1]) (.seq (.reg [⟨some 3, none, .load (.t 1) (some 5)⟩, ⟨some 4, none, .call 63 [(.t 3)]⟩, ⟨some 5, none, .mv (.t 4)⟩, ⟨some 6, some (5, true), .fa (.t 1) 0⟩, ⟨some 7, some (5, true), .load (.t 6) none⟩, ⟨some 8, some (5, true), .bin false .eql (.t 7) (.k (.c (.int .i64 5)))⟩, ⟨some 9, none, .pick (.t 5) (.t 8) (.k (.c (.bool false)))⟩, ⟨some 2, none, .mv (.t 9)⟩] none [2]) .ret))
theorem chk_l4Row : chkX Go.Proofs.Try.prog 10 (Go.Proofs.Try.f29.body.getD .skip) x_l4Row = true := by kernel_rfl
theorem rs_l4Row : okRs Go.Proofs.Try.prog Go.Proofs.Try.f29.results.toList [.tmp 2] = true := by kernel_rfl
theorem call_l4Row : okCallee Go.Proofs.Try.prog 29 = true := by kernel_rfl
def T.kind : T → Int | .mk k _ _ _ _ => k
def T.n : T → Int | .mk _ n _ _ _ => n
def T.s : T → ByteArray | .mk _ _ s _ _ => s
def T.keys : T → List ByteArray | .mk _ _ _ ks _ => ks
def T.list : T → List T | .mk _ _ _ _ l => l
theorem foldT0 (k n : Int) (s : ByteArray) (l : List T) : DV.agg [C.int .i64 k, C.int .i64 n, C.str s, C.row 1 [], C.row 5 (encL l)] = DV.agg (T.mk k n s [] l).enc := rfl
theorem foldT2 (k n : Int) (s : ByteArray) : DV.agg [C.int .i64 k, C.int .i64 n, C.str s, C.row 1 [], C.row 5 []] = DV.agg (T.mk k n s [] []).enc := rfl
open Classical in
noncomputable def toldT (b : Bool) (t : T) : T := if b = true ∧ okT t then t else T.zero
def rowT (t : T) : Prop := okT t ∧ t.kind = 5
noncomputable instance (t : T) : Decidable (rowT t) := Classical.propDecidable _
theorem foldT (k n : Int) (s : ByteArray) (ks : List ByteArray) (l : List T) : DV.agg [C.int .i64 k, C.int .i64 n, C.str s, C.row 1 (strs ks), C.row 5 (encL l)] = DV.agg (T.mk k n s ks l).enc := rfl
noncomputable def spTold  : Spec := Spec.of (ι := T × Bool) [false, false] (fun i => [.d (.agg i.1.enc), .d (.one (.bool i.2))]) (fun i => i.1.fit 2000000) (fun i => [.d (.agg (toldT i.2 i.1).enc), .d (.one (.bool (decide (i.2 = true ∧ okT i.1))))]) (fun _ => [.gone, .gone])
theorem spTold_inj : ∀ i j : T × Bool, (fun (i : T × Bool) => ([.d (.agg i.1.enc), .d (.one (.bool i.2))] : List AV)) i = (fun (i : T × Bool) => ([.d (.agg i.1.enc), .d (.one (.bool i.2))] : List AV)) j → i = j := by
  rintro ⟨t, b⟩ ⟨t', b'⟩ h
  simp only [Prod.mk.injEq]
  simpa [strs_eq, T.enc_eq, encL_eq, F.enc_eq, encF_eq, Tk.enc_eq, encTk_eq, Gn.enc_eq, ints_eq] using h
theorem spTold_md  : (spTold).md = [false, false] := rfl
theorem spTold_pre  (t : T) (b : Bool) : (spTold).pre [.d (.agg t.enc), .d (.one (.bool b))] = (t.fit 2000000) := Spec.of_pre' spTold_inj (t, b)
theorem spTold_alts  : (spTold).alts = none := rfl
theorem spTold_res  (t : T) (b : Bool) : (spTold).res [.d (.agg t.enc), .d (.one (.bool b))] = [.d (.agg (toldT b t).enc), .d (.one (.bool (decide (b = true ∧ okT t))))] := Spec.of_res spTold_inj (t, b)
theorem spTold_out  (t : T) (b : Bool) : (spTold).out [.d (.agg t.enc), .d (.one (.bool b))] = [.gone, .gone] := Spec.of_out spTold_inj (t, b)
theorem told_sound : Sound Go.Proofs.Try.prog 28 spTold := by
  refine sound_fam (GOK.cons (l := [(64, spCloneT)]) call_ValOkI valOkI_sound (GOK.cons call_clone cloneT_sound GOK.nil)) Go.Proofs.Try.func28 (c := Go.Proofs.Try.f28.body.getD .skip) rfl (n := 16) rfl chk_told rs_told (fun _ => by simp) ?_ ?_
  · exact spTold_inj
  · rintro ⟨t, b⟩ h1
    change t.fit 2000000 at h1
    have f1 : t.fit 140737488355328 := T.fit_mono (by decide) h1
    have f3 := T.enc_len t
    have f4 := okI_iff t
    cases b with
    | false =>
      simp only [x_told, rg, go_sem, seval, toldT, f3, f4, spValOkI_md, spValOkI_pre, spValOkI_alts, spValOkI_res, spValOkI_out, spCloneT_md, spCloneT_pre, spCloneT_alts, spCloneT_res, spCloneT_out]
      simp [T.zero_enc]
    | true =>
      by_cases c : okT t
      · simp only [x_told, rg, go_sem, seval, toldT, f3, f4, c, spValOkI_md, spValOkI_pre, spValOkI_alts, spValOkI_res, spValOkI_out, spCloneT_md, spCloneT_pre, spCloneT_alts, spCloneT_res, spCloneT_out]
        exact ⟨f1, fun _ => h1⟩
      · simp only [x_told, rg, go_sem, seval, toldT, f3, f4, c, spValOkI_md, spValOkI_pre, spValOkI_alts, spValOkI_res, spValOkI_out, spCloneT_md, spCloneT_pre, spCloneT_alts, spCloneT_res, spCloneT_out]
        exact ⟨f1, fun _ => T.zero_enc⟩
noncomputable def spIsRow  : Spec := Spec.of (ι := T) [false] (fun i => [.d (.agg i.enc)]) (fun i => i.fit 140737488355328) (fun i => [.d (.one (.bool (decide (rowT i))))]) (fun _ => [.gone])
theorem spIsRow_inj : ∀ i j : T, (fun (i : T) => ([.d (.agg i.enc)] : List AV)) i = (fun (i : T) => ([.d (.agg i.enc)] : List AV)) j → i = j := by
  intro t t' h
  simpa [strs_eq, T.enc_eq, encL_eq, F.enc_eq, encF_eq, Tk.enc_eq, encTk_eq, Gn.enc_eq, ints_eq] using h
theorem spIsRow_md  : (spIsRow).md = [false] := rfl
theorem spIsRow_pre  (t : T) : (spIsRow).pre [.d (.agg t.enc)] = (t.fit 140737488355328) := Spec.of_pre' spIsRow_inj t
theorem spIsRow_alts  : (spIsRow).alts = none := rfl
theorem spIsRow_res  (t : T) : (spIsRow).res [.d (.agg t.enc)] = [.d (.one (.bool (decide (rowT t))))] := Spec.of_res spIsRow_inj t
theorem spIsRow_out  (t : T) : (spIsRow).out [.d (.agg t.enc)] = [.gone] := Spec.of_out spIsRow_inj t
theorem isRow_sound : Sound Go.Proofs.Try.prog 27 spIsRow := by
  refine sound_fam (GOK.cons call_ValOkI valOkI_sound GOK.nil) Go.Proofs.Try.func27 (c := Go.Proofs.Try.f27.body.getD .skip) rfl (n := 10) rfl chk_isRow rs_isRow (fun _ => by simp) ?_ ?_
  · exact spIsRow_inj
  · rintro t h1
    have f3 := T.enc_len t
    have f4 := okI_iff t
    obtain ⟨k, n, s, ks, l⟩ := t
    by_cases c : okT (.mk k n s ks l)
    · simp only [x_isRow, rg, go_sem, seval, rowT, T.kind, T.enc, foldT, f3, f4, c, spValOkI_md, spValOkI_pre, spValOkI_alts, spValOkI_res, spValOkI_out]
      exact h1
    · simp only [x_isRow, rg, go_sem, seval, rowT, T.kind, T.enc, foldT, f3, f4, c, spValOkI_md, spValOkI_pre, spValOkI_alts, spValOkI_res, spValOkI_out]
      exact ⟨h1, fun _ => by simp⟩
noncomputable def spL4Row  : Spec := Spec.of (ι := T) [false] (fun i => [.d (.agg i.enc)]) (fun i => i.fit 140737488355328 ∧ sizeT i ≤ 1048577) (fun i => [.d (.one (.bool (decide (rowT i))))]) (fun _ => [.gone])
theorem spL4Row_inj : ∀ i j : T, (fun (i : T) => ([.d (.agg i.enc)] : List AV)) i = (fun (i : T) => ([.d (.agg i.enc)] : List AV)) j → i = j := by
  intro t t' h
  simpa [strs_eq, T.enc_eq, encL_eq, F.enc_eq, encF_eq, Tk.enc_eq, encTk_eq, Gn.enc_eq, ints_eq] using h
theorem spL4Row_md  : (spL4Row).md = [false] := rfl
theorem spL4Row_pre  (t : T) : (spL4Row).pre [.d (.agg t.enc)] = (t.fit 140737488355328 ∧ sizeT t ≤ 1048577) := Spec.of_pre' spL4Row_inj t
theorem spL4Row_alts  : (spL4Row).alts = none := rfl
theorem spL4Row_res  (t : T) : (spL4Row).res [.d (.agg t.enc)] = [.d (.one (.bool (decide (rowT t))))] := Spec.of_res spL4Row_inj t
theorem spL4Row_out  (t : T) : (spL4Row).out [.d (.agg t.enc)] = [.gone] := Spec.of_out spL4Row_inj t
theorem l4Row_sound : Sound Go.Proofs.Try.prog 29 spL4Row := by
  refine sound_fam (GOK.cons call_ValOk sOkT_sound GOK.nil) Go.Proofs.Try.func29 (c := Go.Proofs.Try.f29.body.getD .skip) rfl (n := 10) rfl chk_l4Row rs_l4Row (fun _ => by simp) ?_ ?_
  · exact spL4Row_inj
  · rintro t h1
    have f3 := T.enc_len t
    obtain ⟨k, n, s, ks, l⟩ := t
    by_cases c : okT (.mk k n s ks l)
    · simp only [x_l4Row, rg, go_sem, seval, rowT, T.kind, T.enc, foldT, f3, c, spOkT_md, spOkT_pre, spOkT_alts, spOkT_res, spOkT_out]
      exact h1
    · simp only [x_l4Row, rg, go_sem, seval, rowT, T.kind, T.enc, foldT, f3, c, spOkT_md, spOkT_pre, spOkT_alts, spOkT_res, spOkT_out]
      exact ⟨h1, fun _ => by simp⟩
noncomputable def spCopy (k:Nat) : Spec := Spec.of (ι := T) [false] (fun i => [.d (.agg i.enc)]) (fun i => (i.fit 2000000) ∧ SizeOf.sizeOf i < k) (fun i => [.d (.agg i.enc)]) (fun _ => [.gone])
theorem spCopy_inj : ∀ i j : T, (fun (i : T) => ([.d (.agg i.enc)] : List AV)) i = (fun (i : T) => ([.d (.agg i.enc)] : List AV)) j → i = j := by
  intro t t' h
  simpa [strs_eq, T.enc_eq, encL_eq, F.enc_eq, encF_eq, Tk.enc_eq, encTk_eq, Gn.enc_eq, ints_eq] using h
theorem spCopy_md (k:Nat) : (spCopy k).md = [false] := rfl
theorem spCopy_pre (k:Nat) (t : T) : (spCopy k).pre [.d (.agg t.enc)] = ((t.fit 2000000) ∧ SizeOf.sizeOf t < k) := Spec.of_pre' spCopy_inj t
theorem spCopy_alts (k:Nat) : (spCopy k).alts = none := rfl
theorem spCopy_res (k:Nat) (t : T) : (spCopy k).res [.d (.agg t.enc)] = [.d (.agg t.enc)] := Spec.of_res spCopy_inj t
theorem spCopy_out (k:Nat) (t : T) : (spCopy k).out [.d (.agg t.enc)] = [.gone] := Spec.of_out spCopy_inj t
theorem spCopy_all (k:Nat) (t : T) (F : List AV → List AV → Prop) : (spCopy k).all [.d (.agg t.enc)] F = F [.d (.agg t.enc)] [.gone] := by rw [Spec.all_fn rfl, spCopy_res, spCopy_out]
theorem spCopy_ne (k:Nat) (t : T) : (spCopy k).ne [.d (.agg t.enc)] = True := Spec.ne_fn rfl _
set_option maxHeartbeats 1000000 in
theorem copy_sound (k : Nat) (hS : Sound Go.Proofs.Try.prog 65 (spCopy k)) : Sound Go.Proofs.Try.prog 65 (spCopy (k + 1)) := by
  refine sound_fam (GOK.cons call_l1Copy hS GOK.nil) Go.Proofs.Try.func65 (c := Go.Proofs.Try.f65.body.getD .skip) rfl (n := 35) rfl chk_l1Copy rs_l1Copy (fun _ => by simp) ?_ ?_
  · exact spCopy_inj
  · rintro t ⟨h1, h4⟩
    obtain ⟨kk, n, s, ks, l⟩ := t
    simp only [T.fit, lenB, strsFit] at h1
    obtain ⟨_, _, f1, ⟨f2, _⟩, f3, f4⟩ := h1
    have e3 : SizeOf.sizeOf l < k := by have e : SizeOf.sizeOf (T.mk kk n s ks l) < k + 1 := h4
                                        rw [T.mk.sizeOf_spec] at e; omega
    simp only [x_l1Copy, T.enc, go_sem, seval, Prod.fst, rg, strs_len, encL_len]
    repeat' (first | with_reducible assumption | with_reducible refine And.intro ?_ ?_ | intro _)
    all_goals first | omega | skip
    refine pw_loop (ι := Nat) (fun i => l.length - i) (fun i => i ≤ l.length)
      (fun i => ⟨[(1, .q (.box 1 0)), (2, .q (.box 2 0)), (3, .q (.box 3 0)), (4, .q (.c (.int .i64 i)))],
        [(1, [.c (.int .i64 kk), .c (.int .i64 n), .c (.str s), .c (.row 1 (strs ks)), .c (.row 5 (encL l))]), (2, [.c (.int .i64 0), .c (.int .i64 0), .c (.str ⟨#[]⟩), .z 1, .z 5]), (3, [.c (.int .i64 kk), .c (.int .i64 n), .c (.str s), .own 14, .own 32])], [(14, 1, strs ks), (32, 5, encL (l.take i))]⟩) 0 (Nat.zero_le _) ?_ ?_
    · refine (Le.ownB (b := 3) (j := 4) (d := 32) (sz := 5) (qs := [.c (.int .i64 kk), .c (.int .i64 n), .c (.str s), .own 14, .z 5]) (by decide) (by simp) rfl (by simp [Q.killO]) (by simp [PV.map, Q.killO])).trans (Le.of_eq ?_)
      simp [upd, del, encL]
    · intro i hi
      rcases Nat.lt_or_ge i l.length with hlt | hge
      · obtain ⟨t, ht, _, hmem⟩ := drop_at hlt
        have a1 := encL_at ht
        have a2 : ((i : Int) < (l.length : Int)) = True := by simp; omega
        have a3 := fitL_mem f4 t hmem
        have a4 := size_mem hmem
        have a6 := T.enc_len t
        have a7 : (l.take i).length = i := by simp; omega
        simp only [go_sem, seval, Prod.fst, rg, a1, a2, a6, a7, encL_len, spCopy_md, spCopy_pre, spCopy_alts, spCopy_res, spCopy_out, spCopy_md, spCopy_pre, spCopy_ne, ↓spCopy_all, spCopy_all]
        repeat' (first | with_reducible assumption | with_reducible refine And.intro ?_ ?_ | intro _)
        all_goals first | omega | skip
        refine ⟨i + 1, by omega, by omega, ?_⟩
        rw [encL_take ht]
        exact Le.sub (by simp) (by simp) (by simp)
      · have a2 : ((i : Int) < (l.length : Int)) = False := by simp; omega
        simp only [go_sem, seval, Prod.fst, rg, a2, List.take_of_length_le hge]
theorem copy_all (k : Nat) : Sound Go.Proofs.Try.prog 65 (spCopy k) := by
  induction k with
  | zero => exact Sound.none
  | succ k ih => exact copy_sound k ih
noncomputable def spCopyT  : Spec := Spec.of (ι := T) [false] (fun i => [.d (.agg i.enc)]) (fun i => i.fit 2000000) (fun i => [.d (.agg i.enc)]) (fun _ => [.gone])
theorem spCopyT_inj : ∀ i j : T, (fun (i : T) => ([.d (.agg i.enc)] : List AV)) i = (fun (i : T) => ([.d (.agg i.enc)] : List AV)) j → i = j := by
  intro t t' h
  simpa [strs_eq, T.enc_eq, encL_eq, F.enc_eq, encF_eq, Tk.enc_eq, encTk_eq, Gn.enc_eq, ints_eq] using h
theorem spCopyT_md  : (spCopyT).md = [false] := rfl
theorem spCopyT_pre  (t : T) : (spCopyT).pre [.d (.agg t.enc)] = (t.fit 2000000) := Spec.of_pre' spCopyT_inj t
theorem spCopyT_alts  : (spCopyT).alts = none := rfl
theorem spCopyT_res  (t : T) : (spCopyT).res [.d (.agg t.enc)] = [.d (.agg t.enc)] := Spec.of_res spCopyT_inj t
theorem spCopyT_out  (t : T) : (spCopyT).out [.d (.agg t.enc)] = [.gone] := Spec.of_out spCopyT_inj t
theorem copyT_sound : Sound Go.Proofs.Try.prog 65 spCopyT := Sound.all (μ := fun i => SizeOf.sizeOf i) copy_all
noncomputable def spL2Told  : Spec := Spec.of (ι := T) [false] (fun i => [.d (.agg i.enc)]) (fun i => i.fit 2000000 ∧ sizeT i ≤ 1048577) (fun i => [.d (.agg (toldT true i).enc), .d (.one (.bool (decide (okT i))))]) (fun _ => [.gone])
theorem spL2Told_inj : ∀ i j : T, (fun (i : T) => ([.d (.agg i.enc)] : List AV)) i = (fun (i : T) => ([.d (.agg i.enc)] : List AV)) j → i = j := by
  intro t t' h
  simpa [strs_eq, T.enc_eq, encL_eq, F.enc_eq, encF_eq, Tk.enc_eq, encTk_eq, Gn.enc_eq, ints_eq] using h
theorem spL2Told_md  : (spL2Told).md = [false] := rfl
theorem spL2Told_pre  (t : T) : (spL2Told).pre [.d (.agg t.enc)] = (t.fit 2000000 ∧ sizeT t ≤ 1048577) := Spec.of_pre' spL2Told_inj t
theorem spL2Told_alts  : (spL2Told).alts = none := rfl
theorem spL2Told_res  (t : T) : (spL2Told).res [.d (.agg t.enc)] = [.d (.agg (toldT true t).enc), .d (.one (.bool (decide (okT t))))] := Spec.of_res spL2Told_inj t
theorem spL2Told_out  (t : T) : (spL2Told).out [.d (.agg t.enc)] = [.gone] := Spec.of_out spL2Told_inj t
theorem l2Told_sound : Sound Go.Proofs.Try.prog 31 spL2Told := by
  refine sound_fam (GOK.cons (l := [(65, spCopyT)]) call_ValOk sOkT_sound (GOK.cons call_l1Copy copyT_sound GOK.nil)) Go.Proofs.Try.func31 (c := Go.Proofs.Try.f31.body.getD .skip) rfl (n := 10) rfl chk_l2Told rs_l2Told (fun _ => by simp) ?_ ?_
  · exact spL2Told_inj
  · rintro t ⟨h1, h2⟩
    have f1 : t.fit 140737488355328 := T.fit_mono (by decide) h1
    have f3 := T.enc_len t
    by_cases c : okT t
    · simp only [x_l2Told, rg, go_sem, seval, toldT, f3, c, spOkT_md, spOkT_pre, spOkT_alts, spOkT_res, spOkT_out, spCopyT_md, spCopyT_pre, spCopyT_alts, spCopyT_res, spCopyT_out]
      exact ⟨⟨f1, h2⟩, fun _ => h1⟩
    · simp only [x_l2Told, rg, go_sem, seval, toldT, f3, c, spOkT_md, spOkT_pre, spOkT_alts, spOkT_res, spOkT_out, spCopyT_md, spCopyT_pre, spCopyT_alts, spCopyT_res, spCopyT_out]
      exact ⟨⟨f1, h2⟩, fun _ => T.zero_enc⟩
end Go.Proofs.Pw
/- The order of trees. -/
namespace Go.Proofs.Pw
/-- A comparison: a total order, told by a number. -/
structure IsCmp {α : Type} (f : α → α → Int) : Prop where
  rng : ∀ a b, f a b = -1 ∨ f a b = 0 ∨ f a b = 1
  eq : ∀ a b, f a b = 0 ↔ a = b
  anti : ∀ a b, f b a = - f a b
  trans : ∀ a b c, f a b = -1 → f b c = -1 → f a c = -1
def cmpI (a b : Int) : Int := if a < b then -1 else if b < a then 1 else 0
theorem cmpI_is : IsCmp cmpI := by
  refine ⟨fun a b => ?_, fun a b => ?_, fun a b => ?_, fun a b c => ?_⟩ <;> simp only [cmpI] <;> repeat' split
  all_goals omega
theorem sl_irrefl (a : ByteArray) : ¬ sl a a := fun h => (sl_tri a a).2 h (.inr rfl)
theorem sl_asymm {a b : ByteArray} (h : sl a b) : ¬ sl b a := fun k => (sl_tri a b).2 k (.inl h)
theorem sl_or (a b : ByteArray) : sl a b ∨ a = b ∨ sl b a := by
  by_cases h : sl a b ∨ a = b
  · rcases h with h | h
    · exact .inl h
    · exact .inr (.inl h)
  · exact .inr (.inr ((sl_tri a b).1 h))
theorem bl_trans : ∀ (x y z : List UInt8), Op.bytesLess x y = true → Op.bytesLess y z = true → Op.bytesLess x z = true := by
  intro x
  induction x with
  | nil => intro y z h k; cases y <;> cases z <;> simp [Op.bytesLess] at *
  | cons a x ih =>
    intro y z h k
    cases y with
    | nil => simp [Op.bytesLess] at h
    | cons b y =>
      cases z with
      | nil => simp [Op.bytesLess] at k
      | cons c z =>
        simp only [Op.bytesLess, Bool.or_eq_true, decide_eq_true_eq, Bool.and_eq_true, beq_iff_eq] at h k ⊢
        rcases h with h | ⟨rfl, h⟩
        · rcases k with k | ⟨rfl, k⟩
          · exact .inl (UInt8.lt_trans h k)
          · exact .inl h
        · rcases k with k | ⟨rfl, k⟩
          · exact .inl k
          · exact .inr ⟨rfl, ih _ _ h k⟩
theorem sl_trans {a b c : ByteArray} (h : sl a b) (k : sl b c) : sl a c := bl_trans _ _ _ h k
def cmpS (a b : ByteArray) : Int := if sl a b then -1 else if sl b a then 1 else 0
theorem cmpS_is : IsCmp cmpS := by
  refine ⟨fun a b => ?_, fun a b => ?_, fun a b => ?_, fun a b c => ?_⟩ <;> simp only [cmpS]
  · repeat' split
    all_goals omega
  · rcases sl_or a b with h | rfl | h
    · rw [if_pos h]; exact ⟨fun e => by omega, fun e => by subst e; exact absurd h (sl_irrefl a)⟩
    · simp [sl_irrefl]
    · rw [if_neg (sl_asymm h), if_pos h]; exact ⟨fun e => by omega, fun e => by subst e; exact absurd h (sl_irrefl a)⟩
  · rcases sl_or a b with h | rfl | h
    · simp [h, sl_asymm h]
    · simp [sl_irrefl]
    · simp [h, sl_asymm h]
  · intro h k
    have h' : sl a b := by
      by_cases e : sl a b
      · exact e
      · rw [if_neg e] at h; split at h <;> omega
    have k' : sl b c := by
      by_cases e : sl b c
      · exact e
      · rw [if_neg e] at k; split at k <;> omega
    rw [if_pos (sl_trans h' k')]
/-- First by the one, then by the other. -/
def thenI (a b : Int) : Int := if a = 0 then b else a
/-- By the first that differs; what is shorter is ahead. -/
def cmpL {α : Type} (f : α → α → Int) : List α → List α → Int
  | [], [] => 0
  | [], _ :: _ => -1
  | _ :: _, [] => 1
  | a :: x, b :: y => thenI (f a b) (cmpL f x y)
/-- What is asked of a comparison at one element, against all others. -/
structure CmpAt {α : Type} (f : α → α → Int) (a : α) : Prop where
  rng : ∀ b, f a b = -1 ∨ f a b = 0 ∨ f a b = 1
  eq : ∀ b, f a b = 0 ↔ a = b
  anti : ∀ b, f b a = - f a b
  trans : ∀ b c, f a b = -1 → f b c = -1 → f a c = -1
theorem IsCmp.at {α : Type} {f : α → α → Int} (h : IsCmp f) (a : α) : CmpAt f a := ⟨h.rng a, h.eq a, h.anti a, h.trans a⟩
mutual
def cmpT : T → T → Int
  | .mk k n s ks l, .mk k' n' s' ks' l' => thenI (cmpI k k') (thenI (cmpI n n') (thenI (cmpS s s') (thenI (cmpL cmpS ks ks') (cmpTL l l'))))
def cmpTL : List T → List T → Int
  | [], [] => 0
  | [], _ :: _ => -1
  | _ :: _, [] => 1
  | a :: x, b :: y => thenI (cmpT a b) (cmpTL x y)
end
theorem thenI_rng {a b : Int} (h : a = -1 ∨ a = 0 ∨ a = 1) (k : b = -1 ∨ b = 0 ∨ b = 1) : thenI a b = -1 ∨ thenI a b = 0 ∨ thenI a b = 1 := by
  unfold thenI; split <;> assumption
theorem thenI_zero {a b : Int} : thenI a b = 0 ↔ a = 0 ∧ b = 0 := by
  unfold thenI; split <;> simp_all
theorem thenI_neg {a b : Int} : thenI (-a) (-b) = - thenI a b := by
  unfold thenI; split <;> split <;> omega
/-- Two keys, one behind the other. -/
theorem thenI_trans {α β : Type} {f : α → α → Int} {g : β → β → Int} {a b c : α} {x y z : β} (heq : ∀ u v, f u v = 0 ↔ u = v) (hf : f a b = -1 → f b c = -1 → f a c = -1) (hg : g x y = -1 → g y z = -1 → g x z = -1)
    (h : thenI (f a b) (g x y) = -1) (k : thenI (f b c) (g y z) = -1) : thenI (f a c) (g x z) = -1 := by
  unfold thenI at *
  by_cases h1 : f a b = 0
  · have := (heq a b).1 h1; subst this
    rw [if_pos h1] at h
    by_cases h2 : f a c = 0
    · rw [if_pos h2] at k ⊢; exact hg h k
    · rw [if_neg h2] at k ⊢; exact k
  · rw [if_neg h1] at h
    by_cases h2 : f b c = 0
    · have := (heq b c).1 h2; subst this
      rw [if_neg h1]; exact h
    · rw [if_neg h2] at k
      have := hf h k
      rw [if_neg (by omega)]; exact this
theorem cmpL_is {α : Type} {f : α → α → Int} (h : IsCmp f) : IsCmp (cmpL f) := by
  have key : ∀ a, CmpAt (cmpL f) a := by
    intro a
    induction a with
    | nil =>
      refine ⟨fun b => ?_, fun b => ?_, fun b => ?_, fun b c => ?_⟩
      · cases b <;> simp [cmpL]
      · cases b <;> simp [cmpL]
      · cases b <;> simp [cmpL]
      · cases b <;> cases c <;> simp [cmpL]
    | cons x a ih =>
      refine ⟨fun b => ?_, fun b => ?_, fun b => ?_, fun b c => ?_⟩
      · cases b with
        | nil => simp [cmpL]
        | cons y b => exact thenI_rng (h.rng x y) (ih.rng b)
      · cases b with
        | nil => simp [cmpL]
        | cons y b => simp only [cmpL, thenI_zero, h.eq, ih.eq, List.cons.injEq]
      · cases b with
        | nil => simp [cmpL]
        | cons y b => simp only [cmpL]; rw [h.anti x y, ih.anti b, thenI_neg]
      · cases b with
        | nil => simp [cmpL]
        | cons y b =>
          cases c with
          | nil => intro _ k; simp [cmpL] at k
          | cons z c => exact fun h1 h2 => thenI_trans h.eq (h.trans x y z) (ih.trans b c) h1 h2
  exact ⟨fun a => (key a).rng, fun a => (key a).eq, fun a => (key a).anti, fun a => (key a).trans⟩
theorem cmpK_is : IsCmp (cmpL cmpS) := cmpL_is cmpS_is
mutual
theorem cmpT_at : ∀ (a : T), CmpAt cmpT a
  | .mk k n s ks l => by
    have ih := cmpTL_at l
    refine ⟨fun b => ?_, fun b => ?_, fun b => ?_, fun b c => ?_⟩
    · obtain ⟨k', n', s', ks', l'⟩ := b
      exact thenI_rng (cmpI_is.rng _ _) (thenI_rng (cmpI_is.rng _ _) (thenI_rng (cmpS_is.rng _ _) (thenI_rng (cmpK_is.rng _ _) (ih.rng _))))
    · obtain ⟨k', n', s', ks', l'⟩ := b
      simp only [cmpT, thenI_zero, cmpI_is.eq, cmpS_is.eq, cmpK_is.eq, ih.eq, T.mk.injEq]
    · obtain ⟨k', n', s', ks', l'⟩ := b
      simp only [cmpT]
      rw [cmpI_is.anti k k', cmpI_is.anti n n', cmpS_is.anti s s', cmpK_is.anti ks ks', ih.anti l', thenI_neg, thenI_neg, thenI_neg, thenI_neg]
    · obtain ⟨k', n', s', ks', l'⟩ := b
      obtain ⟨k2, n2, s2, ks2, l2⟩ := c
      simp only [cmpT]
      exact thenI_trans cmpI_is.eq (cmpI_is.trans _ _ _) (thenI_trans (f := cmpI) (g := fun (u v : ByteArray × List ByteArray × List T) => thenI (cmpS u.1 v.1) (thenI (cmpL cmpS u.2.1 v.2.1) (cmpTL u.2.2 v.2.2))) (x := (s, ks, l)) (y := (s', ks', l')) (z := (s2, ks2, l2)) cmpI_is.eq (cmpI_is.trans _ _ _)
        (thenI_trans (f := cmpS) (g := fun (u v : List ByteArray × List T) => thenI (cmpL cmpS u.1 v.1) (cmpTL u.2 v.2)) (x := (ks, l)) (y := (ks', l')) (z := (ks2, l2)) cmpS_is.eq (cmpS_is.trans _ _ _) (thenI_trans cmpK_is.eq (cmpK_is.trans _ _ _) (ih.trans _ _))))
        (f := cmpI) (g := fun (u v : Int × ByteArray × List ByteArray × List T) => thenI (cmpI u.1 v.1) (thenI (cmpS u.2.1 v.2.1) (thenI (cmpL cmpS u.2.2.1 v.2.2.1) (cmpTL u.2.2.2 v.2.2.2)))) (x := (n, s, ks, l)) (y := (n', s', ks', l')) (z := (n2, s2, ks2, l2))
theorem cmpTL_at : ∀ (a : List T), CmpAt cmpTL a
  | [] => by
    refine ⟨fun b => ?_, fun b => ?_, fun b => ?_, fun b c => ?_⟩
    · cases b <;> simp [cmpTL]
    · cases b <;> simp [cmpTL]
    · cases b <;> simp [cmpTL]
    · cases b <;> cases c <;> simp [cmpTL]
  | x :: a => by
    have h := cmpT_at x
    have ih := cmpTL_at a
    refine ⟨fun b => ?_, fun b => ?_, fun b => ?_, fun b c => ?_⟩
    · cases b with
      | nil => simp [cmpTL]
      | cons y b => exact thenI_rng (h.rng y) (ih.rng b)
    · cases b with
      | nil => simp [cmpTL]
      | cons y b => simp only [cmpTL, thenI_zero, h.eq, ih.eq, List.cons.injEq]
    · cases b with
      | nil => simp [cmpTL]
      | cons y b => simp only [cmpTL]; rw [h.anti y, ih.anti b, thenI_neg]
    · cases b with
      | nil => simp [cmpTL]
      | cons y b =>
        cases c with
        | nil => intro _ k; simp [cmpTL] at k
        | cons z c =>
          intro h1 h2
          simp only [cmpTL] at *
          unfold thenI at *
          by_cases e1 : cmpT x y = 0
          · have := (h.eq y).1 e1; subst this
            rw [if_pos e1] at h1
            by_cases e2 : cmpT x z = 0
            · rw [if_pos e2] at h2 ⊢; exact ih.trans b c h1 h2
            · rw [if_neg e2] at h2 ⊢; exact h2
          · rw [if_neg e1] at h1
            by_cases e2 : cmpT y z = 0
            · have e3 : cmpT x z = -1 := by
                have e4 : y = z := by
                  by_cases e5 : y = z
                  · exact e5
                  · exact absurd e2 (fun e => e5 ((cmpT_zero y z).1 e))
                subst e4; exact h1
              rw [if_neg (by omega)]; exact e3
            · rw [if_neg e2] at h2
              have := h.trans y z h1 h2
              rw [if_neg (by omega)]; exact this
theorem cmpT_zero : ∀ (a b : T), cmpT a b = 0 ↔ a = b
  | .mk k n s ks l, .mk k' n' s' ks' l' => by
    simp only [cmpT, thenI_zero, cmpI_is.eq, cmpS_is.eq, cmpK_is.eq, cmpTL_zero l l', T.mk.injEq]
theorem cmpTL_zero : ∀ (a b : List T), cmpTL a b = 0 ↔ a = b
  | [], [] => by simp [cmpTL]
  | [], _ :: _ => by simp [cmpTL]
  | _ :: _, [] => by simp [cmpTL]
  | a :: x, b :: y => by simp only [cmpTL, thenI_zero, cmpT_zero a b, cmpTL_zero x y, List.cons.injEq]
end
theorem cmpT_is : IsCmp cmpT := ⟨fun a => (cmpT_at a).rng, fun a => (cmpT_at a).eq, fun a => (cmpT_at a).anti, fun a => (cmpT_at a).trans⟩
/-! ### Sorting -/
theorem IsCmp.le_trans {α : Type} {f : α → α → Int} (h : IsCmp f) {a b c : α} (h1 : f a b ≤ 0) (h2 : f b c ≤ 0) : f a c ≤ 0 := by
  rcases h.rng a b with e | e | e
  · rcases h.rng b c with e' | e' | e'
    · have := h.trans a b c e e'; omega
    · have := (h.eq b c).1 e'; subst this; omega
    · omega
  · have := (h.eq a b).1 e; subst this; exact h2
  · omega
theorem IsCmp.self {α : Type} {f : α → α → Int} (h : IsCmp f) (a : α) : f a a = 0 := (h.eq a a).2 rfl
theorem IsCmp.total {α : Type} {f : α → α → Int} (h : IsCmp f) {a b : α} (h1 : ¬ f a b ≤ 0) : f b a ≤ 0 := by
  have := h.anti a b; omega
theorem IsCmp.antisymm {α : Type} {f : α → α → Int} (h : IsCmp f) {a b : α} (h1 : f a b ≤ 0) (h2 : f b a ≤ 0) : a = b := by
  have := h.anti a b
  exact (h.eq a b).1 (by omega)
/-- Put behind all that are the same. -/
def insC {α : Type} (f : α → α → Int) (v : α) : List α → List α
  | [] => [v]
  | x :: l => if f x v ≤ 0 then x :: insC f v l else v :: x :: l
def sortC {α : Type} (f : α → α → Int) (l : List α) : List α := l.foldl (fun acc x => insC f x acc) []
def Srt {α : Type} (f : α → α → Int) (l : List α) : Prop := l.Pairwise (fun a b => f a b ≤ 0)
theorem insC_perm {α : Type} (f : α → α → Int) (v : α) : ∀ l, (insC f v l).Perm (v :: l) := by
  intro l
  induction l with
  | nil => exact .refl _
  | cons x l ih =>
    simp only [insC]
    split
    · exact (List.Perm.cons x ih).trans (List.Perm.swap v x l)
    · exact .refl _
theorem insC_srt {α : Type} {f : α → α → Int} (h : IsCmp f) (v : α) : ∀ {l}, Srt f l → Srt f (insC f v l) := by
  intro l
  induction l with
  | nil => intro _; exact List.pairwise_singleton _ _
  | cons x l ih =>
    intro hs
    rw [Srt, List.pairwise_cons] at hs
    simp only [insC]
    split
    · rename_i hx
      refine List.pairwise_cons.2 ⟨fun y hy => ?_, ih hs.2⟩
      rcases List.mem_cons.1 ((insC_perm f v l).mem_iff.1 hy) with rfl | hy
      · exact hx
      · exact hs.1 y hy
    · rename_i hx
      refine List.pairwise_cons.2 ⟨fun y hy => ?_, List.pairwise_cons.2 hs⟩
      rcases List.mem_cons.1 hy with rfl | hy
      · exact h.total hx
      · exact h.le_trans (h.total hx) (hs.1 y hy)
theorem sortC_aux {α : Type} {f : α → α → Int} (h : IsCmp f) : ∀ (l acc : List α), Srt f acc → Srt f (l.foldl (fun acc x => insC f x acc) acc) ∧ (l.foldl (fun acc x => insC f x acc) acc).Perm (acc ++ l) := by
  intro l
  induction l with
  | nil => intro acc hs; simpa using hs
  | cons x l ih =>
    intro acc hs
    obtain ⟨h1, h2⟩ := ih (insC f x acc) (insC_srt h x hs)
    refine ⟨h1, h2.trans ?_⟩
    exact ((insC_perm f x acc).append_right l).trans (by simpa using List.perm_middle.symm)
theorem sortC_srt {α : Type} {f : α → α → Int} (h : IsCmp f) (l : List α) : Srt f (sortC f l) := (sortC_aux h l [] List.Pairwise.nil).1
theorem sortC_perm {α : Type} {f : α → α → Int} (h : IsCmp f) (l : List α) : (sortC f l).Perm l := by simpa [sortC] using (sortC_aux h l [] List.Pairwise.nil).2
theorem srt_uniq {α : Type} {f : α → α → Int} (h : IsCmp f) : ∀ {a b : List α}, Srt f a → Srt f b → a.Perm b → a = b := by
  intro a
  induction a with
  | nil => intro b _ _ hp; exact (List.Perm.nil_eq hp)
  | cons x a ih =>
    intro b ha hb hp
    cases b with
    | nil => exact absurd hp.length_eq (by simp)
    | cons y b =>
      rw [Srt, List.pairwise_cons] at ha hb
      have hxy : x = y := by
        have h1 : x ∈ y :: b := hp.mem_iff.1 (by simp)
        have h2 : y ∈ x :: a := hp.mem_iff.2 (by simp)
        rcases List.mem_cons.1 h1 with e | h1
        · exact e
        · rcases List.mem_cons.1 h2 with e | h2
          · exact e.symm
          · exact h.antisymm (ha.1 y h2) (hb.1 x h1)
      subst hxy
      rw [ih ha.2 hb.2 (List.Perm.cons_inv hp)]
theorem sortC_uniq {α : Type} {f : α → α → Int} (h : IsCmp f) {a l : List α} (ha : Srt f a) (hp : a.Perm l) : a = sortC f l := srt_uniq h ha (sortC_srt h l) (hp.trans (sortC_perm h l).symm)
end Go.Proofs.Pw
/- The order of trees: the specification's functions. -/
set_option linter.unusedSimpArgs false
set_option maxRecDepth 20000
namespace Go.Proofs.Pw
set_option linter.unusedSectionVars false
variable [Globs]
def x_l1Texts : X := (.seq (.reg [⟨some 4, none, .mv (.k (.c (.int .i64 0)))⟩] none [0, 1]) (.seq (.seq (.reg [⟨some 5, none, .mv (.t 0)⟩, ⟨some 6, none, .mv (.t 1)⟩, ⟨some 7, none, .bin false .lss (.t 5) (.t 6)⟩] none [0, 1, 7]) (.cond (.t 7) (.seq (.reg [⟨some 4, none, .mv (.k (.c (.int .i64 (-1))))⟩] none [4]) .ret) .skip)) (.seq (.seq (.reg [⟨some 8, none, .mv (.t 0)⟩, ⟨some 9, none, .mv (.t 1)⟩, ⟨some 10, none, .bin false .gtr (.t 8) (.t 9)⟩] none [10]) (.cond (.t 10) (.seq (.reg [⟨some 4, none, .mv (.k (.c (.int .i64 1)))⟩] none [4]) .ret) .skip)) (.seq (.reg [⟨some 4, none, .mv (.k (.c (.int .i64 0)))⟩] none [4]) .ret))))
theorem chk_l1Texts : chkX Go.Proofs.Try.prog 11 (Go.Proofs.Try.f100.body.getD .skip) x_l1Texts = true := by kernel_rfl
theorem rs_l1Texts : okRs Go.Proofs.Try.prog Go.Proofs.Try.f100.results.toList [.tmp 4] = true := by kernel_rfl
theorem call_l1Texts : okCallee Go.Proofs.Try.prog 100 = true := by kernel_rfl
def x_l1Max : X := (.seq (.reg [⟨some 4, none, .mv (.k (.c (.int .i64 0)))⟩] none [0, 1]) (.seq (.seq (.reg [⟨some 5, none, .mv (.t 0)⟩, ⟨some 6, none, .mv (.t 1)⟩, ⟨some 7, none, .bin false .gtr (.t 5) (.t 6)⟩] none [0, 1, 7]) (.cond (.t 7) (.seq (.reg [⟨some 8, none, .mv (.t 0)⟩, ⟨some 4, none, .mv (.t 8)⟩] none [4]) .ret) .skip)) (.seq (.reg [⟨some 9, none, .mv (.t 1)⟩, ⟨some 4, none, .mv (.t 9)⟩] none [4]) .ret)))
theorem chk_l1Max : chkX Go.Proofs.Try.prog 10 (Go.Proofs.Try.f104.body.getD .skip) x_l1Max = true := by kernel_rfl
theorem rs_l1Max : okRs Go.Proofs.Try.prog Go.Proofs.Try.f104.results.toList [.tmp 4] = true := by kernel_rfl
theorem call_l1Max : okCallee Go.Proofs.Try.prog 104 = true := by kernel_rfl
def x_l1Min : X := (.seq (.reg [⟨some 4, none, .mv (.k (.c (.int .i64 0)))⟩] none [0, 1]) (.seq (.seq (.reg [⟨some 5, none, .mv (.t 0)⟩, ⟨some 6, none, .mv (.t 1)⟩, ⟨some 7, none, .bin false .lss (.t 5) (.t 6)⟩] none [0, 1, 7]) (.cond (.t 7) (.seq (.reg [⟨some 8, none, .mv (.t 0)⟩, ⟨some 4, none, .mv (.t 8)⟩] none [4]) .ret) .skip)) (.seq (.reg [⟨some 9, none, .mv (.t 1)⟩, ⟨some 4, none, .mv (.t 9)⟩] none [4]) .ret)))
theorem chk_l1Min : chkX Go.Proofs.Try.prog 10 (Go.Proofs.Try.f105.body.getD .skip) x_l1Min = true := by kernel_rfl
theorem rs_l1Min : okRs Go.Proofs.Try.prog Go.Proofs.Try.f105.results.toList [.tmp 4] = true := by kernel_rfl
theorem call_l1Min : okCallee Go.Proofs.Try.prog 105 = true := by kernel_rfl
noncomputable def spMax  : Spec := Spec.of (ι := Int × Int) [false, false] (fun i => [.d (.one (.int .i64 i.1)), .d (.one (.int .i64 i.2))]) (fun _ => True) (fun i => [.d (.one (.int .i64 (if i.2 < i.1 then i.1 else i.2)))]) (fun _ => [.gone, .gone])
theorem spMax_inj : ∀ i j : Int × Int, (fun (i : Int × Int) => ([.d (.one (.int .i64 i.1)), .d (.one (.int .i64 i.2))] : List AV)) i = (fun (i : Int × Int) => ([.d (.one (.int .i64 i.1)), .d (.one (.int .i64 i.2))] : List AV)) j → i = j := by
  rintro ⟨a, b⟩ ⟨a', b'⟩ h
  simp only [Prod.mk.injEq]
  simpa [strs_eq, T.enc_eq, encL_eq, F.enc_eq, encF_eq, Tk.enc_eq, encTk_eq, Gn.enc_eq, ints_eq] using h
theorem spMax_md  : (spMax).md = [false, false] := rfl
theorem spMax_pre  (a : Int) (b : Int) : (spMax).pre [.d (.one (.int .i64 a)), .d (.one (.int .i64 b))] = (True) := Spec.of_pre' spMax_inj (a, b)
theorem spMax_alts  : (spMax).alts = none := rfl
theorem spMax_res  (a : Int) (b : Int) : (spMax).res [.d (.one (.int .i64 a)), .d (.one (.int .i64 b))] = [.d (.one (.int .i64 (if b < a then a else b)))] := Spec.of_res spMax_inj (a, b)
theorem spMax_out  (a : Int) (b : Int) : (spMax).out [.d (.one (.int .i64 a)), .d (.one (.int .i64 b))] = [.gone, .gone] := Spec.of_out spMax_inj (a, b)
theorem l1Max_sound : Sound Go.Proofs.Try.prog 104 spMax := by
  refine sound_fam GOK.nil Go.Proofs.Try.func104 (c := Go.Proofs.Try.f104.body.getD .skip) rfl (n := 10) rfl chk_l1Max rs_l1Max (fun _ => by simp) ?_ ?_
  · exact spMax_inj
  · rintro ⟨a, b⟩ _
    by_cases c : b < a
    · have a1 : (b < a) = True := eq_true c
      simp only [x_l1Max, rg, go_sem, seval, a1]
      try repeat' (first | with_reducible assumption | with_reducible refine And.intro ?_ ?_ | intro _)
    · have a1 : (b < a) = False := eq_false c
      simp only [x_l1Max, rg, go_sem, seval, a1]
      try repeat' (first | with_reducible assumption | with_reducible refine And.intro ?_ ?_ | intro _)
noncomputable def spMin  : Spec := Spec.of (ι := Int × Int) [false, false] (fun i => [.d (.one (.int .i64 i.1)), .d (.one (.int .i64 i.2))]) (fun _ => True) (fun i => [.d (.one (.int .i64 (if i.1 < i.2 then i.1 else i.2)))]) (fun _ => [.gone, .gone])
theorem spMin_inj : ∀ i j : Int × Int, (fun (i : Int × Int) => ([.d (.one (.int .i64 i.1)), .d (.one (.int .i64 i.2))] : List AV)) i = (fun (i : Int × Int) => ([.d (.one (.int .i64 i.1)), .d (.one (.int .i64 i.2))] : List AV)) j → i = j := by
  rintro ⟨a, b⟩ ⟨a', b'⟩ h
  simp only [Prod.mk.injEq]
  simpa [strs_eq, T.enc_eq, encL_eq, F.enc_eq, encF_eq, Tk.enc_eq, encTk_eq, Gn.enc_eq, ints_eq] using h
theorem spMin_md  : (spMin).md = [false, false] := rfl
theorem spMin_pre  (a : Int) (b : Int) : (spMin).pre [.d (.one (.int .i64 a)), .d (.one (.int .i64 b))] = (True) := Spec.of_pre' spMin_inj (a, b)
theorem spMin_alts  : (spMin).alts = none := rfl
theorem spMin_res  (a : Int) (b : Int) : (spMin).res [.d (.one (.int .i64 a)), .d (.one (.int .i64 b))] = [.d (.one (.int .i64 (if a < b then a else b)))] := Spec.of_res spMin_inj (a, b)
theorem spMin_out  (a : Int) (b : Int) : (spMin).out [.d (.one (.int .i64 a)), .d (.one (.int .i64 b))] = [.gone, .gone] := Spec.of_out spMin_inj (a, b)
theorem l1Min_sound : Sound Go.Proofs.Try.prog 105 spMin := by
  refine sound_fam GOK.nil Go.Proofs.Try.func105 (c := Go.Proofs.Try.f105.body.getD .skip) rfl (n := 10) rfl chk_l1Min rs_l1Min (fun _ => by simp) ?_ ?_
  · exact spMin_inj
  · rintro ⟨a, b⟩ _
    by_cases c : a < b
    · have a1 : (a < b) = True := eq_true c
      simp only [x_l1Min, rg, go_sem, seval, a1]
      try repeat' (first | with_reducible assumption | with_reducible refine And.intro ?_ ?_ | intro _)
    · have a1 : (a < b) = False := eq_false c
      simp only [x_l1Min, rg, go_sem, seval, a1]
      try repeat' (first | with_reducible assumption | with_reducible refine And.intro ?_ ?_ | intro _)
noncomputable def spTexts  : Spec := Spec.of (ι := ByteArray × ByteArray) [false, false] (fun i => [.d (.one (.str i.1)), .d (.one (.str i.2))]) (fun _ => True) (fun i => [.d (.one (.int .i64 (cmpS i.1 i.2)))]) (fun _ => [.gone, .gone])
theorem spTexts_inj : ∀ i j : ByteArray × ByteArray, (fun (i : ByteArray × ByteArray) => ([.d (.one (.str i.1)), .d (.one (.str i.2))] : List AV)) i = (fun (i : ByteArray × ByteArray) => ([.d (.one (.str i.1)), .d (.one (.str i.2))] : List AV)) j → i = j := by
  rintro ⟨a, b⟩ ⟨a', b'⟩ h
  simp only [Prod.mk.injEq]
  simpa [strs_eq, T.enc_eq, encL_eq, F.enc_eq, encF_eq, Tk.enc_eq, encTk_eq, Gn.enc_eq, ints_eq] using h
theorem spTexts_md  : (spTexts).md = [false, false] := rfl
theorem spTexts_pre  (a : ByteArray) (b : ByteArray) : (spTexts).pre [.d (.one (.str a)), .d (.one (.str b))] = (True) := Spec.of_pre' spTexts_inj (a, b)
theorem spTexts_alts  : (spTexts).alts = none := rfl
theorem spTexts_res  (a : ByteArray) (b : ByteArray) : (spTexts).res [.d (.one (.str a)), .d (.one (.str b))] = [.d (.one (.int .i64 (cmpS a b)))] := Spec.of_res spTexts_inj (a, b)
theorem spTexts_out  (a : ByteArray) (b : ByteArray) : (spTexts).out [.d (.one (.str a)), .d (.one (.str b))] = [.gone, .gone] := Spec.of_out spTexts_inj (a, b)
theorem l1Texts_sound : Sound Go.Proofs.Try.prog 100 spTexts := by
  refine sound_fam GOK.nil Go.Proofs.Try.func100 (c := Go.Proofs.Try.f100.body.getD .skip) rfl (n := 11) rfl chk_l1Texts rs_l1Texts (fun _ => by simp) ?_ ?_
  · exact spTexts_inj
  · rintro ⟨a, b⟩ _
    simp only [x_l1Texts, rg, go_sem, seval, cmpS]
    repeat' (first | with_reducible assumption | with_reducible refine And.intro ?_ ?_ | intro _)
    · rename_i h
      rw [if_pos h]
    · rename_i h k
      rw [if_neg h, if_pos]
      rcases sl_or a b with h' | h' | h'
      · exact absurd h' h
      · exact absurd (.inr h') k
      · exact h'
    · rename_i h k
      rw [if_neg h, if_neg]
      intro h'
      exact k (fun hh => (sl_tri a b).2 h' hh)
def x_l1Lists : X := (.seq (.reg [⟨some 4, none, .mv (.k (.c (.int .i64 0)))⟩] none [0, 1]) (.seq (.seq (.reg [⟨some 5, none, .mv (.k (.c (.int .i64 0)))⟩] none [0, 1, 5]) (.block 0 (.loop (.seq (.seq (.reg [⟨some 7, none, .mv (.t 5)⟩, ⟨some 8, none, .mv (.t 0)⟩, ⟨some 9, none, .len (.t 8) false⟩, ⟨some 10, none, .bin false .lss (.t 7) (.t 9)⟩, ⟨some 11, none, .mv (.t 10)⟩, ⟨some 12, some (11, true), .mv (.t 5)⟩, ⟨some 13, some (11, true), .mv (.t 1)⟩, ⟨some 14, some (11, true), .len (.t 13) false⟩, ⟨some 15, some (11, true), .bin false .lss (.t 12) (.t 14)⟩, ⟨some 16, none, .pick (.t 11) (.t 15) (.k (.c (.bool false)))⟩] none [0, 1, 5, 16]) (.cond (.t 16) .skip (.exit 0))) (.seq (.block 1 (.seq (.reg [⟨some 19, none, .mv (.t 0)⟩, ⟨some 20, none, .mv (.t 5)⟩, ⟨some 21, none, .ia (.t 19) (.t 20) 1⟩, ⟨some 22, none, .load (.t 21) none⟩, ⟨some 23, none, .mv (.t 1)⟩, ⟨some 24, none, .mv (.t 5)⟩, ⟨some 25, none, .ia (.t 23) (.t 24) 1⟩, ⟨some 26, none, .load (.t 25) none⟩, ⟨some 27, none, .call 100 [(.t 22), (.t 26)]⟩, ⟨some 6, none, .mv (.t 27)⟩] (some 8) [0, 1, 5, 6]) (.seq (.reg [⟨some 28, none, .mv (.t 6)⟩, ⟨some 29, none, .bin false .neq (.t 28) (.k (.c (.int .i64 0)))⟩] none [0, 1, 5, 6, 29]) (.cond (.t 29) (.seq (.reg [⟨some 30, none, .mv (.t 6)⟩, ⟨some 4, none, .mv (.t 30)⟩] none [4]) .ret) .skip)))) (.reg [⟨some 17, none, .mv (.t 5)⟩, ⟨some 18, none, .bin false .add (.t 17) (.k (.c (.int .i64 1)))⟩, ⟨some 5, none, .mv (.t 18)⟩] none [0, 1, 5])))))) (.seq (.reg [⟨some 31, none, .mv (.t 0)⟩, ⟨some 32, none, .len (.t 31) false⟩, ⟨some 33, none, .mv (.t 1)⟩, ⟨some 34, none, .len (.t 33) false⟩, ⟨some 35, none, .bin false .sub (.t 32) (.t 34)⟩, ⟨some 36, none, .call 105 [(.k (.c (.int .i64 1))), (.t 35)]⟩, ⟨some 37, none, .call 104 [(.k (.c (.int .i64 (-1)))), (.t 36)]⟩, ⟨some 4, none, .mv (.t 37)⟩] none [4]) .ret)))
theorem chk_l1Lists : chkX Go.Proofs.Try.prog 38 (Go.Proofs.Try.f101.body.getD .skip) x_l1Lists = true := by kernel_rfl
theorem rs_l1Lists : okRs Go.Proofs.Try.prog Go.Proofs.Try.f101.results.toList [.tmp 4] = true := by kernel_rfl
theorem call_l1Lists : okCallee Go.Proofs.Try.prog 101 = true := by kernel_rfl
theorem cmpL_drop {α : Type} {f : α → α → Int} {a b : List α} {i : Nat} {x y : α} (hx : a[i]? = some x) (hy : b[i]? = some y) : cmpL f (a.drop i) (b.drop i) = thenI (f x y) (cmpL f (a.drop (i + 1)) (b.drop (i + 1))) := by
  obtain ⟨h1, rfl⟩ := List.getElem?_eq_some_iff.1 hx
  obtain ⟨h2, rfl⟩ := List.getElem?_eq_some_iff.1 hy
  rw [List.drop_eq_getElem_cons h1, List.drop_eq_getElem_cons h2]
  rfl
theorem cmpL_end {α : Type} {f : α → α → Int} {a b : List α} {i : Nat} (hi : i ≤ a.length) (hj : i ≤ b.length) (h : ¬ (i < a.length ∧ i < b.length)) : cmpL f (a.drop i) (b.drop i) = (if (if (1 : Int) < (a.length : Int) - b.length then 1 else (a.length : Int) - b.length) < -1 then -1 else (if (1 : Int) < (a.length : Int) - b.length then 1 else (a.length : Int) - b.length)) := by
  by_cases h1 : i < a.length
  · have h2 : b.length = i := by omega
    have e : b.drop i = [] := List.drop_of_length_le (by omega)
    rw [List.drop_eq_getElem_cons h1, e]
    show (1 : Int) = _
    (repeat' split) <;> omega
  · have e : a.drop i = [] := List.drop_of_length_le (by omega)
    rw [e]
    by_cases h3 : i < b.length
    · rw [List.drop_eq_getElem_cons h3]
      show (-1 : Int) = _
      (repeat' split) <;> omega
    · have e' : b.drop i = [] := List.drop_of_length_le (by omega)
      rw [e']
      show (0 : Int) = _
      (repeat' split) <;> omega
noncomputable def spLists  : Spec := Spec.of (ι := (List ByteArray) × (List ByteArray)) [false, false] (fun i => [.d (.one (.row 1 (strs i.1))), .d (.one (.row 1 (strs i.2)))]) (fun i => lenB 140737488355328 i.1.length ∧ lenB 140737488355328 i.2.length) (fun i => [.d (.one (.int .i64 (cmpL cmpS i.1 i.2)))]) (fun _ => [.gone, .gone])
theorem spLists_inj : ∀ i j : (List ByteArray) × (List ByteArray), (fun (i : (List ByteArray) × (List ByteArray)) => ([.d (.one (.row 1 (strs i.1))), .d (.one (.row 1 (strs i.2)))] : List AV)) i = (fun (i : (List ByteArray) × (List ByteArray)) => ([.d (.one (.row 1 (strs i.1))), .d (.one (.row 1 (strs i.2)))] : List AV)) j → i = j := by
  rintro ⟨a, b⟩ ⟨a', b'⟩ h
  simp only [Prod.mk.injEq]
  simpa [strs_eq, T.enc_eq, encL_eq, F.enc_eq, encF_eq, Tk.enc_eq, encTk_eq, Gn.enc_eq, ints_eq] using h
theorem spLists_md  : (spLists).md = [false, false] := rfl
theorem spLists_pre  (a : List ByteArray) (b : List ByteArray) : (spLists).pre [.d (.one (.row 1 (strs a))), .d (.one (.row 1 (strs b)))] = (lenB 140737488355328 a.length ∧ lenB 140737488355328 b.length) := Spec.of_pre' spLists_inj (a, b)
theorem spLists_alts  : (spLists).alts = none := rfl
theorem spLists_res  (a : List ByteArray) (b : List ByteArray) : (spLists).res [.d (.one (.row 1 (strs a))), .d (.one (.row 1 (strs b)))] = [.d (.one (.int .i64 (cmpL cmpS a b)))] := Spec.of_res spLists_inj (a, b)
theorem spLists_out  (a : List ByteArray) (b : List ByteArray) : (spLists).out [.d (.one (.row 1 (strs a))), .d (.one (.row 1 (strs b)))] = [.gone, .gone] := Spec.of_out spLists_inj (a, b)
theorem l1Lists_sound : Sound Go.Proofs.Try.prog 101 spLists := by
  refine sound_fam (GOK.cons (l := [(104, spMax), (100, spTexts)]) call_l1Min l1Min_sound (GOK.cons call_l1Max l1Max_sound (GOK.cons call_l1Texts l1Texts_sound GOK.nil))) Go.Proofs.Try.func101 (c := Go.Proofs.Try.f101.body.getD .skip) rfl (n := 38) rfl chk_l1Lists rs_l1Lists (fun _ => by simp) ?_ ?_
  · exact spLists_inj
  · rintro ⟨a, b⟩ ⟨h1, h2⟩
    simp only [lenB] at h1 h2
    simp only [x_l1Lists, rg, go_sem, seval]
    refine pw_loop (ι := Nat) (fun i => a.length - i) (fun i => i ≤ a.length ∧ i ≤ b.length ∧ cmpL cmpS a b = cmpL cmpS (a.drop i) (b.drop i))
      (fun i => ⟨[(0, .q (.c (.row 1 (strs a)))), (1, .q (.c (.row 1 (strs b)))), (5, .q (.c (.int .i64 i)))], [], []⟩) 0 ⟨Nat.zero_le _, Nat.zero_le _, rfl⟩ (Le.refl _) ?_
    rintro i ⟨g1, g2, g3⟩
    by_cases c : i < a.length ∧ i < b.length
    · obtain ⟨x, hx, _, _⟩ := drop_at c.1
      obtain ⟨y, hy, _, _⟩ := drop_at c.2
      have a1 := strs_at hx
      have a2 := strs_at hy
      have a3 : ((i : Int) < (a.length : Int)) = True := eq_true (by omega)
      have a4 : ((i : Int) < (b.length : Int)) = True := eq_true (by omega)
      rw [cmpL_drop hx hy] at g3
      simp only [go_sem, seval, rg, a1, a2, a3, a4, strs_len, spTexts_md, spTexts_pre, spTexts_alts, spTexts_res, spTexts_out]
      repeat' (first | with_reducible assumption | with_reducible refine And.intro ?_ ?_ | intro _)
      all_goals first | omega | skip
      · rename_i hne
        rw [g3]; unfold thenI; rw [if_neg hne]
      · rename_i hne _
        exact ⟨i + 1, ⟨by omega, by omega, by rw [g3]; unfold thenI; rw [if_pos (Classical.not_not.1 hne)]⟩, by omega, Le.refl _⟩
    · rw [cmpL_end g1 g2 c] at g3
      by_cases c1 : i < a.length
      · have a3 : ((i : Int) < (a.length : Int)) = True := eq_true (by omega)
        have a4 : ((i : Int) < (b.length : Int)) = False := eq_false (by omega)
        simp only [go_sem, seval, rg, a3, a4, strs_len, spMin_md, spMin_pre, spMin_alts, spMin_res, spMin_out, spMax_md, spMax_pre, spMax_alts, spMax_res, spMax_out, g3]
        repeat' (first | with_reducible assumption | with_reducible refine And.intro ?_ ?_ | intro _)
        all_goals first | omega | skip
      · have a3 : ((i : Int) < (a.length : Int)) = False := eq_false (by omega)
        simp only [go_sem, seval, rg, a3, strs_len, spMin_md, spMin_pre, spMin_alts, spMin_res, spMin_out, spMax_md, spMax_pre, spMax_alts, spMax_res, spMax_out, g3]
        repeat' (first | with_reducible assumption | with_reducible refine And.intro ?_ ?_ | intro _)
        all_goals first | omega | skip
def x_l1Rows : X := (.seq (.reg [⟨some 4, none, .mv (.k (.c (.int .i64 0)))⟩] none [0, 1]) (.seq (.seq (.reg [⟨some 5, none, .mv (.k (.c (.int .i64 0)))⟩] none [0, 1, 5]) (.block 0 (.loop (.seq (.seq (.reg [⟨some 7, none, .mv (.t 5)⟩, ⟨some 8, none, .mv (.t 0)⟩, ⟨some 9, none, .len (.t 8) false⟩, ⟨some 10, none, .bin false .lss (.t 7) (.t 9)⟩, ⟨some 11, none, .mv (.t 10)⟩, ⟨some 12, some (11, true), .mv (.t 5)⟩, ⟨some 13, some (11, true), .mv (.t 1)⟩, ⟨some 14, some (11, true), .len (.t 13) false⟩, ⟨some 15, some (11, true), .bin false .lss (.t 12) (.t 14)⟩, ⟨some 16, none, .pick (.t 11) (.t 15) (.k (.c (.bool false)))⟩] none [0, 1, 5, 16]) (.cond (.t 16) .skip (.exit 0))) (.seq (.block 1 (.seq (.reg [⟨some 19, none, .mv (.t 0)⟩, ⟨some 20, none, .mv (.t 5)⟩, ⟨some 21, none, .ia (.t 19) (.t 20) 5⟩, ⟨some 22, none, .load (.t 21) (some 5)⟩, ⟨some 23, none, .mv (.t 1)⟩, ⟨some 24, none, .mv (.t 5)⟩, ⟨some 25, none, .ia (.t 23) (.t 24) 5⟩, ⟨some 26, none, .load (.t 25) (some 5)⟩, ⟨some 27, none, .call 97 [(.t 22), (.t 26)]⟩, ⟨some 6, none, .mv (.t 27)⟩] (some 8) [0, 1, 5, 6]) (.seq (.reg [⟨some 28, none, .mv (.t 6)⟩, ⟨some 29, none, .bin false .neq (.t 28) (.k (.c (.int .i64 0)))⟩] none [0, 1, 5, 6, 29]) (.cond (.t 29) (.seq (.reg [⟨some 30, none, .mv (.t 6)⟩, ⟨some 4, none, .mv (.t 30)⟩] none [4]) .ret) .skip)))) (.reg [⟨some 17, none, .mv (.t 5)⟩, ⟨some 18, none, .bin false .add (.t 17) (.k (.c (.int .i64 1)))⟩, ⟨some 5, none, .mv (.t 18)⟩] none [0, 1, 5])))))) (.seq (.reg [⟨some 31, none, .mv (.t 0)⟩, ⟨some 32, none, .len (.t 31) false⟩, ⟨some 33, none, .mv (.t 1)⟩, ⟨some 34, none, .len (.t 33) false⟩, ⟨some 35, none, .bin false .sub (.t 32) (.t 34)⟩, ⟨some 36, none, .call 105 [(.k (.c (.int .i64 1))), (.t 35)]⟩, ⟨some 37, none, .call 104 [(.k (.c (.int .i64 (-1)))), (.t 36)]⟩, ⟨some 4, none, .mv (.t 37)⟩] none [4]) .ret)))
theorem chk_l1Rows : chkX Go.Proofs.Try.prog 38 (Go.Proofs.Try.f102.body.getD .skip) x_l1Rows = true := by kernel_rfl
theorem rs_l1Rows : okRs Go.Proofs.Try.prog Go.Proofs.Try.f102.results.toList [.tmp 4] = true := by kernel_rfl
theorem call_l1Rows : okCallee Go.Proofs.Try.prog 102 = true := by kernel_rfl
def x_ValOrder : X := (.seq (.reg [⟨some 2, none, .box (.t 0) (some 5)⟩, ⟨some 3, none, .box (.t 1) (some 5)⟩, ⟨some 4, none, .mv (.k (.c (.int .i64 0)))⟩] none [2, 3]) (.seq (.block 0 (.seq (.reg [⟨some 7, none, .fa (.t 2) 0⟩, ⟨some 8, none, .load (.t 7) none⟩, ⟨some 9, none, .fa (.t 3) 0⟩, ⟨some 10, none, .load (.t 9) none⟩, ⟨some 11, none, .bin false .lss (.t 8) (.t 10)⟩, ⟨some 6, none, .mv (.t 11)⟩] none [2, 3, 6]) (.cond (.t 6) (.seq (.reg [⟨some 4, none, .mv (.k (.c (.int .i64 (-1))))⟩] none [4]) .ret) (.seq (.reg [⟨some 13, none, .fa (.t 2) 0⟩, ⟨some 14, none, .load (.t 13) none⟩, ⟨some 15, none, .fa (.t 3) 0⟩, ⟨some 16, none, .load (.t 15) none⟩, ⟨some 17, none, .bin false .gtr (.t 14) (.t 16)⟩, ⟨some 12, none, .mv (.t 17)⟩] none [2, 3, 12]) (.cond (.t 12) (.seq (.reg [⟨some 4, none, .mv (.k (.c (.int .i64 1)))⟩] none [4]) .ret) (.seq (.reg [⟨some 19, none, .fa (.t 2) 1⟩, ⟨some 20, none, .load (.t 19) none⟩, ⟨some 21, none, .fa (.t 3) 1⟩, ⟨some 22, none, .load (.t 21) none⟩, ⟨some 23, none, .bin false .lss (.t 20) (.t 22)⟩, ⟨some 18, none, .mv (.t 23)⟩] none [2, 3, 18]) (.cond (.t 18) (.seq (.reg [⟨some 4, none, .mv (.k (.c (.int .i64 (-1))))⟩] none [4]) .ret) (.seq (.reg [⟨some 25, none, .fa (.t 2) 1⟩, ⟨some 26, none, .load (.t 25) none⟩, ⟨some 27, none, .fa (.t 3) 1⟩, ⟨some 28, none, .load (.t 27) none⟩, ⟨some 29, none, .bin false .gtr (.t 26) (.t 28)⟩, ⟨some 24, none, .mv (.t 29)⟩] none [2, 3, 24]) (.cond (.t 24) (.seq (.reg [⟨some 4, none, .mv (.k (.c (.int .i64 1)))⟩] none [4]) .ret) (.seq (.reg [⟨some 31, none, .fa (.t 2) 2⟩, ⟨some 32, none, .load (.t 31) none⟩, ⟨some 33, none, .fa (.t 3) 2⟩, ⟨some 34, none, .load (.t 33) none⟩, ⟨some 35, none, .bin false .neq (.t 32) (.t 34)⟩, ⟨some 30, none, .mv (.t 35)⟩] none [2, 3, 30]) (.cond (.t 30) (.seq (.reg [⟨some 36, none, .fa (.t 2) 2⟩, ⟨some 37, none, .load (.t 36) none⟩, ⟨some 38, none, .fa (.t 3) 2⟩, ⟨some 39, none, .load (.t 38) none⟩, ⟨some 40, none, .call 100 [(.t 37), (.t 39)]⟩, ⟨some 4, none, .mv (.t 40)⟩] none [4]) .ret) .skip))))))))))) (.seq (.reg [⟨some 41, none, .fa (.t 2) 3⟩, ⟨some 42, none, .load (.t 41) none⟩, ⟨some 43, none, .fa (.t 3) 3⟩, ⟨some 44, none, .load (.t 43) none⟩, ⟨some 45, none, .call 101 [(.t 42), (.t 44)]⟩, ⟨some 5, none, .mv (.t 45)⟩] none [2, 3, 5]) (.seq (.seq (.reg [⟨some 46, none, .mv (.t 5)⟩, ⟨some 47, none, .bin false .neq (.t 46) (.k (.c (.int .i64 0)))⟩] none [2, 3, 5, 47]) (.cond (.t 47) (.seq (.reg [⟨some 48, none, .mv (.t 5)⟩, ⟨some 4, none, .mv (.t 48)⟩] none [4]) .ret) .skip)) (.seq (.reg [⟨some 49, none, .fa (.t 2) 4⟩, ⟨some 50, none, .load (.t 49) none⟩, ⟨some 51, none, .fa (.t 3) 4⟩, ⟨some 52, none, .load (.t 51) none⟩, ⟨some 53, none, .call 102 [(.t 50), (.t 52)]⟩, ⟨some 4, none, .mv (.t 53)⟩] none [4]) .ret)))))
theorem chk_ValOrder : chkX Go.Proofs.Try.prog 54 (Go.Proofs.Try.f97.body.getD .skip) x_ValOrder = true := by kernel_rfl
theorem rs_ValOrder : okRs Go.Proofs.Try.prog Go.Proofs.Try.f97.results.toList [.tmp 4] = true := by kernel_rfl
theorem call_ValOrder : okCallee Go.Proofs.Try.prog 97 = true := by kernel_rfl
theorem cmpTL_eq : ∀ (a b : List T), cmpTL a b = cmpL cmpT a b
  | [], [] => rfl
  | [], _ :: _ => rfl
  | _ :: _, [] => rfl
  | a :: x, b :: y => by simp only [cmpTL, cmpL, cmpTL_eq x y]
noncomputable def spOrd (k:Nat) : Spec := Spec.of (ι := T × T) [false, false] (fun i => [.d (.agg i.1.enc), .d (.agg i.2.enc)]) (fun i => (i.1.fit 140737488355328 ∧ i.2.fit 140737488355328) ∧ SizeOf.sizeOf i.1 < k) (fun i => [.d (.one (.int .i64 (cmpT i.1 i.2)))]) (fun _ => [.gone, .gone])
theorem spOrd_inj : ∀ i j : T × T, (fun (i : T × T) => ([.d (.agg i.1.enc), .d (.agg i.2.enc)] : List AV)) i = (fun (i : T × T) => ([.d (.agg i.1.enc), .d (.agg i.2.enc)] : List AV)) j → i = j := by
  rintro ⟨a, b⟩ ⟨a', b'⟩ h
  simp only [Prod.mk.injEq]
  simpa [strs_eq, T.enc_eq, encL_eq, F.enc_eq, encF_eq, Tk.enc_eq, encTk_eq, Gn.enc_eq, ints_eq] using h
theorem spOrd_md (k:Nat) : (spOrd k).md = [false, false] := rfl
theorem spOrd_pre (k:Nat) (a : T) (b : T) : (spOrd k).pre [.d (.agg a.enc), .d (.agg b.enc)] = ((a.fit 140737488355328 ∧ b.fit 140737488355328) ∧ SizeOf.sizeOf a < k) := Spec.of_pre' spOrd_inj (a, b)
theorem spOrd_alts (k:Nat) : (spOrd k).alts = none := rfl
theorem spOrd_res (k:Nat) (a : T) (b : T) : (spOrd k).res [.d (.agg a.enc), .d (.agg b.enc)] = [.d (.one (.int .i64 (cmpT a b)))] := Spec.of_res spOrd_inj (a, b)
theorem spOrd_out (k:Nat) (a : T) (b : T) : (spOrd k).out [.d (.agg a.enc), .d (.agg b.enc)] = [.gone, .gone] := Spec.of_out spOrd_inj (a, b)
noncomputable def spRows (k:Nat) : Spec := Spec.of (ι := (List T) × (List T)) [false, false] (fun i => [.d (.one (.row 5 (encL i.1))), .d (.one (.row 5 (encL i.2)))]) (fun i => ((lenB 140737488355328 i.1.length ∧ fitL 140737488355328 i.1) ∧ lenB 140737488355328 i.2.length ∧ fitL 140737488355328 i.2) ∧ SizeOf.sizeOf i.1 < k) (fun i => [.d (.one (.int .i64 (cmpTL i.1 i.2)))]) (fun _ => [.gone, .gone])
theorem spRows_inj : ∀ i j : (List T) × (List T), (fun (i : (List T) × (List T)) => ([.d (.one (.row 5 (encL i.1))), .d (.one (.row 5 (encL i.2)))] : List AV)) i = (fun (i : (List T) × (List T)) => ([.d (.one (.row 5 (encL i.1))), .d (.one (.row 5 (encL i.2)))] : List AV)) j → i = j := by
  rintro ⟨a, b⟩ ⟨a', b'⟩ h
  simp only [Prod.mk.injEq]
  simpa [strs_eq, T.enc_eq, encL_eq, F.enc_eq, encF_eq, Tk.enc_eq, encTk_eq, Gn.enc_eq, ints_eq] using h
theorem spRows_md (k:Nat) : (spRows k).md = [false, false] := rfl
theorem spRows_pre (k:Nat) (a : List T) (b : List T) : (spRows k).pre [.d (.one (.row 5 (encL a))), .d (.one (.row 5 (encL b)))] = (((lenB 140737488355328 a.length ∧ fitL 140737488355328 a) ∧ lenB 140737488355328 b.length ∧ fitL 140737488355328 b) ∧ SizeOf.sizeOf a < k) := Spec.of_pre' spRows_inj (a, b)
theorem spRows_alts (k:Nat) : (spRows k).alts = none := rfl
theorem spRows_res (k:Nat) (a : List T) (b : List T) : (spRows k).res [.d (.one (.row 5 (encL a))), .d (.one (.row 5 (encL b)))] = [.d (.one (.int .i64 (cmpTL a b)))] := Spec.of_res spRows_inj (a, b)
theorem spRows_out (k:Nat) (a : List T) (b : List T) : (spRows k).out [.d (.one (.row 5 (encL a))), .d (.one (.row 5 (encL b)))] = [.gone, .gone] := Spec.of_out spRows_inj (a, b)
theorem l1Rows_sound (k : Nat) (hS : Sound Go.Proofs.Try.prog 97 (spOrd k)) : Sound Go.Proofs.Try.prog 102 (spRows k) := by
  refine sound_fam (GOK.cons (l := [(104, spMax), (97, spOrd k)]) call_l1Min l1Min_sound (GOK.cons call_l1Max l1Max_sound (GOK.cons call_ValOrder hS GOK.nil))) Go.Proofs.Try.func102 (c := Go.Proofs.Try.f102.body.getD .skip) rfl (n := 38) rfl chk_l1Rows rs_l1Rows (fun _ => by simp) ?_ ?_
  · exact spRows_inj
  · rintro ⟨a, b⟩ ⟨⟨⟨h1, h3⟩, h2, h4⟩, h5⟩
    simp only [lenB] at h1 h2
    simp only at h3 h4 h5
    simp only [x_l1Rows, rg, go_sem, seval, cmpTL_eq]
    refine pw_loop (ι := Nat) (fun i => a.length - i) (fun i => i ≤ a.length ∧ i ≤ b.length ∧ cmpL cmpT a b = cmpL cmpT (a.drop i) (b.drop i))
      (fun i => ⟨[(0, .q (.c (.row 5 (encL a)))), (1, .q (.c (.row 5 (encL b)))), (5, .q (.c (.int .i64 i)))], [], []⟩) 0 ⟨Nat.zero_le _, Nat.zero_le _, rfl⟩ (Le.refl _) ?_
    rintro i ⟨g1, g2, g3⟩
    by_cases c : i < a.length ∧ i < b.length
    · obtain ⟨x, hx, _, mx⟩ := drop_at c.1
      obtain ⟨y, hy, _, my⟩ := drop_at c.2
      have a1 := encL_at hx
      have a2 := encL_at hy
      have a3 : ((i : Int) < (a.length : Int)) = True := eq_true (by omega)
      have a4 : ((i : Int) < (b.length : Int)) = True := eq_true (by omega)
      have e1 := size_mem mx
      have f1 := fitL_mem h3 x mx
      have f2 := fitL_mem h4 y my
      have f3 := T.enc_len x
      have f4 := T.enc_len y
      rw [cmpL_drop hx hy] at g3
      simp only [go_sem, seval, rg, a1, a2, a3, a4, f3, f4, encL_len, spOrd_md, spOrd_pre, spOrd_alts, spOrd_res, spOrd_out]
      repeat' (first | with_reducible assumption | with_reducible refine And.intro ?_ ?_ | intro _)
      all_goals first | omega | skip
      · rename_i hne
        rw [g3]; unfold thenI; rw [if_neg hne]
      · rename_i hne _
        exact ⟨i + 1, ⟨by omega, by omega, by rw [g3]; unfold thenI; rw [if_pos (Classical.not_not.1 hne)]⟩, by omega, Le.refl _⟩
    · rw [cmpL_end g1 g2 c] at g3
      by_cases c1 : i < a.length
      · have a3 : ((i : Int) < (a.length : Int)) = True := eq_true (by omega)
        have a4 : ((i : Int) < (b.length : Int)) = False := eq_false (by omega)
        simp only [go_sem, seval, rg, a3, a4, encL_len, spMin_md, spMin_pre, spMin_alts, spMin_res, spMin_out, spMax_md, spMax_pre, spMax_alts, spMax_res, spMax_out, g3]
        repeat' (first | with_reducible assumption | with_reducible refine And.intro ?_ ?_ | intro _)
        all_goals first | omega | skip
      · have a3 : ((i : Int) < (a.length : Int)) = False := eq_false (by omega)
        simp only [go_sem, seval, rg, a3, encL_len, spMin_md, spMin_pre, spMin_alts, spMin_res, spMin_out, spMax_md, spMax_pre, spMax_alts, spMax_res, spMax_out, g3]
        repeat' (first | with_reducible assumption | with_reducible refine And.intro ?_ ?_ | intro _)
        all_goals first | omega | skip
theorem ValOrder_sound (k : Nat) (hS : Sound Go.Proofs.Try.prog 102 (spRows k)) : Sound Go.Proofs.Try.prog 97 (spOrd (k + 1)) := by
  refine sound_fam (GOK.cons (l := [(101, spLists), (102, spRows k)]) call_l1Texts l1Texts_sound (GOK.cons call_l1Lists l1Lists_sound (GOK.cons call_l1Rows hS GOK.nil))) Go.Proofs.Try.func97 (c := Go.Proofs.Try.f97.body.getD .skip) rfl (n := 54) rfl chk_ValOrder rs_ValOrder (fun _ => by simp) ?_ ?_
  · exact spOrd_inj
  · rintro ⟨a, b⟩ ⟨⟨h1, h2⟩, h3⟩
    obtain ⟨ka, na, sa, xs, la⟩ := a
    obtain ⟨kb, nb, sb, ys, lb⟩ := b
    simp only [T.fit, strsFit] at h1 h2
    obtain ⟨_, _, _, ⟨f1, _⟩, f2, f3⟩ := h1
    obtain ⟨_, _, _, ⟨f4, _⟩, f5, f6⟩ := h2
    have e3 : SizeOf.sizeOf la < k := by have e : SizeOf.sizeOf (T.mk ka na sa xs la) < k + 1 := h3
                                         rw [T.mk.sizeOf_spec] at e; omega
    have hs : cmpS sa sb = 0 ↔ sa = sb := cmpS_is.eq sa sb
    simp only [x_ValOrder, T.enc, go_sem, seval, rg, spTexts_md, spTexts_pre, spTexts_alts, spTexts_res, spTexts_out, spLists_md, spLists_pre, spLists_alts, spLists_res, spLists_out, spRows_md, spRows_pre, spRows_alts, spRows_res, spRows_out, cmpT, cmpI, thenI]
    repeat' (first | with_reducible assumption | with_reducible refine And.intro ?_ ?_ | intro _)
    all_goals first | omega | assumption | skip
    all_goals simp_all
    all_goals first | omega | grind
theorem ord_sound : ∀ k, Sound Go.Proofs.Try.prog 97 (spOrd k) := fun k => Nat.rec Sound.none (fun k ih => ValOrder_sound k (l1Rows_sound k ih)) k
noncomputable def spOrdV  : Spec := Spec.of (ι := T × T) [false, false] (fun i => [.d (.agg i.1.enc), .d (.agg i.2.enc)]) (fun i => i.1.fit 140737488355328 ∧ i.2.fit 140737488355328) (fun i => [.d (.one (.int .i64 (cmpT i.1 i.2)))]) (fun _ => [.gone, .gone])
theorem spOrdV_inj : ∀ i j : T × T, (fun (i : T × T) => ([.d (.agg i.1.enc), .d (.agg i.2.enc)] : List AV)) i = (fun (i : T × T) => ([.d (.agg i.1.enc), .d (.agg i.2.enc)] : List AV)) j → i = j := by
  rintro ⟨a, b⟩ ⟨a', b'⟩ h
  simp only [Prod.mk.injEq]
  simpa [strs_eq, T.enc_eq, encL_eq, F.enc_eq, encF_eq, Tk.enc_eq, encTk_eq, Gn.enc_eq, ints_eq] using h
theorem spOrdV_pre  (a : T) (b : T) : (spOrdV).pre [.d (.agg a.enc), .d (.agg b.enc)] = (a.fit 140737488355328 ∧ b.fit 140737488355328) := Spec.of_pre' spOrdV_inj (a, b)
theorem spOrdV_res  (a : T) (b : T) : (spOrdV).res [.d (.agg a.enc), .d (.agg b.enc)] = [.d (.one (.int .i64 (cmpT a b)))] := Spec.of_res spOrdV_inj (a, b)
theorem spOrdV_out  (a : T) (b : T) : (spOrdV).out [.d (.agg a.enc), .d (.agg b.enc)] = [.gone, .gone] := Spec.of_out spOrdV_inj (a, b)
theorem ordV_sound : Sound Go.Proofs.Try.prog 97 spOrdV := Sound.all (μ := fun i => SizeOf.sizeOf i.1) ord_sound
end Go.Proofs.Pw
