/- What is small enough by the laws' count fits. -/
import Derived.Test.YtlgjkdaembipoaaDoorPwT10
import Derived.Test.YtlgjkdaembipoaaDoorPwT9
import Derived.Test.YtlgjkdaembipoaaDoorProg
import Derived.KernelRfl
set_option linter.unusedSimpArgs false
set_option linter.unusedVariables false
namespace Go.Proofs.Pw
theorem szStr_fit : ∀ {ks : List ByteArray} {left : Int}, 0 ≤ left → 0 ≤ szStr ks left → ∀ s ∈ ks, (s.size : Int) ≤ left := by
  intro ks
  induction ks with
  | nil => intro left _ _ s hs; simp at hs
  | cons x r ih =>
    intro left h0 h s hs
    simp only [szStr] at h
    split at h
    · omega
    · rcases List.mem_cons.1 hs with rfl | hs
      · omega
      · have := ih (left := left - x.size) (by omega) h s hs; omega
theorem szStrS_fit {ks : List ByteArray} {left : Int} (h0 : 0 ≤ left) (hl : left ≤ 1048576) (h : 0 ≤ szStrS ks left) : strsFit 1048576 ks := by
  simp only [szStrS] at h
  split at h
  · omega
  · refine ⟨by unfold lenB; omega, fun s hs => ?_⟩
    have := szStr_fit (left := left - ks.length) (by omega) h s hs
    unfold lenB; omega
mutual
theorem szT_fit : ∀ {t : T} {left : Int} {B : Int}, 0 ≤ left → left ≤ 1048576 → t.fit B → 0 ≤ szT t left → t.fit 1048576 ∧ sizeT t ≤ left - szT t left + 1
  | .mk k n s ks l, left, B, h0, hl, hf, h => by
    simp only [T.fit] at hf ⊢
    simp only [szT, sizeT] at h ⊢
    have e1 := szStrS_le (ks := ks) (left := left - s.size)
    split at h
    · omega
    · split at h
      · omega
      · split at h
        · omega
        · rename_i a b c
          rw [if_neg a, if_neg b, if_neg c]
          have h1 := szStrS_fit (ks := ks) (left := left - s.size) (by omega) (by omega) (by omega)
          have h2 := szTL_fit (l := l) (B := B) (left := szStrS ks (left - s.size) - l.length) (by omega) (by omega) hf.2.2.2.2.2 h
          refine ⟨⟨hf.1, hf.2.1, by unfold lenB; omega, h1, by unfold lenB; omega, h2.1⟩, by omega⟩
theorem szTL_fit : ∀ {l : List T} {left : Int} {B : Int}, 0 ≤ left → left ≤ 1048576 → fitL B l → 0 ≤ szTL l left → fitL 1048576 l ∧ sizeL l ≤ left - szTL l left + l.length
  | [], left, B, h0, hl, hf, h => by simp [fitL, sizeL, szTL]
  | t :: r, left, B, h0, hl, hf, h => by
    simp only [fitL] at hf ⊢
    simp only [szTL, sizeL, List.length_cons] at h ⊢
    have e1 := szT_le (t := t) h0
    split at h
    · omega
    · rename_i a
      rw [if_neg a]
      have h1 := szT_fit (t := t) h0 hl hf.1 (by omega)
      have h2 := szTL_fit (l := r) (left := szT t left) (by omega) (by omega) hf.2 h
      exact ⟨⟨h1.1, h2.1⟩, by omega⟩
end
end Go.Proofs.Pw
namespace Go.Proofs.Pw
mutual
theorem szF_fit : ∀ {t : F} {left : Int} {B : Int}, 0 ≤ left → left ≤ 1048576 → t.fit B → 0 ≤ szF t left → t.fit 1048576 ∧ smallF t ∧ sizeF t ≤ left - szF t left + 1
  | .mk k n s v l, left, B, h0, hl, hf, h => by
    simp only [F.fit] at hf ⊢
    simp only [szF, sizeF, smallF] at h ⊢
    have e1 := szT_le (t := v) (left := left - s.size)
    split at h
    · omega
    · split at h
      · omega
      · split at h
        · omega
        · rename_i a b c
          rw [if_neg a, if_neg b, if_neg c]
          have h1 := szT_fit (t := v) (B := B) (left := left - s.size) (by omega) (by omega) hf.2.2.2.1 (by omega)
          have h2 := szFL_fit (l := l) (B := B) (left := szT v (left - s.size) - l.length) (by omega) (by omega) hf.2.2.2.2.2 h
          refine ⟨⟨hf.1, hf.2.1, by unfold lenB; omega, h1.1, by unfold lenB; omega, h2.1⟩, ⟨by omega, h2.2.1⟩, by omega⟩
theorem szFL_fit : ∀ {l : List F} {left : Int} {B : Int}, 0 ≤ left → left ≤ 1048576 → fitF B l → 0 ≤ szFL l left → fitF 1048576 l ∧ smallFL l ∧ sizeFL l ≤ left - szFL l left + l.length
  | [], left, B, h0, hl, hf, h => by simp [fitF, sizeFL, szFL, smallFL]
  | t :: r, left, B, h0, hl, hf, h => by
    simp only [fitF] at hf ⊢
    simp only [szFL, sizeFL, smallFL, List.length_cons] at h ⊢
    have e1 := szF_le (t := t) h0
    split at h
    · omega
    · rename_i a
      rw [if_neg a]
      have h1 := szF_fit (t := t) h0 hl hf.1 (by omega)
      have h2 := szFL_fit (l := r) (left := szF t left) (by omega) (by omega) hf.2 h
      exact ⟨⟨h1.1, h2.1⟩, ⟨h1.2.1, h2.2.1⟩, by omega⟩
end
end Go.Proofs.Pw
namespace Go.Proofs.Pw
end Go.Proofs.Pw
namespace Go.Proofs.Pw
section
set_option linter.unusedSectionVars false
variable {B B' : Int} (hB : B ≤ B')
include hB
theorem lenB_le {n : Nat} (h : lenB B n) : lenB B' n := by unfold lenB at *; omega
theorem strsFit_le {ks : List ByteArray} (h : strsFit B ks) : strsFit B' ks := ⟨lenB_le hB h.1, fun s hs => lenB_le hB (h.2 s hs)⟩
mutual
theorem T.fit_le : ∀ {t : T}, t.fit B → t.fit B'
  | .mk k n s ks l, h => by
    simp only [T.fit] at h ⊢
    exact ⟨h.1, h.2.1, lenB_le hB h.2.2.1, strsFit_le hB h.2.2.2.1, lenB_le hB h.2.2.2.2.1, fitL_le h.2.2.2.2.2⟩
theorem fitL_le : ∀ {l : List T}, fitL B l → fitL B' l
  | [], _ => trivial
  | t :: l, h => by
    simp only [fitL] at h ⊢
    exact ⟨T.fit_le h.1, fitL_le h.2⟩
end
mutual
theorem F.fit_le : ∀ {t : F}, t.fit B → t.fit B'
  | .mk k n s v l, h => by
    simp only [F.fit] at h ⊢
    exact ⟨h.1, h.2.1, lenB_le hB h.2.2.1, T.fit_le hB h.2.2.2.1, lenB_le hB h.2.2.2.2.1, fitF_le h.2.2.2.2.2⟩
theorem fitF_le : ∀ {l : List F}, fitF B l → fitF B' l
  | [], _ => trivial
  | t :: l, h => by
    simp only [fitF] at h ⊢
    exact ⟨F.fit_le h.1, fitF_le h.2⟩
end
theorem Tk.fit_le {t : Tk} (h : t.fit B) : t.fit B' := ⟨T.fit_le hB h.1, lenB_le hB h.2.1, fitF_le hB h.2.2⟩
theorem Gn.fit_le {g : Gn} (h : g.fit B) : g.fit B' := ⟨lenB_le hB h.1, fun t ht => Tk.fit_le hB (h.2.1 t ht), h.2.2⟩
end
end Go.Proofs.Pw
/- Filters that are drawn; bent filters. -/
namespace Go.Proofs.Pw
mutual
theorem F.fit_mono {A B : Int} (hAB : A ≤ B) : ∀ {t : F}, t.fit A → t.fit B
  | .mk k n s v l, h => by
    simp only [F.fit, lenB] at h ⊢
    obtain ⟨h1, h2, h3, h4, h6, h7⟩ := h
    exact ⟨h1, h2, by omega, T.fit_mono hAB h4, by omega, fitF_mono hAB h7⟩
theorem fitF_mono {A B : Int} (hAB : A ≤ B) : ∀ {l : List F}, fitF A l → fitF B l
  | [], _ => trivial
  | _ :: _, h => ⟨F.fit_mono hAB h.1, fitF_mono hAB h.2⟩
end
/-- A filter of so many parts at most. -/
def drF (m : Int) (t : F) : Prop := t.fit 1000 ∧ smallF t ∧ sizeF t ≤ m
def drFW (m : Int) (t : F) : Prop := t.fit 100000 ∧ smallF t ∧ sizeF t ≤ m
theorem drF.fit {m : Int} {t : F} (h : drF m t) : t.fit 140737488355328 := F.fit_mono (by decide) h.1
theorem drFW.fit {m : Int} {t : F} (h : drFW m t) : t.fit 140737488355328 := F.fit_mono (by decide) h.1
theorem drF.mono {m n : Int} (hmn : m ≤ n) {t : F} (h : drF m t) : drF n t := ⟨h.1, h.2.1, Int.le_trans h.2.2 hmn⟩
theorem drFW.mono {m n : Int} (hmn : m ≤ n) {t : F} (h : drFW m t) : drFW n t := ⟨h.1, h.2.1, Int.le_trans h.2.2 hmn⟩
theorem drF.w {m : Int} {t : F} (h : drF m t) : drFW m t := ⟨F.fit_mono (by decide) h.1, h.2.1, h.2.2⟩
/-- How many numbers a filter not deeper than so may take, and how many parts it may have. -/
def fb : Nat → Int
  | 0 => 1100
  | k + 1 => 1100 + 3 * fb k
/-! What is no filter that is ok. -/
mutual
theorem formF_mono : ∀ {t : F} {d e : Int}, d ≤ e → formF t d → formF t e
  | .mk k n s v l, d, e, h, hf => by
    simp only [formF] at hf ⊢
    exact ⟨by omega, hf.2.1, hf.2.2.1, hf.2.2.2.1, hf.2.2.2.2.1, hf.2.2.2.2.2.1, hf.2.2.2.2.2.2.1, formFL_mono (show d - 1 ≤ e - 1 by omega) hf.2.2.2.2.2.2.2.1, hf.2.2.2.2.2.2.2.2⟩
theorem formFL_mono : ∀ {l : List F} {d e : Int}, d ≤ e → formFL l d → formFL l e
  | [], _, _, _, _ => by simp [formFL]
  | t :: l, d, e, h, hf => by
    simp only [formFL] at hf ⊢
    exact ⟨formF_mono h hf.1, formFL_mono h hf.2⟩
end
end Go.Proofs.Pw
/- Counting down the size of a tree: the functions of the laws' text. -/
set_option linter.unusedSimpArgs false
set_option maxRecDepth 20000
namespace Go.Proofs.Pw
set_option linter.unusedSectionVars false
variable [Globs]
def x_szStringS : X := (.seq (.reg [⟨some 4, none, .mv (.k (.c (.int .i64 0)))⟩] none [0, 1]) (.seq (.reg [⟨some 6, none, .mv (.t 1)⟩, ⟨some 7, none, .mv (.t 0)⟩, ⟨some 8, none, .len (.t 7) false⟩, ⟨some 9, none, .bin false .sub (.t 6) (.t 8)⟩, ⟨some 1, none, .mv (.t 9)⟩] none [0, 1]) (.seq (.seq (.reg [⟨some 10, none, .mv (.t 1)⟩, ⟨some 11, none, .bin false .lss (.t 10) (.k (.c (.int .i64 0)))⟩] none [0, 1, 11]) (.cond (.t 11) (.seq (.reg [⟨some 4, none, .mv (.k (.c (.int .i64 (-1))))⟩] none [4]) .ret) .skip)) (.seq (.seq (.reg [⟨some 5, none, .mv (.k (.c (.int .i64 0)))⟩] none [0, 1, 5]) (.block 0 (.loop (.seq (.seq (.reg [⟨some 12, none, .mv (.t 5)⟩, ⟨some 13, none, .mv (.t 0)⟩, ⟨some 14, none, .len (.t 13) false⟩, ⟨some 15, none, .bin false .lss (.t 12) (.t 14)⟩] none [0, 1, 5, 15]) (.cond (.t 15) .skip (.exit 0))) (.seq (.block 1 (.seq (.reg [⟨some 18, none, .mv (.t 1)⟩, ⟨some 19, none, .mv (.t 0)⟩, ⟨some 20, none, .mv (.t 5)⟩, ⟨some 21, none, .ia (.t 19) (.t 20) 1⟩, ⟨some 22, none, .load (.t 21) none⟩, ⟨some 23, none, .len (.t 22) true⟩, ⟨some 24, none, .bin false .sub (.t 18) (.t 23)⟩, ⟨some 1, none, .mv (.t 24)⟩] none [0, 1, 5]) (.seq (.reg [⟨some 25, none, .mv (.t 1)⟩, ⟨some 26, none, .bin false .lss (.t 25) (.k (.c (.int .i64 0)))⟩] none [0, 1, 5, 26]) (.cond (.t 26) (.seq (.reg [⟨some 4, none, .mv (.k (.c (.int .i64 (-1))))⟩] none [4]) .ret) .skip)))) (.reg [⟨some 16, none, .mv (.t 5)⟩, ⟨some 17, none, .bin false .add (.t 16) (.k (.c (.int .i64 1)))⟩, ⟨some 5, none, .mv (.t 17)⟩] none [0, 1, 5])))))) (.seq (.reg [⟨some 27, none, .mv (.t 1)⟩, ⟨some 4, none, .mv (.t 27)⟩] none [4]) .ret)))))
theorem chk_szStringS : chkX Go.Proofs.Tryd.prog 28 (Go.Proofs.Tryd.f43.body.getD .skip) x_szStringS = true := by kernel_rfl
theorem rs_szStringS : okRs Go.Proofs.Tryd.prog Go.Proofs.Tryd.f43.results.toList [.tmp 4] = true := by kernel_rfl
theorem call_szStringS : okCallee Go.Proofs.Tryd.prog 43 = true := by kernel_rfl
def x_szValS : X := (.seq (.reg [⟨some 4, none, .mv (.k (.c (.int .i64 0)))⟩] none [0, 1]) (.seq (.reg [⟨some 6, none, .mv (.t 1)⟩, ⟨some 7, none, .mv (.t 0)⟩, ⟨some 8, none, .len (.t 7) false⟩, ⟨some 9, none, .bin false .sub (.t 6) (.t 8)⟩, ⟨some 1, none, .mv (.t 9)⟩] none [0, 1]) (.seq (.seq (.reg [⟨some 10, none, .mv (.t 1)⟩, ⟨some 11, none, .bin false .lss (.t 10) (.k (.c (.int .i64 0)))⟩] none [0, 1, 11]) (.cond (.t 11) (.seq (.reg [⟨some 4, none, .mv (.k (.c (.int .i64 (-1))))⟩] none [4]) .ret) .skip)) (.seq (.seq (.reg [⟨some 5, none, .mv (.k (.c (.int .i64 0)))⟩] none [0, 1, 5]) (.block 0 (.loop (.seq (.seq (.reg [⟨some 12, none, .mv (.t 5)⟩, ⟨some 13, none, .mv (.t 0)⟩, ⟨some 14, none, .len (.t 13) false⟩, ⟨some 15, none, .bin false .lss (.t 12) (.t 14)⟩] none [0, 1, 5, 15]) (.cond (.t 15) .skip (.exit 0))) (.seq (.block 1 (.seq (.reg [⟨some 18, none, .mv (.t 0)⟩, ⟨some 19, none, .mv (.t 5)⟩, ⟨some 20, none, .ia (.t 18) (.t 19) 5⟩, ⟨some 21, none, .load (.t 20) (some 5)⟩, ⟨some 22, none, .mv (.t 1)⟩, ⟨some 23, none, .call 23 [(.t 21), (.t 22)]⟩, ⟨some 1, none, .mv (.t 23)⟩] none [0, 1, 5]) (.seq (.reg [⟨some 24, none, .mv (.t 1)⟩, ⟨some 25, none, .bin false .lss (.t 24) (.k (.c (.int .i64 0)))⟩] none [0, 1, 5, 25]) (.cond (.t 25) (.seq (.reg [⟨some 4, none, .mv (.k (.c (.int .i64 (-1))))⟩] none [4]) .ret) .skip)))) (.reg [⟨some 16, none, .mv (.t 5)⟩, ⟨some 17, none, .bin false .add (.t 16) (.k (.c (.int .i64 1)))⟩, ⟨some 5, none, .mv (.t 17)⟩] none [0, 1, 5])))))) (.seq (.reg [⟨some 26, none, .mv (.t 1)⟩, ⟨some 4, none, .mv (.t 26)⟩] none [4]) .ret)))))
theorem chk_szValS : chkX Go.Proofs.Tryd.prog 27 (Go.Proofs.Tryd.f44.body.getD .skip) x_szValS = true := by kernel_rfl
theorem rs_szValS : okRs Go.Proofs.Tryd.prog Go.Proofs.Tryd.f44.results.toList [.tmp 4] = true := by kernel_rfl
theorem call_szValS : okCallee Go.Proofs.Tryd.prog 44 = true := by kernel_rfl
def x_szVal : X := (.seq (.reg [⟨some 2, none, .box (.t 0) (some 5)⟩, ⟨some 4, none, .mv (.k (.c (.int .i64 0)))⟩] none [1, 2]) (.seq (.reg [⟨some 5, none, .mv (.t 1)⟩, ⟨some 6, none, .fa (.t 2) 2⟩, ⟨some 7, none, .load (.t 6) none⟩, ⟨some 8, none, .len (.t 7) true⟩, ⟨some 9, none, .bin false .sub (.t 5) (.t 8)⟩, ⟨some 1, none, .mv (.t 9)⟩] none [1, 2]) (.seq (.seq (.reg [⟨some 10, none, .mv (.t 1)⟩, ⟨some 11, none, .bin false .lss (.t 10) (.k (.c (.int .i64 0)))⟩] none [1, 2, 11]) (.cond (.t 11) (.seq (.reg [⟨some 4, none, .mv (.k (.c (.int .i64 (-1))))⟩] none [4]) .ret) .skip)) (.seq (.reg [⟨some 12, none, .fa (.t 2) 3⟩, ⟨some 13, none, .load (.t 12) none⟩, ⟨some 14, none, .mv (.t 1)⟩, ⟨some 15, none, .call 43 [(.t 13), (.t 14)]⟩, ⟨some 1, none, .mv (.t 15)⟩] none [1, 2]) (.seq (.seq (.reg [⟨some 16, none, .mv (.t 1)⟩, ⟨some 17, none, .bin false .lss (.t 16) (.k (.c (.int .i64 0)))⟩] none [1, 2, 17]) (.cond (.t 17) (.seq (.reg [⟨some 4, none, .mv (.k (.c (.int .i64 (-1))))⟩] none [4]) .ret) .skip)) (.seq (.reg [⟨some 18, none, .fa (.t 2) 4⟩, ⟨some 19, none, .load (.t 18) none⟩, ⟨some 20, none, .mv (.t 1)⟩, ⟨some 21, none, .call 44 [(.t 19), (.t 20)]⟩, ⟨some 1, none, .mv (.t 21)⟩] none [1]) (.seq (.seq (.reg [⟨some 22, none, .mv (.t 1)⟩, ⟨some 23, none, .bin false .lss (.t 22) (.k (.c (.int .i64 0)))⟩] none [1, 23]) (.cond (.t 23) (.seq (.reg [⟨some 4, none, .mv (.k (.c (.int .i64 (-1))))⟩] none [4]) .ret) .skip)) (.seq (.reg [⟨some 24, none, .mv (.t 1)⟩, ⟨some 4, none, .mv (.t 24)⟩] none [4]) .ret))))))))
theorem chk_szVal : chkX Go.Proofs.Tryd.prog 25 (Go.Proofs.Tryd.f23.body.getD .skip) x_szVal = true := by kernel_rfl
theorem rs_szVal : okRs Go.Proofs.Tryd.prog Go.Proofs.Tryd.f23.results.toList [.tmp 4] = true := by kernel_rfl
theorem call_szVal : okCallee Go.Proofs.Tryd.prog 23 = true := by kernel_rfl
noncomputable def spSzStrS  : Spec := Spec.of (ι := (List ByteArray) × Int) [false, false] (fun i => [.d (.one (.row 1 (strs i.1))), .d (.one (.int .i64 i.2))]) (fun i => strsFit 140737488355328 i.1 ∧ 0 ≤ i.2 ∧ i.2 ≤ 1048576) (fun i => [.d (.one (.int .i64 (szStrS i.1 i.2)))]) (fun _ => [.gone, .gone])
theorem spSzStrS_inj : ∀ i j : (List ByteArray) × Int, (fun (i : (List ByteArray) × Int) => ([.d (.one (.row 1 (strs i.1))), .d (.one (.int .i64 i.2))] : List AV)) i = (fun (i : (List ByteArray) × Int) => ([.d (.one (.row 1 (strs i.1))), .d (.one (.int .i64 i.2))] : List AV)) j → i = j := by
  rintro ⟨ks, l⟩ ⟨ks', l'⟩ h
  simp only [Prod.mk.injEq]
  simpa [strs_eq, T.enc_eq, encL_eq, F.enc_eq, encF_eq, Tk.enc_eq, encTk_eq, Gn.enc_eq, ints_eq] using h
theorem spSzStrS_md  : (spSzStrS).md = [false, false] := rfl
theorem spSzStrS_pre  (ks : List ByteArray) (l : Int) : (spSzStrS).pre [.d (.one (.row 1 (strs ks))), .d (.one (.int .i64 l))] = (strsFit 140737488355328 ks ∧ 0 ≤ l ∧ l ≤ 1048576) := Spec.of_pre' spSzStrS_inj (ks, l)
theorem spSzStrS_alts  : (spSzStrS).alts = none := rfl
theorem spSzStrS_res  (ks : List ByteArray) (l : Int) : (spSzStrS).res [.d (.one (.row 1 (strs ks))), .d (.one (.int .i64 l))] = [.d (.one (.int .i64 (szStrS ks l)))] := Spec.of_res spSzStrS_inj (ks, l)
theorem spSzStrS_out  (ks : List ByteArray) (l : Int) : (spSzStrS).out [.d (.one (.row 1 (strs ks))), .d (.one (.int .i64 l))] = [.gone, .gone] := Spec.of_out spSzStrS_inj (ks, l)
noncomputable def spSzTS (k:Nat) : Spec := Spec.of (ι := (List T) × Int) [false, false] (fun i => [.d (.one (.row 5 (encL i.1))), .d (.one (.int .i64 i.2))]) (fun i => (lenB 140737488355328 i.1.length ∧ fitL 140737488355328 i.1 ∧ 0 ≤ i.2 ∧ i.2 ≤ 1048576) ∧ SizeOf.sizeOf i.1 < k) (fun i => [.d (.one (.int .i64 (szTS i.1 i.2)))]) (fun _ => [.gone, .gone])
theorem spSzTS_inj : ∀ i j : (List T) × Int, (fun (i : (List T) × Int) => ([.d (.one (.row 5 (encL i.1))), .d (.one (.int .i64 i.2))] : List AV)) i = (fun (i : (List T) × Int) => ([.d (.one (.row 5 (encL i.1))), .d (.one (.int .i64 i.2))] : List AV)) j → i = j := by
  rintro ⟨ks, l⟩ ⟨ks', l'⟩ h
  simp only [Prod.mk.injEq]
  simpa [strs_eq, T.enc_eq, encL_eq, F.enc_eq, encF_eq, Tk.enc_eq, encTk_eq, Gn.enc_eq, ints_eq] using h
theorem spSzTS_md (k:Nat) : (spSzTS k).md = [false, false] := rfl
theorem spSzTS_pre (k:Nat) (ks : List T) (l : Int) : (spSzTS k).pre [.d (.one (.row 5 (encL ks))), .d (.one (.int .i64 l))] = ((lenB 140737488355328 ks.length ∧ fitL 140737488355328 ks ∧ 0 ≤ l ∧ l ≤ 1048576) ∧ SizeOf.sizeOf ks < k) := Spec.of_pre' spSzTS_inj (ks, l)
theorem spSzTS_alts (k:Nat) : (spSzTS k).alts = none := rfl
theorem spSzTS_res (k:Nat) (ks : List T) (l : Int) : (spSzTS k).res [.d (.one (.row 5 (encL ks))), .d (.one (.int .i64 l))] = [.d (.one (.int .i64 (szTS ks l)))] := Spec.of_res spSzTS_inj (ks, l)
theorem spSzTS_out (k:Nat) (ks : List T) (l : Int) : (spSzTS k).out [.d (.one (.row 5 (encL ks))), .d (.one (.int .i64 l))] = [.gone, .gone] := Spec.of_out spSzTS_inj (ks, l)
noncomputable def spSzT (k:Nat) : Spec := Spec.of (ι := T × Int) [false, false] (fun i => [.d (.agg i.1.enc), .d (.one (.int .i64 i.2))]) (fun i => (i.1.fit 140737488355328 ∧ 0 ≤ i.2 ∧ i.2 ≤ 1048576) ∧ SizeOf.sizeOf i.1 < k) (fun i => [.d (.one (.int .i64 (szT i.1 i.2)))]) (fun _ => [.gone, .gone])
theorem spSzT_inj : ∀ i j : T × Int, (fun (i : T × Int) => ([.d (.agg i.1.enc), .d (.one (.int .i64 i.2))] : List AV)) i = (fun (i : T × Int) => ([.d (.agg i.1.enc), .d (.one (.int .i64 i.2))] : List AV)) j → i = j := by
  rintro ⟨t, l⟩ ⟨t', l'⟩ h
  simp only [Prod.mk.injEq]
  simpa [strs_eq, T.enc_eq, encL_eq, F.enc_eq, encF_eq, Tk.enc_eq, encTk_eq, Gn.enc_eq, ints_eq] using h
theorem spSzT_md (k:Nat) : (spSzT k).md = [false, false] := rfl
theorem spSzT_pre (k:Nat) (t : T) (l : Int) : (spSzT k).pre [.d (.agg t.enc), .d (.one (.int .i64 l))] = ((t.fit 140737488355328 ∧ 0 ≤ l ∧ l ≤ 1048576) ∧ SizeOf.sizeOf t < k) := Spec.of_pre' spSzT_inj (t, l)
theorem spSzT_alts (k:Nat) : (spSzT k).alts = none := rfl
theorem spSzT_res (k:Nat) (t : T) (l : Int) : (spSzT k).res [.d (.agg t.enc), .d (.one (.int .i64 l))] = [.d (.one (.int .i64 (szT t l)))] := Spec.of_res spSzT_inj (t, l)
theorem spSzT_out (k:Nat) (t : T) (l : Int) : (spSzT k).out [.d (.agg t.enc), .d (.one (.int .i64 l))] = [.gone, .gone] := Spec.of_out spSzT_inj (t, l)
theorem szStrS_sound : Sound Go.Proofs.Tryd.prog 43 spSzStrS := by
  refine sound_fam GOK.nil Go.Proofs.Tryd.func43 (c := Go.Proofs.Tryd.f43.body.getD .skip) rfl (n := 28) rfl chk_szStringS rs_szStringS (fun _ => by simp) ?_ ?_
  · exact spSzStrS_inj
  · rintro ⟨ks, left⟩ ⟨⟨h1, h2⟩, h3, h4⟩
    simp only [lenB] at *
    simp only [x_szStringS, rg, go_sem, seval]
    refine ⟨by omega, fun _ => ⟨fun h => by simp only [szStrS]; rw [if_pos h], fun h => ?_⟩⟩
    refine pw_loop (ι := Nat × Int) (fun i => ks.length - i.1) (fun i => i.1 ≤ ks.length ∧ 0 ≤ i.2 ∧ i.2 ≤ left ∧ szStr (ks.drop i.1) i.2 = szStrS ks left)
      (fun i => ⟨[(0, .q (.c (.row 1 (strs ks)))), (1, .q (.c (.int .i64 i.2))), (5, .q (.c (.int .i64 i.1)))], [], []⟩) (0, left - ks.length) ⟨by omega, by omega, by omega, by simp only [szStrS, List.drop_zero]; rw [if_neg h]⟩ (Le.refl _) ?_
    rintro ⟨i, l⟩ ⟨hi, hl0, hl, heq⟩
    simp only at hi hl0 hl heq
    rcases Nat.lt_or_ge i ks.length with hlt | hge
    · obtain ⟨s, hs, hdr, hmem⟩ := drop_at hlt
      have h5 := strs_at hs
      have h6 := h2 s hmem
      have h7 : ((i : Int) < (ks.length : Int)) = True := by simp; omega
      rw [hdr] at heq
      simp only [szStr] at heq
      simp only [go_sem, seval, h5, h7]
      repeat' (first | with_reducible assumption | with_reducible refine And.intro ?_ ?_ | intro _)
      all_goals first | omega | skip
      · rw [if_neg (by omega)] at heq
        exact ⟨(i + 1, l - s.size), ⟨by simp only; omega, by simp only; omega, by simp only; omega, heq⟩, by simp only; omega, Le.refl _⟩
    · have h7 : ((i : Int) < (ks.length : Int)) = False := by simp; omega
      rw [List.drop_eq_nil_of_le hge] at heq
      simp only [szStr] at heq
      simp only [go_sem, seval, h7]
      exact heq.symm
theorem szT_sound (k : Nat) (hS : Sound Go.Proofs.Tryd.prog 44 (spSzTS k)) : Sound Go.Proofs.Tryd.prog 23 (spSzT (k + 1)) := by
  refine sound_fam (GOK.cons (l := [(44, spSzTS k)]) call_szStringS szStrS_sound (GOK.cons call_szValS hS GOK.nil)) Go.Proofs.Tryd.func23 (c := Go.Proofs.Tryd.f23.body.getD .skip) rfl (n := 25) rfl chk_szVal rs_szVal (fun _ => by simp) ?_ ?_
  · exact spSzT_inj
  · rintro ⟨t, left⟩ ⟨⟨h1, h2, h3⟩, h4⟩
    obtain ⟨kk, n, s, ks, l⟩ := t
    simp only [T.fit, lenB] at h1
    obtain ⟨_, _, f1, f2, f3, f4⟩ := h1
    have e1 := szStrS_le (ks := ks) (left := left - s.size)
    have e2 := szTS_le (l := l) (left := szStrS ks (left - s.size))
    have e3 : SizeOf.sizeOf l < k := by have e : SizeOf.sizeOf (T.mk kk n s ks l) < k + 1 := h4
                                        rw [T.mk.sizeOf_spec] at e; omega
    have e4 : szT (T.mk kk n s ks l) left = if left - s.size < 0 then -1 else if szStrS ks (left - s.size) < 0 then -1 else if szTS l (szStrS ks (left - s.size)) < 0 then -1 else szTS l (szStrS ks (left - s.size)) := by
      have e5 := szTL_le (l := l) (left := szStrS ks (left - s.size) - l.length)
      simp only [szT, szTS]
      repeat' split
      all_goals first | rfl | omega
    simp only [x_szVal, T.enc, go_sem, seval, rg, spSzStrS_md, spSzStrS_pre, spSzStrS_alts, spSzStrS_res, spSzStrS_out, spSzTS_md, spSzTS_pre, spSzTS_alts, spSzTS_res, spSzTS_out]
    rw [e4]
    repeat' (first | with_reducible assumption | with_reducible refine And.intro ?_ ?_ | intro _)
    all_goals first | omega | assumption | skip
theorem szTS_sound (k : Nat) (hS : Sound Go.Proofs.Tryd.prog 23 (spSzT k)) : Sound Go.Proofs.Tryd.prog 44 (spSzTS (k + 1)) := by
  refine sound_fam (GOK.cons call_szVal hS GOK.nil) Go.Proofs.Tryd.func44 (c := Go.Proofs.Tryd.f44.body.getD .skip) rfl (n := 27) rfl chk_szValS rs_szValS (fun _ => by simp) ?_ ?_
  · exact spSzTS_inj
  · rintro ⟨ks, left⟩ ⟨⟨h1, h2, h3, h4⟩, h5⟩
    simp only at h1 h2 h3 h4 h5
    simp only [lenB] at h1
    simp only [x_szValS, rg, go_sem, seval]
    refine ⟨by omega, fun _ => ⟨fun h => by simp only [szTS]; rw [if_pos h], fun h => ?_⟩⟩
    refine pw_loop (ι := Nat × Int) (fun i => ks.length - i.1) (fun i => i.1 ≤ ks.length ∧ 0 ≤ i.2 ∧ i.2 ≤ left ∧ szTL (ks.drop i.1) i.2 = szTS ks left)
      (fun i => ⟨[(0, .q (.c (.row 5 (encL ks)))), (1, .q (.c (.int .i64 i.2))), (5, .q (.c (.int .i64 i.1)))], [], []⟩) (0, left - ks.length) ⟨by omega, by omega, by omega, by simp only [szTS, List.drop_zero]; rw [if_neg h]⟩ (Le.refl _) ?_
    rintro ⟨i, l⟩ ⟨hi, hl0, hl, heq⟩
    simp only at hi hl0 hl heq
    rcases Nat.lt_or_ge i ks.length with hlt | hge
    · obtain ⟨t, hs, hdr, hmem⟩ := drop_at hlt
      have a1 := encL_at hs
      have a2 := fitL_mem h2 t hmem
      have a3 := size_mem hmem
      have a4 : ((i : Int) < (ks.length : Int)) = True := by simp; omega
      have a5 := szT_le (t := t) hl0
      have a6 := T.enc_len t
      have a7 : (szT t l < 0 → szTS ks left = -1) ∧ (¬ szT t l < 0 → szTL (ks.drop (i + 1)) (szT t l) = szTS ks left) := by
        rw [hdr] at heq
        simp only [szTL] at heq
        refine ⟨fun h => ?_, fun h => ?_⟩
        · rw [if_pos h] at heq; exact heq.symm
        · rw [if_neg h] at heq; exact heq
      simp only [go_sem, seval, rg, a1, a4, a6, toD_map, spSzT_md, spSzT_pre, spSzT_alts, spSzT_res, spSzT_out]
      repeat' (first | with_reducible assumption | with_reducible refine And.intro ?_ ?_ | intro _)
      all_goals first | omega | (exact a7.1 (by assumption)) | skip
      exact ⟨(i + 1, szT t l), ⟨by simp only; omega, by simp only; omega, by simp only; omega, a7.2 (by omega)⟩, by simp only; omega, Le.refl _⟩
    · have h7 : ((i : Int) < (ks.length : Int)) = False := by simp; omega
      rw [List.drop_eq_nil_of_le hge] at heq
      simp only [szTL] at heq
      simp only [go_sem, seval, h7]
      exact heq.symm
theorem sz_all (k : Nat) : Sound Go.Proofs.Tryd.prog 23 (spSzT k) ∧ Sound Go.Proofs.Tryd.prog 44 (spSzTS k) := by
  induction k with
  | zero => exact ⟨Sound.none, Sound.none⟩
  | succ k ih => exact ⟨szT_sound k ih.2, szTS_sound k ih.1⟩
def x_szFiltS : X := (.seq (.reg [⟨some 4, none, .mv (.k (.c (.int .i64 0)))⟩] none [0, 1]) (.seq (.reg [⟨some 6, none, .mv (.t 1)⟩, ⟨some 7, none, .mv (.t 0)⟩, ⟨some 8, none, .len (.t 7) false⟩, ⟨some 9, none, .bin false .sub (.t 6) (.t 8)⟩, ⟨some 1, none, .mv (.t 9)⟩] none [0, 1]) (.seq (.seq (.reg [⟨some 10, none, .mv (.t 1)⟩, ⟨some 11, none, .bin false .lss (.t 10) (.k (.c (.int .i64 0)))⟩] none [0, 1, 11]) (.cond (.t 11) (.seq (.reg [⟨some 4, none, .mv (.k (.c (.int .i64 (-1))))⟩] none [4]) .ret) .skip)) (.seq (.seq (.reg [⟨some 5, none, .mv (.k (.c (.int .i64 0)))⟩] none [0, 1, 5]) (.block 0 (.loop (.seq (.seq (.reg [⟨some 12, none, .mv (.t 5)⟩, ⟨some 13, none, .mv (.t 0)⟩, ⟨some 14, none, .len (.t 13) false⟩, ⟨some 15, none, .bin false .lss (.t 12) (.t 14)⟩] none [0, 1, 5, 15]) (.cond (.t 15) .skip (.exit 0))) (.seq (.block 1 (.seq (.reg [⟨some 18, none, .mv (.t 0)⟩, ⟨some 19, none, .mv (.t 5)⟩, ⟨some 20, none, .ia (.t 18) (.t 19) 9⟩, ⟨some 21, none, .load (.t 20) (some 9)⟩, ⟨some 22, none, .mv (.t 1)⟩, ⟨some 23, none, .call 10 [(.t 21), (.t 22)]⟩, ⟨some 1, none, .mv (.t 23)⟩] none [0, 1, 5]) (.seq (.reg [⟨some 24, none, .mv (.t 1)⟩, ⟨some 25, none, .bin false .lss (.t 24) (.k (.c (.int .i64 0)))⟩] none [0, 1, 5, 25]) (.cond (.t 25) (.seq (.reg [⟨some 4, none, .mv (.k (.c (.int .i64 (-1))))⟩] none [4]) .ret) .skip)))) (.reg [⟨some 16, none, .mv (.t 5)⟩, ⟨some 17, none, .bin false .add (.t 16) (.k (.c (.int .i64 1)))⟩, ⟨some 5, none, .mv (.t 17)⟩] none [0, 1, 5])))))) (.seq (.reg [⟨some 26, none, .mv (.t 1)⟩, ⟨some 4, none, .mv (.t 26)⟩] none [4]) .ret)))))
theorem chk_szFiltS : chkX Go.Proofs.Tryd.prog 27 (Go.Proofs.Tryd.f24.body.getD .skip) x_szFiltS = true := by kernel_rfl
theorem rs_szFiltS : okRs Go.Proofs.Tryd.prog Go.Proofs.Tryd.f24.results.toList [.tmp 4] = true := by kernel_rfl
theorem call_szFiltS : okCallee Go.Proofs.Tryd.prog 24 = true := by kernel_rfl
def x_szFilt : X := (.seq (.reg [⟨some 2, none, .box (.t 0) (some 9)⟩, ⟨some 4, none, .mv (.k (.c (.int .i64 0)))⟩] none [1, 2]) (.seq (.reg [⟨some 5, none, .mv (.t 1)⟩, ⟨some 6, none, .fa (.t 2) 2⟩, ⟨some 7, none, .load (.t 6) none⟩, ⟨some 8, none, .len (.t 7) true⟩, ⟨some 9, none, .bin false .sub (.t 5) (.t 8)⟩, ⟨some 1, none, .mv (.t 9)⟩] none [1, 2]) (.seq (.seq (.reg [⟨some 10, none, .mv (.t 1)⟩, ⟨some 11, none, .bin false .lss (.t 10) (.k (.c (.int .i64 0)))⟩] none [1, 2, 11]) (.cond (.t 11) (.seq (.reg [⟨some 4, none, .mv (.k (.c (.int .i64 (-1))))⟩] none [4]) .ret) .skip)) (.seq (.reg [⟨some 12, none, .fa (.t 2) 3⟩, ⟨some 13, none, .load (.t 12) (some 5)⟩, ⟨some 14, none, .mv (.t 1)⟩, ⟨some 15, none, .call 23 [(.t 13), (.t 14)]⟩, ⟨some 1, none, .mv (.t 15)⟩] none [1, 2]) (.seq (.seq (.reg [⟨some 16, none, .mv (.t 1)⟩, ⟨some 17, none, .bin false .lss (.t 16) (.k (.c (.int .i64 0)))⟩] none [1, 2, 17]) (.cond (.t 17) (.seq (.reg [⟨some 4, none, .mv (.k (.c (.int .i64 (-1))))⟩] none [4]) .ret) .skip)) (.seq (.reg [⟨some 18, none, .fa (.t 2) 8⟩, ⟨some 19, none, .load (.t 18) none⟩, ⟨some 20, none, .mv (.t 1)⟩, ⟨some 21, none, .call 24 [(.t 19), (.t 20)]⟩, ⟨some 1, none, .mv (.t 21)⟩] none [1]) (.seq (.seq (.reg [⟨some 22, none, .mv (.t 1)⟩, ⟨some 23, none, .bin false .lss (.t 22) (.k (.c (.int .i64 0)))⟩] none [1, 23]) (.cond (.t 23) (.seq (.reg [⟨some 4, none, .mv (.k (.c (.int .i64 (-1))))⟩] none [4]) .ret) .skip)) (.seq (.reg [⟨some 24, none, .mv (.t 1)⟩, ⟨some 4, none, .mv (.t 24)⟩] none [4]) .ret))))))))
theorem chk_szFilt : chkX Go.Proofs.Tryd.prog 25 (Go.Proofs.Tryd.f10.body.getD .skip) x_szFilt = true := by kernel_rfl
theorem rs_szFilt : okRs Go.Proofs.Tryd.prog Go.Proofs.Tryd.f10.results.toList [.tmp 4] = true := by kernel_rfl
theorem call_szFilt : okCallee Go.Proofs.Tryd.prog 10 = true := by kernel_rfl
noncomputable def spSzV  : Spec := Spec.of (ι := T × Int) [false, false] (fun i => [.d (.agg i.1.enc), .d (.one (.int .i64 i.2))]) (fun i => i.1.fit 140737488355328 ∧ 0 ≤ i.2 ∧ i.2 ≤ 1048576) (fun i => [.d (.one (.int .i64 (szT i.1 i.2)))]) (fun _ => [.gone, .gone])
theorem spSzV_inj : ∀ i j : T × Int, (fun (i : T × Int) => ([.d (.agg i.1.enc), .d (.one (.int .i64 i.2))] : List AV)) i = (fun (i : T × Int) => ([.d (.agg i.1.enc), .d (.one (.int .i64 i.2))] : List AV)) j → i = j := by
  rintro ⟨t, l⟩ ⟨t', l'⟩ h
  simp only [Prod.mk.injEq]
  simpa [strs_eq, T.enc_eq, encL_eq, F.enc_eq, encF_eq, Tk.enc_eq, encTk_eq, Gn.enc_eq, ints_eq] using h
theorem spSzV_md  : (spSzV).md = [false, false] := rfl
theorem spSzV_pre  (t : T) (l : Int) : (spSzV).pre [.d (.agg t.enc), .d (.one (.int .i64 l))] = (t.fit 140737488355328 ∧ 0 ≤ l ∧ l ≤ 1048576) := Spec.of_pre' spSzV_inj (t, l)
theorem spSzV_alts  : (spSzV).alts = none := rfl
theorem spSzV_res  (t : T) (l : Int) : (spSzV).res [.d (.agg t.enc), .d (.one (.int .i64 l))] = [.d (.one (.int .i64 (szT t l)))] := Spec.of_res spSzV_inj (t, l)
theorem spSzV_out  (t : T) (l : Int) : (spSzV).out [.d (.agg t.enc), .d (.one (.int .i64 l))] = [.gone, .gone] := Spec.of_out spSzV_inj (t, l)
theorem szV_sound : Sound Go.Proofs.Tryd.prog 23 spSzV := Sound.all (μ := fun i => SizeOf.sizeOf i.1) (fun k => (sz_all k).1)
noncomputable def spSzFS (k:Nat) : Spec := Spec.of (ι := (List F) × Int) [false, false] (fun i => [.d (.one (.row 9 (encF i.1))), .d (.one (.int .i64 i.2))]) (fun i => (lenB 140737488355328 i.1.length ∧ fitF 140737488355328 i.1 ∧ 0 ≤ i.2 ∧ i.2 ≤ 1048576) ∧ SizeOf.sizeOf i.1 < k) (fun i => [.d (.one (.int .i64 (szFS i.1 i.2)))]) (fun _ => [.gone, .gone])
theorem spSzFS_inj : ∀ i j : (List F) × Int, (fun (i : (List F) × Int) => ([.d (.one (.row 9 (encF i.1))), .d (.one (.int .i64 i.2))] : List AV)) i = (fun (i : (List F) × Int) => ([.d (.one (.row 9 (encF i.1))), .d (.one (.int .i64 i.2))] : List AV)) j → i = j := by
  rintro ⟨ks, l⟩ ⟨ks', l'⟩ h
  simp only [Prod.mk.injEq]
  simpa [strs_eq, T.enc_eq, encL_eq, F.enc_eq, encF_eq, Tk.enc_eq, encTk_eq, Gn.enc_eq, ints_eq] using h
theorem spSzFS_md (k:Nat) : (spSzFS k).md = [false, false] := rfl
theorem spSzFS_pre (k:Nat) (ks : List F) (l : Int) : (spSzFS k).pre [.d (.one (.row 9 (encF ks))), .d (.one (.int .i64 l))] = ((lenB 140737488355328 ks.length ∧ fitF 140737488355328 ks ∧ 0 ≤ l ∧ l ≤ 1048576) ∧ SizeOf.sizeOf ks < k) := Spec.of_pre' spSzFS_inj (ks, l)
theorem spSzFS_alts (k:Nat) : (spSzFS k).alts = none := rfl
theorem spSzFS_res (k:Nat) (ks : List F) (l : Int) : (spSzFS k).res [.d (.one (.row 9 (encF ks))), .d (.one (.int .i64 l))] = [.d (.one (.int .i64 (szFS ks l)))] := Spec.of_res spSzFS_inj (ks, l)
theorem spSzFS_out (k:Nat) (ks : List F) (l : Int) : (spSzFS k).out [.d (.one (.row 9 (encF ks))), .d (.one (.int .i64 l))] = [.gone, .gone] := Spec.of_out spSzFS_inj (ks, l)
noncomputable def spSzF (k:Nat) : Spec := Spec.of (ι := F × Int) [false, false] (fun i => [.d (.agg i.1.enc), .d (.one (.int .i64 i.2))]) (fun i => (i.1.fit 140737488355328 ∧ 0 ≤ i.2 ∧ i.2 ≤ 1048576) ∧ SizeOf.sizeOf i.1 < k) (fun i => [.d (.one (.int .i64 (szF i.1 i.2)))]) (fun _ => [.gone, .gone])
theorem spSzF_inj : ∀ i j : F × Int, (fun (i : F × Int) => ([.d (.agg i.1.enc), .d (.one (.int .i64 i.2))] : List AV)) i = (fun (i : F × Int) => ([.d (.agg i.1.enc), .d (.one (.int .i64 i.2))] : List AV)) j → i = j := by
  rintro ⟨t, l⟩ ⟨t', l'⟩ h
  simp only [Prod.mk.injEq]
  simpa [strs_eq, T.enc_eq, encL_eq, F.enc_eq, encF_eq, Tk.enc_eq, encTk_eq, Gn.enc_eq, ints_eq] using h
theorem spSzF_md (k:Nat) : (spSzF k).md = [false, false] := rfl
theorem spSzF_pre (k:Nat) (t : F) (l : Int) : (spSzF k).pre [.d (.agg t.enc), .d (.one (.int .i64 l))] = ((t.fit 140737488355328 ∧ 0 ≤ l ∧ l ≤ 1048576) ∧ SizeOf.sizeOf t < k) := Spec.of_pre' spSzF_inj (t, l)
theorem spSzF_alts (k:Nat) : (spSzF k).alts = none := rfl
theorem spSzF_res (k:Nat) (t : F) (l : Int) : (spSzF k).res [.d (.agg t.enc), .d (.one (.int .i64 l))] = [.d (.one (.int .i64 (szF t l)))] := Spec.of_res spSzF_inj (t, l)
theorem spSzF_out (k:Nat) (t : F) (l : Int) : (spSzF k).out [.d (.agg t.enc), .d (.one (.int .i64 l))] = [.gone, .gone] := Spec.of_out spSzF_inj (t, l)
theorem szF_sound (k : Nat) (hS : Sound Go.Proofs.Tryd.prog 24 (spSzFS k)) : Sound Go.Proofs.Tryd.prog 10 (spSzF (k + 1)) := by
  refine sound_fam (GOK.cons (l := [(24, spSzFS k)]) call_szVal szV_sound (GOK.cons call_szFiltS hS GOK.nil)) Go.Proofs.Tryd.func10 (c := Go.Proofs.Tryd.f10.body.getD .skip) rfl (n := 25) rfl chk_szFilt rs_szFilt (fun _ => by simp) ?_ ?_
  · exact spSzF_inj
  · rintro ⟨t, left⟩ ⟨⟨h1, h2, h3⟩, h4⟩
    obtain ⟨kk, n, s, v, l⟩ := t
    obtain ⟨vk, vn, vs, vks, vl⟩ := v
    simp only [F.fit, lenB] at h1
    obtain ⟨_, _, f1, f2, f3, f4⟩ := h1
    generalize hv : T.mk vk vn vs vks vl = v at *
    have e1 := szT_le (t := v) (left := left - s.size)
    have e2 := szFS_le (l := l) (left := szT v (left - s.size))
    have e3 : SizeOf.sizeOf l < k := by have e : SizeOf.sizeOf (F.mk kk n s v l) < k + 1 := h4
                                        rw [F.mk.sizeOf_spec] at e; omega
    have e4 : szF (F.mk kk n s v l) left = if left - s.size < 0 then -1 else if szT v (left - s.size) < 0 then -1 else if szFS l (szT v (left - s.size)) < 0 then -1 else szFS l (szT v (left - s.size)) := by
      have e5 := szFL_le (l := l) (left := szT v (left - s.size) - l.length)
      simp only [szF, szFS]
      repeat' split
      all_goals first | rfl | omega
    have e6 : v.enc = [.int .i64 vk, .int .i64 vn, .str vs, .row 1 (strs vks), .row 5 (encL vl)] := by rw [← hv]; rfl
    have e7 : ∀ k l', [AV.d (.agg [.int .i64 vk, .int .i64 vn, .str vs, .row 1 (strs vks), .row 5 (encL vl)]), .d (.one (.int .i64 l'))] = [AV.d (.agg v.enc), .d (.one (.int k l'))] ↔ k = .i64 := fun k l' => by rw [e6]; simp; exact eq_comm
    have p1 := fun l' => spSzV_pre v l'
    have p2 := fun l' => spSzV_res v l'
    have p3 := fun l' => spSzV_out v l'
    rw [e6] at p1 p2 p3
    simp only [x_szFilt, F.enc, e6, go_sem, seval, rg, spSzV_md, spSzV_alts, p1, p2, p3, spSzFS_md, spSzFS_pre, spSzFS_alts, spSzFS_res, spSzFS_out]
    rw [e4]
    repeat' (first | with_reducible assumption | with_reducible refine And.intro ?_ ?_ | intro _)
    all_goals first | omega | assumption | skip
theorem szFS_sound (k : Nat) (hS : Sound Go.Proofs.Tryd.prog 10 (spSzF k)) : Sound Go.Proofs.Tryd.prog 24 (spSzFS (k + 1)) := by
  refine sound_fam (GOK.cons call_szFilt hS GOK.nil) Go.Proofs.Tryd.func24 (c := Go.Proofs.Tryd.f24.body.getD .skip) rfl (n := 27) rfl chk_szFiltS rs_szFiltS (fun _ => by simp) ?_ ?_
  · exact spSzFS_inj
  · rintro ⟨ks, left⟩ ⟨⟨h1, h2, h3, h4⟩, h5⟩
    simp only at h1 h2 h3 h4 h5
    simp only [lenB] at h1
    simp only [x_szFiltS, rg, go_sem, seval]
    refine ⟨by omega, fun _ => ⟨fun h => by simp only [szFS]; rw [if_pos h], fun h => ?_⟩⟩
    refine pw_loop (ι := Nat × Int) (fun i => ks.length - i.1) (fun i => i.1 ≤ ks.length ∧ 0 ≤ i.2 ∧ i.2 ≤ left ∧ szFL (ks.drop i.1) i.2 = szFS ks left)
      (fun i => ⟨[(0, .q (.c (.row 9 (encF ks)))), (1, .q (.c (.int .i64 i.2))), (5, .q (.c (.int .i64 i.1)))], [], []⟩) (0, left - ks.length) ⟨by omega, by omega, by omega, by simp only [szFS, List.drop_zero]; rw [if_neg h]⟩ (Le.refl _) ?_
    rintro ⟨i, l⟩ ⟨hi, hl0, hl, heq⟩
    simp only at hi hl0 hl heq
    rcases Nat.lt_or_ge i ks.length with hlt | hge
    · obtain ⟨t, hs, hdr, hmem⟩ := drop_at hlt
      have a1 := encF_at hs
      have a2 := fitF_mem h2 t hmem
      have a3 := size_mem hmem
      have a4 : ((i : Int) < (ks.length : Int)) = True := by simp; omega
      have a5 := szF_le (t := t) hl0
      have a6 := F.enc_len t
      have a7 : (szF t l < 0 → szFS ks left = -1) ∧ (¬ szF t l < 0 → szFL (ks.drop (i + 1)) (szF t l) = szFS ks left) := by
        rw [hdr] at heq
        simp only [szFL] at heq
        refine ⟨fun h => ?_, fun h => ?_⟩
        · rw [if_pos h] at heq; exact heq.symm
        · rw [if_neg h] at heq; exact heq
      simp only [go_sem, seval, rg, a1, a4, a6, toD_map, spSzF_md, spSzF_pre, spSzF_alts, spSzF_res, spSzF_out]
      repeat' (first | with_reducible assumption | with_reducible refine And.intro ?_ ?_ | intro _)
      all_goals first | omega | (exact a7.1 (by assumption)) | skip
      exact ⟨(i + 1, szF t l), ⟨by simp only; omega, by simp only; omega, by simp only; omega, a7.2 (by omega)⟩, by simp only; omega, Le.refl _⟩
    · have h7 : ((i : Int) < (ks.length : Int)) = False := by simp; omega
      rw [List.drop_eq_nil_of_le hge] at heq
      simp only [szFL] at heq
      simp only [go_sem, seval, h7]
      exact heq.symm
theorem szF_all (k : Nat) : Sound Go.Proofs.Tryd.prog 10 (spSzF k) ∧ Sound Go.Proofs.Tryd.prog 24 (spSzFS k) := by
  induction k with
  | zero => exact ⟨Sound.none, Sound.none⟩
  | succ k ih => exact ⟨szF_sound k ih.2, szFS_sound k ih.1⟩
end Go.Proofs.Pw
/- Copies of trees: the functions of the laws' text. -/
set_option linter.unusedSimpArgs false
set_option maxRecDepth 20000
namespace Go.Proofs.Pw
set_option linter.unusedSectionVars false
variable [Globs]
def x_toStringS : X := (.seq (.reg [⟨some 2, none, .mv (.k (.z 1))⟩] none [0]) (.seq (.reg [⟨some 5, none, .mv (.t 0)⟩, ⟨some 6, none, .len (.t 5) false⟩, ⟨some 7, none, .mk (.t 6) [(.str ⟨#[]⟩)] 16⟩, ⟨some 3, none, .mv (.t 7)⟩] none [0, 3]) (.seq (.seq (.reg [⟨some 4, none, .mv (.k (.c (.int .i64 0)))⟩] none [0, 3, 4]) (.block 0 (.loop (.seq (.seq (.reg [⟨some 8, none, .mv (.t 4)⟩, ⟨some 9, none, .mv (.t 0)⟩, ⟨some 10, none, .len (.t 9) false⟩, ⟨some 11, none, .bin false .lss (.t 8) (.t 10)⟩] none [0, 3, 4, 11]) (.cond (.t 11) .skip (.exit 0))) (.seq (.block 1 (.reg [⟨some 14, none, .mv (.t 3)⟩, ⟨some 15, none, .mv (.t 4)⟩, ⟨some 16, none, .mv (.t 0)⟩, ⟨some 17, none, .mv (.t 4)⟩, ⟨some 18, none, .ia (.t 16) (.t 17) 1⟩, ⟨some 19, none, .load (.t 18) none⟩, ⟨some 20, none, .ia (.t 14) (.t 15) 1⟩, ⟨none, none, .st (.t 20) (.t 19) none⟩] none [0, 3, 4])) (.reg [⟨some 12, none, .mv (.t 4)⟩, ⟨some 13, none, .bin false .add (.t 12) (.k (.c (.int .i64 1)))⟩, ⟨some 4, none, .mv (.t 13)⟩] none [0, 3, 4])))))) (.seq (.reg [⟨some 21, none, .mv (.t 3)⟩, ⟨some 2, none, .mv (.t 21)⟩] none [2]) .ret))))
theorem chk_toStringS : chkX Go.Proofs.Tryd.prog 22 (Go.Proofs.Tryd.f48.body.getD .skip) x_toStringS = true := by kernel_rfl
theorem rs_toStringS : okRs Go.Proofs.Tryd.prog Go.Proofs.Tryd.f48.results.toList [.tmp 2] = true := by kernel_rfl
theorem call_toStringS : okCallee Go.Proofs.Tryd.prog 48 = true := by kernel_rfl
def x_toValS : X := (.seq (.reg [⟨some 2, none, .mv (.k (.z 5))⟩] none [0]) (.seq (.reg [⟨some 5, none, .mv (.t 0)⟩, ⟨some 6, none, .len (.t 5) false⟩, ⟨some 7, none, .mk (.t 6) [(.int .i64 0), (.int .i64 0), (.str ⟨#[]⟩), (.row 1 []), (.row 5 [])] 80⟩, ⟨some 3, none, .mv (.t 7)⟩] none [0, 3]) (.seq (.seq (.reg [⟨some 4, none, .mv (.k (.c (.int .i64 0)))⟩] none [0, 3, 4]) (.block 0 (.loop (.seq (.seq (.reg [⟨some 8, none, .mv (.t 4)⟩, ⟨some 9, none, .mv (.t 0)⟩, ⟨some 10, none, .len (.t 9) false⟩, ⟨some 11, none, .bin false .lss (.t 8) (.t 10)⟩] none [0, 3, 4, 11]) (.cond (.t 11) .skip (.exit 0))) (.seq (.block 1 (.reg [⟨some 14, none, .mv (.t 3)⟩, ⟨some 15, none, .mv (.t 4)⟩, ⟨some 16, none, .mv (.t 0)⟩, ⟨some 17, none, .mv (.t 4)⟩, ⟨some 18, none, .ia (.t 16) (.t 17) 5⟩, ⟨some 19, none, .load (.t 18) (some 5)⟩, ⟨some 20, none, .call 27 [(.t 19)]⟩, ⟨some 21, none, .ia (.t 14) (.t 15) 5⟩, ⟨none, none, .st (.t 21) (.t 20) (some 5)⟩] none [0, 3, 4])) (.reg [⟨some 12, none, .mv (.t 4)⟩, ⟨some 13, none, .bin false .add (.t 12) (.k (.c (.int .i64 1)))⟩, ⟨some 4, none, .mv (.t 13)⟩] none [0, 3, 4])))))) (.seq (.reg [⟨some 22, none, .mv (.t 3)⟩, ⟨some 2, none, .mv (.t 22)⟩] none [2]) .ret))))
theorem chk_toValS : chkX Go.Proofs.Tryd.prog 23 (Go.Proofs.Tryd.f49.body.getD .skip) x_toValS = true := by kernel_rfl
theorem rs_toValS : okRs Go.Proofs.Tryd.prog Go.Proofs.Tryd.f49.results.toList [.tmp 2] = true := by kernel_rfl
theorem call_toValS : okCallee Go.Proofs.Tryd.prog 49 = true := by kernel_rfl
def x_toVal : X := (.seq (.reg [⟨some 1, none, .box (.t 0) (some 5)⟩, ⟨some 2, none, .alloc [(.c (.int .i64 0)), (.c (.int .i64 0)), (.c (.str ⟨#[]⟩)), (.z 1), (.z 5)]⟩] none [1, 2]) (.seq (.reg [⟨some 3, none, .alloc [(.c (.int .i64 0)), (.c (.int .i64 0)), (.c (.str ⟨#[]⟩)), (.z 1), (.z 5)]⟩] none [1, 2, 3]) (.seq (.reg [⟨some 4, none, .fa (.t 1) 0⟩, ⟨some 5, none, .load (.t 4) none⟩, ⟨some 6, none, .fa (.t 3) 0⟩, ⟨none, none, .st (.t 6) (.t 5) none⟩] none [1, 2, 3]) (.seq (.reg [⟨some 7, none, .fa (.t 1) 1⟩, ⟨some 8, none, .load (.t 7) none⟩, ⟨some 9, none, .fa (.t 3) 1⟩, ⟨none, none, .st (.t 9) (.t 8) none⟩] none [1, 2, 3]) (.seq (.reg [⟨some 10, none, .fa (.t 1) 2⟩, ⟨some 11, none, .load (.t 10) none⟩, ⟨some 12, none, .fa (.t 3) 2⟩, ⟨none, none, .st (.t 12) (.t 11) none⟩] none [1, 2, 3]) (.seq (.reg [⟨some 13, none, .fa (.t 1) 3⟩, ⟨some 14, none, .load (.t 13) none⟩, ⟨some 15, none, .call 48 [(.t 14)]⟩, ⟨some 16, none, .fa (.t 3) 3⟩, ⟨none, none, .st (.t 16) (.t 15) none⟩] none [1, 2, 3]) (.seq (.reg [⟨some 17, none, .fa (.t 1) 4⟩, ⟨some 18, none, .load (.t 17) none⟩, ⟨some 19, none, .call 49 [(.t 18)]⟩, ⟨some 20, none, .fa (.t 3) 4⟩, ⟨none, none, .st (.t 20) (.t 19) none⟩] none [2, 3]) (.seq (.reg [⟨some 21, none, .load (.t 3) (some 5)⟩, ⟨none, none, .st (.t 2) (.t 21) (some 5)⟩] none [2]) .ret))))))))
theorem chk_toVal : chkX Go.Proofs.Tryd.prog 22 (Go.Proofs.Tryd.f27.body.getD .skip) x_toVal = true := by kernel_rfl
theorem rs_toVal : okRs Go.Proofs.Tryd.prog Go.Proofs.Tryd.f27.results.toList [.cell 2 (some 5)] = true := by kernel_rfl
theorem call_toVal : okCallee Go.Proofs.Tryd.prog 27 = true := by kernel_rfl
noncomputable def spToStrS  : Spec := Spec.of (ι := (List ByteArray)) [false] (fun i => [.d (.one (.row 1 (strs i)))]) (fun i => lenB 1048576 i.length) (fun i => [.d (.one (.row 1 (strs i)))]) (fun _ => [.gone])
theorem spToStrS_inj : ∀ i j : (List ByteArray), (fun (i : (List ByteArray)) => ([.d (.one (.row 1 (strs i)))] : List AV)) i = (fun (i : (List ByteArray)) => ([.d (.one (.row 1 (strs i)))] : List AV)) j → i = j := by
  intro ks ks' h
  simpa [strs_eq, T.enc_eq, encL_eq, F.enc_eq, encF_eq, Tk.enc_eq, encTk_eq, Gn.enc_eq, ints_eq] using h
theorem spToStrS_md  : (spToStrS).md = [false] := rfl
theorem spToStrS_pre  (ks : List ByteArray) : (spToStrS).pre [.d (.one (.row 1 (strs ks)))] = (lenB 1048576 ks.length) := Spec.of_pre' spToStrS_inj ks
theorem spToStrS_alts  : (spToStrS).alts = none := rfl
theorem spToStrS_res  (ks : List ByteArray) : (spToStrS).res [.d (.one (.row 1 (strs ks)))] = [.d (.one (.row 1 (strs ks)))] := Spec.of_res spToStrS_inj ks
theorem spToStrS_out  (ks : List ByteArray) : (spToStrS).out [.d (.one (.row 1 (strs ks)))] = [.gone] := Spec.of_out spToStrS_inj ks
theorem toStrS_sound : Sound Go.Proofs.Tryd.prog 48 spToStrS := by
  refine sound_fam GOK.nil Go.Proofs.Tryd.func48 (c := Go.Proofs.Tryd.f48.body.getD .skip) rfl (n := 22) rfl chk_toStringS rs_toStringS (fun _ => by simp) ?_ ?_
  · exact spToStrS_inj
  · intro ks h1
    simp only [lenB] at h1
    simp only [x_toStringS, rg, go_sem, seval]
    repeat' (first | with_reducible assumption | with_reducible refine And.intro ?_ ?_ | intro _)
    all_goals first | omega | skip
    have hl : (strs ks).length = (List.replicate ks.length [C.str ⟨#[]⟩]).length := by simp [strs_len]
    refine pw_loop (ι := Nat) (fun i => ks.length - i) (fun i => i ≤ ks.length)
      (fun i => ⟨[(0, .q (.c (.row 1 (strs ks)))), (3, .q (.own 7)), (4, .q (.c (.int .i64 i)))], [], [(7, 1, (strs ks).take i ++ (List.replicate ks.length [C.str ⟨#[]⟩]).drop i)]⟩) 0 (Nat.zero_le _) (Le.refl _) ?_
    intro i hi
    rcases Nat.lt_or_ge i ks.length with hlt | hge
    · obtain ⟨s, hs, hdr, hmem⟩ := drop_at hlt
      have a1 := strs_at hs
      have a2 : ((i : Int) < (ks.length : Int)) = True := by simp; omega
      have a3 : ((strs ks).take i ++ (List.replicate ks.length [C.str ⟨#[]⟩]).drop i).length = ks.length := by rw [fill_len hl]; simp
      have a4 : ((strs ks).take i ++ (List.replicate ks.length [C.str ⟨#[]⟩]).drop i).getD i [] = [C.str ⟨#[]⟩] := by rw [fill_get hl (by rw [strs_len]; exact hlt), getD_rep hlt]
      have a5 : ((strs ks).take i ++ (List.replicate ks.length [C.str ⟨#[]⟩]).drop i).set i [C.str s] = (strs ks).take (i + 1) ++ (List.replicate ks.length [C.str ⟨#[]⟩]).drop (i + 1) := fill_set hl (by simp [strs, hs])
      simp only [go_sem, seval, rg, a1, a2, a3, a4, a5]
      repeat' (first | with_reducible assumption | with_reducible refine And.intro ?_ ?_ | intro _)
      all_goals first | omega | skip
      exact ⟨i + 1, by omega, by omega, Le.refl _⟩
    · have a2 : ((i : Int) < (ks.length : Int)) = False := by simp; omega
      have hie : i = (strs ks).length := by rw [strs_len]; omega
      have a3 : (strs ks).take i ++ (List.replicate ks.length [C.str ⟨#[]⟩]).drop i = strs ks := by rw [hie]; exact fill_all hl
      simp only [go_sem, seval, a2, a3]
noncomputable def spToTS (k:Nat) : Spec := Spec.of (ι := (List T)) [false] (fun i => [.d (.one (.row 5 (encL i)))]) (fun i => (lenB 1048576 i.length ∧ fitL 1048576 i) ∧ SizeOf.sizeOf i < k) (fun i => [.d (.one (.row 5 (encL i)))]) (fun _ => [.gone])
theorem spToTS_inj : ∀ i j : (List T), (fun (i : (List T)) => ([.d (.one (.row 5 (encL i)))] : List AV)) i = (fun (i : (List T)) => ([.d (.one (.row 5 (encL i)))] : List AV)) j → i = j := by
  intro ks ks' h
  simpa [strs_eq, T.enc_eq, encL_eq, F.enc_eq, encF_eq, Tk.enc_eq, encTk_eq, Gn.enc_eq, ints_eq] using h
theorem spToTS_md (k:Nat) : (spToTS k).md = [false] := rfl
theorem spToTS_pre (k:Nat) (ks : List T) : (spToTS k).pre [.d (.one (.row 5 (encL ks)))] = ((lenB 1048576 ks.length ∧ fitL 1048576 ks) ∧ SizeOf.sizeOf ks < k) := Spec.of_pre' spToTS_inj ks
theorem spToTS_alts (k:Nat) : (spToTS k).alts = none := rfl
theorem spToTS_res (k:Nat) (ks : List T) : (spToTS k).res [.d (.one (.row 5 (encL ks)))] = [.d (.one (.row 5 (encL ks)))] := Spec.of_res spToTS_inj ks
theorem spToTS_out (k:Nat) (ks : List T) : (spToTS k).out [.d (.one (.row 5 (encL ks)))] = [.gone] := Spec.of_out spToTS_inj ks
noncomputable def spToT (k:Nat) : Spec := Spec.of (ι := T) [false] (fun i => [.d (.agg i.enc)]) (fun i => (i.fit 1048576) ∧ SizeOf.sizeOf i < k) (fun i => [.d (.agg i.enc)]) (fun _ => [.gone])
theorem spToT_inj : ∀ i j : T, (fun (i : T) => ([.d (.agg i.enc)] : List AV)) i = (fun (i : T) => ([.d (.agg i.enc)] : List AV)) j → i = j := by
  intro t t' h
  simpa [strs_eq, T.enc_eq, encL_eq, F.enc_eq, encF_eq, Tk.enc_eq, encTk_eq, Gn.enc_eq, ints_eq] using h
theorem spToT_md (k:Nat) : (spToT k).md = [false] := rfl
theorem spToT_pre (k:Nat) (t : T) : (spToT k).pre [.d (.agg t.enc)] = ((t.fit 1048576) ∧ SizeOf.sizeOf t < k) := Spec.of_pre' spToT_inj t
theorem spToT_alts (k:Nat) : (spToT k).alts = none := rfl
theorem spToT_res (k:Nat) (t : T) : (spToT k).res [.d (.agg t.enc)] = [.d (.agg t.enc)] := Spec.of_res spToT_inj t
theorem spToT_out (k:Nat) (t : T) : (spToT k).out [.d (.agg t.enc)] = [.gone] := Spec.of_out spToT_inj t
theorem toT_sound (k : Nat) (hS : Sound Go.Proofs.Tryd.prog 49 (spToTS k)) : Sound Go.Proofs.Tryd.prog 27 (spToT (k + 1)) := by
  refine sound_fam (GOK.cons (l := [(49, spToTS k)]) call_toStringS toStrS_sound (GOK.cons call_toValS hS GOK.nil)) Go.Proofs.Tryd.func27 (c := Go.Proofs.Tryd.f27.body.getD .skip) rfl (n := 22) rfl chk_toVal rs_toVal (fun _ => by simp) ?_ ?_
  · exact spToT_inj
  · rintro t ⟨h1, h4⟩
    obtain ⟨kk, n, s, ks, l⟩ := t
    simp only [T.fit, strsFit] at h1
    obtain ⟨_, _, f1, ⟨f2, f2'⟩, f3, f4⟩ := h1
    have e3 : SizeOf.sizeOf l < k := by have e : SizeOf.sizeOf (T.mk kk n s ks l) < k + 1 := h4
                                        rw [T.mk.sizeOf_spec] at e; omega
    simp only [x_toVal, T.enc, go_sem, seval, rg, spToStrS_md, spToStrS_pre, spToStrS_alts, spToStrS_res, spToStrS_out, spToTS_md, spToTS_pre, spToTS_alts, spToTS_res, spToTS_out]
    repeat' (first | with_reducible assumption | with_reducible refine And.intro ?_ ?_ | intro _)
    all_goals first | omega | assumption | skip
theorem toTS_sound (k : Nat) (hS : Sound Go.Proofs.Tryd.prog 27 (spToT k)) : Sound Go.Proofs.Tryd.prog 49 (spToTS (k + 1)) := by
  refine sound_fam (GOK.cons call_toVal hS GOK.nil) Go.Proofs.Tryd.func49 (c := Go.Proofs.Tryd.f49.body.getD .skip) rfl (n := 23) rfl chk_toValS rs_toValS (fun _ => by simp) ?_ ?_
  · exact spToTS_inj
  · intro ks h1
    obtain ⟨⟨h1, h2⟩, h3⟩ := h1
    simp only [lenB] at h1
    simp only [x_toValS, rg, go_sem, seval]
    repeat' (first | with_reducible assumption | with_reducible refine And.intro ?_ ?_ | intro _)
    all_goals first | omega | skip
    have hl : (encL ks).length = (List.replicate ks.length [C.int .i64 0, C.int .i64 0, C.str ⟨#[]⟩, C.row 1 [], C.row 5 []]).length := by simp [encL_len]
    refine pw_loop (ι := Nat) (fun i => ks.length - i) (fun i => i ≤ ks.length)
      (fun i => ⟨[(0, .q (.c (.row 5 (encL ks)))), (3, .q (.own 7)), (4, .q (.c (.int .i64 i)))], [], [(7, 5, (encL ks).take i ++ (List.replicate ks.length [C.int .i64 0, C.int .i64 0, C.str ⟨#[]⟩, C.row 1 [], C.row 5 []]).drop i)]⟩) 0 (Nat.zero_le _) (Le.refl _) ?_
    intro i hi
    rcases Nat.lt_or_ge i ks.length with hlt | hge
    · obtain ⟨s, hs, hdr, hmem⟩ := drop_at hlt
      have a1 := encL_at hs
      have a2 : ((i : Int) < (ks.length : Int)) = True := by simp; omega
      have a3 : ((encL ks).take i ++ (List.replicate ks.length [C.int .i64 0, C.int .i64 0, C.str ⟨#[]⟩, C.row 1 [], C.row 5 []]).drop i).length = ks.length := by rw [fill_len hl]; simp
      have a4 : ((encL ks).take i ++ (List.replicate ks.length [C.int .i64 0, C.int .i64 0, C.str ⟨#[]⟩, C.row 1 [], C.row 5 []]).drop i).getD i [] = [C.int .i64 0, C.int .i64 0, C.str ⟨#[]⟩, C.row 1 [], C.row 5 []] := by rw [fill_get hl (by rw [encL_len]; exact hlt), getD_rep hlt]
      have a5 : ((encL ks).take i ++ (List.replicate ks.length [C.int .i64 0, C.int .i64 0, C.str ⟨#[]⟩, C.row 1 [], C.row 5 []]).drop i).set i s.enc = (encL ks).take (i + 1) ++ (List.replicate ks.length [C.int .i64 0, C.int .i64 0, C.str ⟨#[]⟩, C.row 1 [], C.row 5 []]).drop (i + 1) := fill_set hl (by rw [encL_map]; simp [hs])
      have a6 := T.enc_len s
      have a7 := fitL_mem h2 s hmem
      have a8 := size_mem hmem
      have a9 : placeC [C.int .i64 0, C.int .i64 0, C.str ⟨#[]⟩, C.row 1 [], C.row 5 []] 0 s.enc = s.enc := placeC_whole (by rw [a6]; rfl)
      simp only [rg, a9, go_sem, seval, a1, a2, a3, a4, a5, a6, List.length_map, spToT_md, spToT_pre, spToT_alts, spToT_res, spToT_out]
      repeat' (first | with_reducible assumption | with_reducible refine And.intro ?_ ?_ | intro _)
      all_goals first | omega | skip
      exact ⟨i + 1, by omega, by omega, Le.refl _⟩
    · have a2 : ((i : Int) < (ks.length : Int)) = False := by simp; omega
      have hie : i = (encL ks).length := by rw [encL_len]; omega
      have a3 : (encL ks).take i ++ (List.replicate ks.length [C.int .i64 0, C.int .i64 0, C.str ⟨#[]⟩, C.row 1 [], C.row 5 []]).drop i = encL ks := by rw [hie]; exact fill_all hl
      simp only [go_sem, seval, a2, a3]
theorem toT_all (k : Nat) : Sound Go.Proofs.Tryd.prog 27 (spToT k) ∧ Sound Go.Proofs.Tryd.prog 49 (spToTS k) := by
  induction k with
  | zero => exact ⟨Sound.none, Sound.none⟩
  | succ k ih => exact ⟨toT_sound k ih.2, toTS_sound k ih.1⟩
noncomputable def spToV  : Spec := Spec.of (ι := T) [false] (fun i => [.d (.agg i.enc)]) (fun i => i.fit 1048576) (fun i => [.d (.agg i.enc)]) (fun _ => [.gone])
theorem spToV_inj : ∀ i j : T, (fun (i : T) => ([.d (.agg i.enc)] : List AV)) i = (fun (i : T) => ([.d (.agg i.enc)] : List AV)) j → i = j := by
  intro t t' h
  simpa [strs_eq, T.enc_eq, encL_eq, F.enc_eq, encF_eq, Tk.enc_eq, encTk_eq, Gn.enc_eq, ints_eq] using h
theorem spToV_md  : (spToV).md = [false] := rfl
theorem spToV_pre  (t : T) : (spToV).pre [.d (.agg t.enc)] = (t.fit 1048576) := Spec.of_pre' spToV_inj t
theorem spToV_alts  : (spToV).alts = none := rfl
theorem spToV_res  (t : T) : (spToV).res [.d (.agg t.enc)] = [.d (.agg t.enc)] := Spec.of_res spToV_inj t
theorem spToV_out  (t : T) : (spToV).out [.d (.agg t.enc)] = [.gone] := Spec.of_out spToV_inj t
theorem toV_sound : Sound Go.Proofs.Tryd.prog 27 spToV := Sound.all (μ := fun i => SizeOf.sizeOf i) (fun k => (toT_all k).1)
def x_toFiltS : X := (.seq (.reg [⟨some 2, none, .mv (.k (.z 9))⟩] none [0]) (.seq (.reg [⟨some 5, none, .mv (.t 0)⟩, ⟨some 6, none, .len (.t 5) false⟩, ⟨some 7, none, .mk (.t 6) [(.int .i64 0), (.int .i64 0), (.str ⟨#[]⟩), (.int .i64 0), (.int .i64 0), (.str ⟨#[]⟩), (.row 1 []), (.row 5 []), (.row 9 [])] 136⟩, ⟨some 3, none, .mv (.t 7)⟩] none [0, 3]) (.seq (.seq (.reg [⟨some 4, none, .mv (.k (.c (.int .i64 0)))⟩] none [0, 3, 4]) (.block 0 (.loop (.seq (.seq (.reg [⟨some 8, none, .mv (.t 4)⟩, ⟨some 9, none, .mv (.t 0)⟩, ⟨some 10, none, .len (.t 9) false⟩, ⟨some 11, none, .bin false .lss (.t 8) (.t 10)⟩] none [0, 3, 4, 11]) (.cond (.t 11) .skip (.exit 0))) (.seq (.block 1 (.reg [⟨some 14, none, .mv (.t 3)⟩, ⟨some 15, none, .mv (.t 4)⟩, ⟨some 16, none, .mv (.t 0)⟩, ⟨some 17, none, .mv (.t 4)⟩, ⟨some 18, none, .ia (.t 16) (.t 17) 9⟩, ⟨some 19, none, .load (.t 18) (some 9)⟩, ⟨some 20, none, .call 12 [(.t 19)]⟩, ⟨some 21, none, .ia (.t 14) (.t 15) 9⟩, ⟨none, none, .st (.t 21) (.t 20) (some 9)⟩] none [0, 3, 4])) (.reg [⟨some 12, none, .mv (.t 4)⟩, ⟨some 13, none, .bin false .add (.t 12) (.k (.c (.int .i64 1)))⟩, ⟨some 4, none, .mv (.t 13)⟩] none [0, 3, 4])))))) (.seq (.reg [⟨some 22, none, .mv (.t 3)⟩, ⟨some 2, none, .mv (.t 22)⟩] none [2]) .ret))))
theorem chk_toFiltS : chkX Go.Proofs.Tryd.prog 23 (Go.Proofs.Tryd.f28.body.getD .skip) x_toFiltS = true := by kernel_rfl
theorem rs_toFiltS : okRs Go.Proofs.Tryd.prog Go.Proofs.Tryd.f28.results.toList [.tmp 2] = true := by kernel_rfl
theorem call_toFiltS : okCallee Go.Proofs.Tryd.prog 28 = true := by kernel_rfl
def x_toFilt : X := (.seq (.reg [⟨some 1, none, .box (.t 0) (some 9)⟩, ⟨some 2, none, .alloc [(.c (.int .i64 0)), (.c (.int .i64 0)), (.c (.str ⟨#[]⟩)), (.c (.int .i64 0)), (.c (.int .i64 0)), (.c (.str ⟨#[]⟩)), (.z 1), (.z 5), (.z 9)]⟩] none [1, 2]) (.seq (.reg [⟨some 3, none, .alloc [(.c (.int .i64 0)), (.c (.int .i64 0)), (.c (.str ⟨#[]⟩)), (.c (.int .i64 0)), (.c (.int .i64 0)), (.c (.str ⟨#[]⟩)), (.z 1), (.z 5), (.z 9)]⟩] none [1, 2, 3]) (.seq (.reg [⟨some 4, none, .fa (.t 1) 0⟩, ⟨some 5, none, .load (.t 4) none⟩, ⟨some 6, none, .fa (.t 3) 0⟩, ⟨none, none, .st (.t 6) (.t 5) none⟩] none [1, 2, 3]) (.seq (.reg [⟨some 7, none, .fa (.t 1) 1⟩, ⟨some 8, none, .load (.t 7) none⟩, ⟨some 9, none, .fa (.t 3) 1⟩, ⟨none, none, .st (.t 9) (.t 8) none⟩] none [1, 2, 3]) (.seq (.reg [⟨some 10, none, .fa (.t 1) 2⟩, ⟨some 11, none, .load (.t 10) none⟩, ⟨some 12, none, .fa (.t 3) 2⟩, ⟨none, none, .st (.t 12) (.t 11) none⟩] none [1, 2, 3]) (.seq (.reg [⟨some 13, none, .fa (.t 1) 3⟩, ⟨some 14, none, .load (.t 13) (some 5)⟩, ⟨some 15, none, .call 27 [(.t 14)]⟩, ⟨some 16, none, .fa (.t 3) 3⟩, ⟨none, none, .st (.t 16) (.t 15) (some 5)⟩] none [1, 2, 3]) (.seq (.reg [⟨some 17, none, .fa (.t 1) 8⟩, ⟨some 18, none, .load (.t 17) none⟩, ⟨some 19, none, .call 28 [(.t 18)]⟩, ⟨some 20, none, .fa (.t 3) 8⟩, ⟨none, none, .st (.t 20) (.t 19) none⟩] none [2, 3]) (.seq (.reg [⟨some 21, none, .load (.t 3) (some 9)⟩, ⟨none, none, .st (.t 2) (.t 21) (some 9)⟩] none [2]) .ret))))))))
theorem chk_toFilt : chkX Go.Proofs.Tryd.prog 22 (Go.Proofs.Tryd.f12.body.getD .skip) x_toFilt = true := by kernel_rfl
theorem rs_toFilt : okRs Go.Proofs.Tryd.prog Go.Proofs.Tryd.f12.results.toList [.cell 2 (some 9)] = true := by kernel_rfl
theorem call_toFilt : okCallee Go.Proofs.Tryd.prog 12 = true := by kernel_rfl
noncomputable def spToFS (k:Nat) : Spec := Spec.of (ι := (List F)) [false] (fun i => [.d (.one (.row 9 (encF i)))]) (fun i => (lenB 1048576 i.length ∧ fitF 1048576 i) ∧ SizeOf.sizeOf i < k) (fun i => [.d (.one (.row 9 (encF i)))]) (fun _ => [.gone])
theorem spToFS_inj : ∀ i j : (List F), (fun (i : (List F)) => ([.d (.one (.row 9 (encF i)))] : List AV)) i = (fun (i : (List F)) => ([.d (.one (.row 9 (encF i)))] : List AV)) j → i = j := by
  intro ks ks' h
  simpa [strs_eq, T.enc_eq, encL_eq, F.enc_eq, encF_eq, Tk.enc_eq, encTk_eq, Gn.enc_eq, ints_eq] using h
theorem spToFS_md (k:Nat) : (spToFS k).md = [false] := rfl
theorem spToFS_pre (k:Nat) (ks : List F) : (spToFS k).pre [.d (.one (.row 9 (encF ks)))] = ((lenB 1048576 ks.length ∧ fitF 1048576 ks) ∧ SizeOf.sizeOf ks < k) := Spec.of_pre' spToFS_inj ks
theorem spToFS_alts (k:Nat) : (spToFS k).alts = none := rfl
theorem spToFS_res (k:Nat) (ks : List F) : (spToFS k).res [.d (.one (.row 9 (encF ks)))] = [.d (.one (.row 9 (encF ks)))] := Spec.of_res spToFS_inj ks
theorem spToFS_out (k:Nat) (ks : List F) : (spToFS k).out [.d (.one (.row 9 (encF ks)))] = [.gone] := Spec.of_out spToFS_inj ks
noncomputable def spToF (k:Nat) : Spec := Spec.of (ι := F) [false] (fun i => [.d (.agg i.enc)]) (fun i => (i.fit 1048576) ∧ SizeOf.sizeOf i < k) (fun i => [.d (.agg i.enc)]) (fun _ => [.gone])
theorem spToF_inj : ∀ i j : F, (fun (i : F) => ([.d (.agg i.enc)] : List AV)) i = (fun (i : F) => ([.d (.agg i.enc)] : List AV)) j → i = j := by
  intro t t' h
  simpa [strs_eq, T.enc_eq, encL_eq, F.enc_eq, encF_eq, Tk.enc_eq, encTk_eq, Gn.enc_eq, ints_eq] using h
theorem spToF_md (k:Nat) : (spToF k).md = [false] := rfl
theorem spToF_pre (k:Nat) (t : F) : (spToF k).pre [.d (.agg t.enc)] = ((t.fit 1048576) ∧ SizeOf.sizeOf t < k) := Spec.of_pre' spToF_inj t
theorem spToF_alts (k:Nat) : (spToF k).alts = none := rfl
theorem spToF_res (k:Nat) (t : F) : (spToF k).res [.d (.agg t.enc)] = [.d (.agg t.enc)] := Spec.of_res spToF_inj t
theorem spToF_out (k:Nat) (t : F) : (spToF k).out [.d (.agg t.enc)] = [.gone] := Spec.of_out spToF_inj t
theorem toF_sound (k : Nat) (hS : Sound Go.Proofs.Tryd.prog 28 (spToFS k)) : Sound Go.Proofs.Tryd.prog 12 (spToF (k + 1)) := by
  refine sound_fam (GOK.cons (l := [(28, spToFS k)]) call_toVal toV_sound (GOK.cons call_toFiltS hS GOK.nil)) Go.Proofs.Tryd.func12 (c := Go.Proofs.Tryd.f12.body.getD .skip) rfl (n := 22) rfl chk_toFilt rs_toFilt (fun _ => by simp) ?_ ?_
  · exact spToF_inj
  · rintro t ⟨h1, h4⟩
    obtain ⟨kk, n, s, v, l⟩ := t
    obtain ⟨vk, vn, vs, vks, vl⟩ := v
    simp only [F.fit] at h1
    obtain ⟨_, _, f1, f2, f3, f4⟩ := h1
    generalize hv : T.mk vk vn vs vks vl = v at *
    have e3 : SizeOf.sizeOf l < k := by have e : SizeOf.sizeOf (F.mk kk n s v l) < k + 1 := h4
                                        rw [F.mk.sizeOf_spec] at e; omega
    have e6 : v.enc = [.int .i64 vk, .int .i64 vn, .str vs, .row 1 (strs vks), .row 5 (encL vl)] := by rw [← hv]; rfl
    have p1 := spToV_pre v
    have p2 := spToV_res v
    have p3 := spToV_out v
    rw [e6] at p1 p2 p3
    simp only [x_toFilt, F.enc, e6, go_sem, seval, rg, spToV_md, spToV_alts, p1, p2, p3, spToFS_md, spToFS_pre, spToFS_alts, spToFS_res, spToFS_out]
    repeat' (first | with_reducible assumption | with_reducible refine And.intro ?_ ?_ | intro _)
    all_goals first | omega | assumption | skip
theorem toFS_sound (k : Nat) (hS : Sound Go.Proofs.Tryd.prog 12 (spToF k)) : Sound Go.Proofs.Tryd.prog 28 (spToFS (k + 1)) := by
  refine sound_fam (GOK.cons call_toFilt hS GOK.nil) Go.Proofs.Tryd.func28 (c := Go.Proofs.Tryd.f28.body.getD .skip) rfl (n := 23) rfl chk_toFiltS rs_toFiltS (fun _ => by simp) ?_ ?_
  · exact spToFS_inj
  · intro ks h1
    obtain ⟨⟨h1, h2⟩, h3⟩ := h1
    simp only [lenB] at h1
    simp only [x_toFiltS, rg, go_sem, seval]
    repeat' (first | with_reducible assumption | with_reducible refine And.intro ?_ ?_ | intro _)
    all_goals first | omega | skip
    have hl : (encF ks).length = (List.replicate ks.length [C.int .i64 0, C.int .i64 0, C.str ⟨#[]⟩, C.int .i64 0, C.int .i64 0, C.str ⟨#[]⟩, C.row 1 [], C.row 5 [], C.row 9 []]).length := by simp [encF_len]
    refine pw_loop (ι := Nat) (fun i => ks.length - i) (fun i => i ≤ ks.length)
      (fun i => ⟨[(0, .q (.c (.row 9 (encF ks)))), (3, .q (.own 7)), (4, .q (.c (.int .i64 i)))], [], [(7, 9, (encF ks).take i ++ (List.replicate ks.length [C.int .i64 0, C.int .i64 0, C.str ⟨#[]⟩, C.int .i64 0, C.int .i64 0, C.str ⟨#[]⟩, C.row 1 [], C.row 5 [], C.row 9 []]).drop i)]⟩) 0 (Nat.zero_le _) (Le.refl _) ?_
    intro i hi
    rcases Nat.lt_or_ge i ks.length with hlt | hge
    · obtain ⟨s, hs, hdr, hmem⟩ := drop_at hlt
      have a1 := encF_at hs
      have a2 : ((i : Int) < (ks.length : Int)) = True := by simp; omega
      have a3 : ((encF ks).take i ++ (List.replicate ks.length [C.int .i64 0, C.int .i64 0, C.str ⟨#[]⟩, C.int .i64 0, C.int .i64 0, C.str ⟨#[]⟩, C.row 1 [], C.row 5 [], C.row 9 []]).drop i).length = ks.length := by rw [fill_len hl]; simp
      have a4 : ((encF ks).take i ++ (List.replicate ks.length [C.int .i64 0, C.int .i64 0, C.str ⟨#[]⟩, C.int .i64 0, C.int .i64 0, C.str ⟨#[]⟩, C.row 1 [], C.row 5 [], C.row 9 []]).drop i).getD i [] = [C.int .i64 0, C.int .i64 0, C.str ⟨#[]⟩, C.int .i64 0, C.int .i64 0, C.str ⟨#[]⟩, C.row 1 [], C.row 5 [], C.row 9 []] := by rw [fill_get hl (by rw [encF_len]; exact hlt), getD_rep hlt]
      have a5 : ((encF ks).take i ++ (List.replicate ks.length [C.int .i64 0, C.int .i64 0, C.str ⟨#[]⟩, C.int .i64 0, C.int .i64 0, C.str ⟨#[]⟩, C.row 1 [], C.row 5 [], C.row 9 []]).drop i).set i s.enc = (encF ks).take (i + 1) ++ (List.replicate ks.length [C.int .i64 0, C.int .i64 0, C.str ⟨#[]⟩, C.int .i64 0, C.int .i64 0, C.str ⟨#[]⟩, C.row 1 [], C.row 5 [], C.row 9 []]).drop (i + 1) := fill_set hl (by rw [encF_map]; simp [hs])
      have a6 := F.enc_len s
      have a7 := fitF_mem h2 s hmem
      have a8 := size_mem hmem
      have a9 : placeC [C.int .i64 0, C.int .i64 0, C.str ⟨#[]⟩, C.int .i64 0, C.int .i64 0, C.str ⟨#[]⟩, C.row 1 [], C.row 5 [], C.row 9 []] 0 s.enc = s.enc := placeC_whole (by rw [a6]; rfl)
      simp only [rg, a9, go_sem, seval, a1, a2, a3, a4, a5, a6, List.length_map, spToF_md, spToF_pre, spToF_alts, spToF_res, spToF_out]
      repeat' (first | with_reducible assumption | with_reducible refine And.intro ?_ ?_ | intro _)
      all_goals first | omega | skip
      exact ⟨i + 1, by omega, by omega, Le.refl _⟩
    · have a2 : ((i : Int) < (ks.length : Int)) = False := by simp; omega
      have hie : i = (encF ks).length := by rw [encF_len]; omega
      have a3 : (encF ks).take i ++ (List.replicate ks.length [C.int .i64 0, C.int .i64 0, C.str ⟨#[]⟩, C.int .i64 0, C.int .i64 0, C.str ⟨#[]⟩, C.row 1 [], C.row 5 [], C.row 9 []]).drop i = encF ks := by rw [hie]; exact fill_all hl
      simp only [go_sem, seval, a2, a3]
theorem toF_all (k : Nat) : Sound Go.Proofs.Tryd.prog 12 (spToF k) ∧ Sound Go.Proofs.Tryd.prog 28 (spToFS k) := by
  induction k with
  | zero => exact ⟨Sound.none, Sound.none⟩
  | succ k ih => exact ⟨toF_sound k ih.2, toFS_sound k ih.1⟩
end Go.Proofs.Pw
