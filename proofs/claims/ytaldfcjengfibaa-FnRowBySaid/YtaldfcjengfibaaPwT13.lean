/- Rows: the least, a piece. -/
import Derived.Test.YtaldfcjengfibaaPwT12
import Derived.Test.YtaldfcjengfibaaPwT10
import Derived.Test.YtaldfcjengfibaaProg
import Derived.KernelRfl
set_option linter.unusedSimpArgs false
set_option linter.unusedVariables false
set_option linter.unusedSimpArgs false
set_option maxRecDepth 20000
namespace Go.Proofs.Pw
set_option linter.unusedSectionVars false
variable [Globs]
def x_row : X := (.seq (.reg [⟨some 2, none, .alloc [(.c (.int .i64 0)), (.c (.int .i64 0)), (.c (.str ⟨#[]⟩)), (.z 1), (.z 5)]⟩] none [0, 2]) (.seq (.reg [⟨some 3, none, .mv (.t 0)⟩, ⟨some 4, none, .build [(.c (.int .i64 0)), (.c (.int .i64 0)), (.c (.str ⟨#[]⟩)), (.z 1), (.z 5)] [(0, (.k (.c (.int .i64 5))), none), (4, (.t 3), none)]⟩, ⟨none, none, .st (.t 2) (.t 4) (some 5)⟩] none [2]) .ret))
theorem chk_row : chkX Go.Proofs.Try.prog 5 (Go.Proofs.Try.f32.body.getD .skip) x_row = true := by kernel_rfl
theorem rs_row : okRs Go.Proofs.Try.prog Go.Proofs.Try.f32.results.toList [.cell 2 (some 5)] = true := by kernel_rfl
theorem call_row : okCallee Go.Proofs.Try.prog 32 = true := by kernel_rfl
def leastOk (v : T) : Prop := rowT v ∧ okT ((sortC cmpT v.list).headD T.zero)
noncomputable instance (t : T) : Decidable (leastOk t) := Classical.propDecidable _
theorem T.fit_list {B : Int} {k n : Int} {s : ByteArray} {ks : List ByteArray} {l : List T} (h : (T.mk k n s ks l).fit B) : lenB B l.length ∧ fitL B l := h.2.2.2.2
noncomputable def spRow  : Spec := Spec.of (ι := (List T)) [false] (fun i => [.d (.one (.row 5 (encL i)))]) (fun _ => True) (fun i => [.d (.agg (T.mk 5 0 ⟨#[]⟩ [] i).enc)]) (fun _ => [.gone])
theorem spRow_inj : ∀ i j : (List T), (fun (i : (List T)) => ([.d (.one (.row 5 (encL i)))] : List AV)) i = (fun (i : (List T)) => ([.d (.one (.row 5 (encL i)))] : List AV)) j → i = j := by
  intro l l' h
  simpa [strs_eq, T.enc_eq, encL_eq, F.enc_eq, encF_eq, Tk.enc_eq, encTk_eq, Gn.enc_eq, ints_eq] using h
theorem spRow_md  : (spRow).md = [false] := rfl
theorem spRow_pre  (l : List T) : (spRow).pre [.d (.one (.row 5 (encL l)))] = (True) := Spec.of_pre' spRow_inj l
theorem spRow_alts  : (spRow).alts = none := rfl
theorem spRow_res  (l : List T) : (spRow).res [.d (.one (.row 5 (encL l)))] = [.d (.agg (T.mk 5 0 ⟨#[]⟩ [] l).enc)] := Spec.of_res spRow_inj l
theorem spRow_out  (l : List T) : (spRow).out [.d (.one (.row 5 (encL l)))] = [.gone] := Spec.of_out spRow_inj l
theorem row_sound : Sound Go.Proofs.Try.prog 32 spRow := by
  refine sound_fam GOK.nil Go.Proofs.Try.func32 (c := Go.Proofs.Try.f32.body.getD .skip) rfl (n := 5) rfl chk_row rs_row (fun _ => by simp) ?_ ?_
  · exact spRow_inj
  · intro l _
    simp only [x_row, rg, go_sem, seval, T.enc, strs]
end Go.Proofs.Pw
/- Trees that are ok: their parts, and rows of some of them. -/
set_option linter.unusedSectionVars false
namespace Go.Proofs.Pw
variable [Globs]
mutual
theorem formT_mono {d e : Int} (h : d ≤ e) : ∀ {t : T}, formT t d → formT t e
  | .mk k n s ks l, hf => by
    simp only [formT] at hf ⊢
    obtain ⟨h1, h2, h3, h4, h5, h6, h7, h8, h9, h10, h11, h12⟩ := hf
    exact ⟨by omega, h2, h3, h4, h5, h6, h7, h8, h9, h10, h11, formL_mono (by omega) h12⟩
theorem formL_mono {d e : Int} (h : d ≤ e) : ∀ {l : List T}, formL l d → formL l e
  | [], _ => trivial
  | _ :: _, hf => ⟨formT_mono h hf.1, formL_mono h hf.2⟩
end
mutual
theorem manyT_deep {d e : Int} (h : d ≤ e) : ∀ {t : T}, formT t d → manyT t e = manyT t d
  | .mk k n s ks l, hf => by
    simp only [formT] at hf
    simp only [manyT]
    rw [manyL_deep (d := d) (e := e) h hf.1 hf.2.2.2.2.2.2.2.2.2.2.2]
theorem manyL_deep {d e : Int} (h : d ≤ e) (h1 : 1 ≤ d) : ∀ {l : List T}, formL l (d - 1) → manyL l e = manyL l d
  | [], _ => by simp [manyL]
  | t :: l, hf => by
    simp only [manyL]
    rw [if_pos (by omega), if_pos (by omega), manyT_deep (d := d - 1) (e := e - 1) (by omega) hf.1, manyL_deep h h1 hf.2]
end
theorem formT_list {k n : Int} {s : ByteArray} {ks : List ByteArray} {l : List T} {d : Int} (h : formT (.mk k n s ks l) d) : formL l (d - 1) := by
  simp only [formT] at h
  exact h.2.2.2.2.2.2.2.2.2.2.2
theorem manyL_at {l : List T} {t : T} {d : Int} (hd : 0 < d) (h : t ∈ l) : manyT t (d - 1) ≤ manyL l d := by
  induction l with
  | nil => simp at h
  | cons x l ih =>
    have h1 := manyL_le l d
    have h2 := manyT_le x (d - 1)
    simp only [manyL]
    rw [if_pos hd]
    rcases List.mem_cons.1 h with rfl | h
    · omega
    · have := ih h; omega
theorem okT_elem {k n : Int} {s : ByteArray} {ks : List ByteArray} {l : List T} (h : okT (.mk k n s ks l)) {t : T} (ht : t ∈ l) : okT t := by
  have h1 := formL_mem.1 (formT_list h.1) t ht
  have h2 := manyL_at (d := 6) (by omega) ht
  have h3 := manyT_deep (d := 6 - 1) (e := 6) (by omega) h1
  have h4 := h.2
  simp only [manyT] at h4
  exact ⟨formT_mono (by omega) h1, by omega⟩
theorem rowT_is {v : T} (h : rowT v) : v = .mk 5 0 ⟨#[]⟩ [] v.list := by
  obtain ⟨k, n, s, ks, l⟩ := v
  obtain ⟨h1, h2⟩ := h
  have h3 := h1.1
  simp only [formT] at h3
  simp only [T.kind] at h2
  subst h2
  obtain ⟨_, h4, h5, h6, _⟩ := h3
  simp only [T.list, T.mk.injEq, true_and, and_true]
  exact ⟨by omega, by simpa using h5, by simpa using h6⟩
theorem rowT_row {l : List T} : rowT (.mk 5 0 ⟨#[]⟩ [] l) ↔ okT (.mk 5 0 ⟨#[]⟩ [] l) := ⟨fun h => h.1, fun h => ⟨h, rfl⟩⟩
theorem T.enc_dropQ (t : T) : (t.enc.map Q.c).drop 5 = [] := List.drop_of_length_le (by rw [List.length_map, T.enc_len]; exact Nat.le_refl _)
theorem toldT_ok {t : T} (h : okT t) : toldT true t = t := by unfold toldT; rw [if_pos ⟨rfl, h⟩]
end Go.Proofs.Pw
/- Rows, each tree once. -/
namespace Go.Proofs.Pw
open Classical in
/-- Of the first i of a list: those that are not what stands before them. -/
noncomputable def oncN (l : List T) (i : Nat) : List T := (List.range i).filterMap fun j => if 0 < j ∧ l[j]? = l[j - 1]? then none else l[j]?
noncomputable def onc (l : List T) : List T := oncN l l.length
theorem oncN_new {l : List T} {i : Nat} {x : T} (hx : l[i]? = some x) (h : i = 0 ∨ l[i - 1]? ≠ some x) : oncN l (i + 1) = oncN l i ++ [x] := by
  unfold oncN
  rw [List.range_succ, List.filterMap_append]
  have : ¬ (0 < i ∧ l[i]? = l[i - 1]?) := by
    rw [hx]; rintro ⟨h1, h2⟩
    rcases h with h | h
    · omega
    · exact h h2.symm
  have e : (if 0 < i ∧ l[i]? = l[i - 1]? then none else l[i]?) = some x := by rw [if_neg this, hx]
  simp [e]
theorem oncN_old {l : List T} {i : Nat} {x : T} (hx : l[i]? = some x) (h0 : 0 < i) (h : l[i - 1]? = some x) : oncN l (i + 1) = oncN l i := by
  unfold oncN
  rw [List.range_succ, List.filterMap_append]
  have : 0 < i ∧ l[i]? = l[i - 1]? := ⟨h0, by rw [hx, h]⟩
  have e : (if 0 < i ∧ l[i]? = l[i - 1]? then none else l[i]?) = none := by rw [if_pos this]
  simp [e]
theorem oncN_len (l : List T) (i : Nat) : (oncN l i).length ≤ i := by
  have := List.length_filterMap_le (fun j => if 0 < j ∧ l[j]? = l[j - 1]? then none else l[j]?) (List.range i)
  simpa [oncN] using this
theorem oncN_ind (l : List T) {p : Nat → List T → Prop} (h0 : p 0 []) (h1 : ∀ i x, l[i]? = some x → (i = 0 ∨ l[i - 1]? ≠ some x) → p i (oncN l i) → p (i + 1) (oncN l i ++ [x]))
    (h2 : ∀ i x, l[i]? = some x → 0 < i → l[i - 1]? = some x → p i (oncN l i) → p (i + 1) (oncN l i)) : ∀ i, i ≤ l.length → p i (oncN l i)
  | 0, _ => h0
  | i + 1, h => by
    have ih := oncN_ind l h0 h1 h2 i (by omega)
    have hx : l[i]? = some l[i] := List.getElem?_eq_getElem h
    by_cases c : i = 0 ∨ l[i - 1]? ≠ some l[i]
    · rw [oncN_new hx c]; exact h1 i _ hx c ih
    · simp only [ne_eq, not_or, Classical.not_not] at c
      rw [oncN_old hx (by omega) c.2]; exact h2 i _ hx (by omega) c.2 ih
theorem take_snoc {α : Type} {l : List α} {i : Nat} {x : α} (hx : l[i]? = some x) : l.take (i + 1) = l.take i ++ [x] := by rw [List.take_add_one, hx]; rfl
theorem oncN_sub (l : List T) {i : Nat} (h : i ≤ l.length) : (oncN l i).Sublist (l.take i) := by
  refine oncN_ind l (p := fun i o => o.Sublist (l.take i)) (by simp) (fun i x hx _ ih => ?_) (fun i x hx _ _ ih => ?_) i h
  · rw [take_snoc hx]; exact List.Sublist.append ih (List.Sublist.refl _)
  · rw [take_snoc hx]; exact ih.trans (List.sublist_append_left _ _)
theorem onc_sub (l : List T) : (onc l).Sublist l := by have := oncN_sub l (Nat.le_refl _); rwa [List.take_length] at this
theorem onc_len (l : List T) : (onc l).length ≤ l.length := (onc_sub l).length_le
theorem oncN_mem (l : List T) {i : Nat} (h : i ≤ l.length) : ∀ x ∈ l.take i, x ∈ oncN l i := by
  refine oncN_ind l (p := fun i o => ∀ x ∈ l.take i, x ∈ o) (by simp) (fun i x hx _ ih y hy => ?_) (fun i x hx h0 hp ih y hy => ?_) i h
  · rw [take_snoc hx] at hy
    rcases List.mem_append.1 hy with hy | hy
    · exact List.mem_append_left _ (ih y hy)
    · exact List.mem_append_right _ hy
  · rw [take_snoc hx] at hy
    rcases List.mem_append.1 hy with hy | hy
    · exact ih y hy
    · simp only [List.mem_singleton] at hy
      subst hy
      refine ih y ?_
      obtain ⟨j, rfl⟩ : ∃ j, i = j + 1 := ⟨i - 1, by omega⟩
      rw [take_snoc (show l[j]? = some y from hp)]; simp
theorem onc_mem (l : List T) (x : T) : x ∈ onc l ↔ x ∈ l := ⟨fun h => (onc_sub l).subset h, fun h => oncN_mem l (Nat.le_refl _) x (by rwa [List.take_length])⟩
theorem srt_at {l : List T} (h : Srt cmpT l) {i : Nat} {x y : T} (hx : l[i]? = some x) (hy : y ∈ l.take i) : cmpT y x ≤ 0 := by
  have hlt := (List.getElem?_eq_some_iff.1 hx).1
  have e : l = l.take i ++ x :: l.drop (i + 1) := by
    rw [← (List.getElem?_eq_some_iff.1 hx).2, ← List.drop_eq_getElem_cons hlt, List.take_append_drop]
  rw [Srt, e, List.pairwise_append] at h
  exact h.2.2 y hy x (by simp)
theorem onc_lt {l : List T} (h : Srt cmpT l) : (onc l).Pairwise (fun a b => cmpT a b < 0) := by
  unfold onc
  refine oncN_ind l (p := fun i o => i ≤ l.length → o.Pairwise (fun a b => cmpT a b < 0)) (by simp) (fun i x hx hn ih hi => ?_) (fun i x _ _ _ ih hi => ih (by omega)) l.length (Nat.le_refl _) (Nat.le_refl _)
  rw [List.pairwise_append]
  refine ⟨ih (by omega), by simp, fun a ha b hb => ?_⟩
  simp only [List.mem_singleton] at hb
  subst hb
  have ha' := (oncN_sub l (by omega)).subset ha
  have hle := srt_at h hx ha'
  rcases Int.lt_or_eq_of_le hle with hl | he
  · exact hl
  · exfalso
    have hab : a = b := (cmpT_is.eq a b).1 he
    subst hab
    cases i with
    | zero => simp at ha'
    | succ j =>
      have hj : j < l.length := by omega
      have hy : l[j]? = some l[j] := List.getElem?_eq_getElem hj
      have h1 : cmpT l[j] a ≤ 0 := srt_at h hx (by rw [take_snoc hy]; exact List.mem_append_right _ (List.mem_singleton.2 rfl))
      have h2 : cmpT a l[j] ≤ 0 := by
        rw [take_snoc hy] at ha'
        rcases List.mem_append.1 ha' with k | k
        · exact srt_at h hy k
        · simp only [List.mem_singleton] at k; rw [k, cmpT_is.self]; omega
      have := cmpT_is.antisymm h1 h2
      rcases hn with hn | hn
      · omega
      · exact hn (by simp only [Nat.add_sub_cancel]; rw [hy, this])
theorem onc_of_lt {l : List T} (h : l.Pairwise (fun a b => cmpT a b < 0)) : onc l = l := by
  have : ∀ i, i ≤ l.length → oncN l i = l.take i := by
    refine oncN_ind l (p := fun i o => o = l.take i) (by simp) (fun i x hx _ ih => ?_) (fun i x hx h0 hp ih => ?_)
    · rw [take_snoc hx, ih]
    · exfalso
      obtain ⟨j, rfl⟩ : ∃ j, i = j + 1 := ⟨i - 1, by omega⟩
      have h1 := List.pairwise_iff_getElem.1 h j (j + 1) (List.getElem?_eq_some_iff.1 hp).1 (List.getElem?_eq_some_iff.1 hx).1 (by omega)
      have e1 : l[j]'(List.getElem?_eq_some_iff.1 hp).1 = x := (List.getElem?_eq_some_iff.1 hp).2
      rw [e1, (List.getElem?_eq_some_iff.1 hx).2, cmpT_is.self] at h1
      omega
  have := this l.length (Nat.le_refl _)
  rwa [List.take_length] at this
/-- The sorted row, each tree once. -/
noncomputable def onceL (l : List T) : List T := onc (sortC cmpT l)
theorem onceL_mem (l : List T) (x : T) : x ∈ onceL l ↔ x ∈ l := by unfold onceL; rw [onc_mem]; exact (sortC_perm cmpT_is l).mem_iff
theorem onceL_lt (l : List T) {i : Nat} {x y : T} (hx : (onceL l)[i]? = some x) (hy : (onceL l)[i + 1]? = some y) : cmpT x y < 0 := by
  have h := onc_lt (sortC_srt cmpT_is l)
  have := List.pairwise_iff_getElem.1 h i (i + 1) (List.getElem?_eq_some_iff.1 hx).1 (List.getElem?_eq_some_iff.1 hy).1 (by omega)
  have e1 := (List.getElem?_eq_some_iff.1 hx).2
  have e2 := (List.getElem?_eq_some_iff.1 hy).2
  have e3 : (onc (sortC cmpT l))[i]'(List.getElem?_eq_some_iff.1 hx).1 = x := e1
  have e4 : (onc (sortC cmpT l))[i + 1]'(List.getElem?_eq_some_iff.1 hy).1 = y := e2
  rw [← e3, ← e4]; exact this
theorem onceL_len (l : List T) : (onceL l).length ≤ l.length := by have := onc_len (sortC cmpT l); rwa [(sortC_perm cmpT_is l).length_eq] at this
end Go.Proofs.Pw
/- Whether two trees are the same: the specification's function and the program's. -/
set_option linter.unusedSimpArgs false
set_option maxRecDepth 20000
namespace Go.Proofs.Pw
set_option linter.unusedSectionVars false
variable [Globs]
def x_ValSame : X := (.seq (.reg [⟨some 2, none, .box (.t 0) (some 5)⟩, ⟨some 3, none, .box (.t 1) (some 5)⟩, ⟨some 4, none, .mv (.k (.c (.bool false)))⟩] none [2, 3]) (.seq (.seq (.reg [⟨some 7, none, .fa (.t 2) 0⟩, ⟨some 8, none, .load (.t 7) none⟩, ⟨some 9, none, .fa (.t 3) 0⟩, ⟨some 10, none, .load (.t 9) none⟩, ⟨some 11, none, .bin false .neq (.t 8) (.t 10)⟩, ⟨some 12, none, .mv (.t 11)⟩, ⟨some 13, some (12, false), .fa (.t 2) 1⟩, ⟨some 14, some (12, false), .load (.t 13) none⟩, ⟨some 15, some (12, false), .fa (.t 3) 1⟩, ⟨some 16, some (12, false), .load (.t 15) none⟩, ⟨some 17, some (12, false), .bin false .neq (.t 14) (.t 16)⟩, ⟨some 18, none, .pick (.t 12) (.k (.c (.bool true))) (.t 17)⟩, ⟨some 19, none, .mv (.t 18)⟩, ⟨some 20, some (19, false), .fa (.t 2) 2⟩, ⟨some 21, some (19, false), .load (.t 20) none⟩, ⟨some 22, some (19, false), .fa (.t 3) 2⟩, ⟨some 23, some (19, false), .load (.t 22) none⟩, ⟨some 24, some (19, false), .bin false .neq (.t 21) (.t 23)⟩, ⟨some 25, none, .pick (.t 19) (.k (.c (.bool true))) (.t 24)⟩, ⟨some 26, none, .mv (.t 25)⟩, ⟨some 27, some (26, false), .fa (.t 2) 3⟩, ⟨some 28, some (26, false), .load (.t 27) none⟩, ⟨some 29, some (26, false), .len (.t 28) false⟩, ⟨some 30, some (26, false), .fa (.t 3) 3⟩, ⟨some 31, some (26, false), .load (.t 30) none⟩, ⟨some 32, some (26, false), .len (.t 31) false⟩, ⟨some 33, some (26, false), .bin false .neq (.t 29) (.t 32)⟩, ⟨some 34, none, .pick (.t 26) (.k (.c (.bool true))) (.t 33)⟩, ⟨some 35, none, .mv (.t 34)⟩, ⟨some 36, some (35, false), .fa (.t 2) 4⟩, ⟨some 37, some (35, false), .load (.t 36) none⟩, ⟨some 38, some (35, false), .len (.t 37) false⟩, ⟨some 39, some (35, false), .fa (.t 3) 4⟩, ⟨some 40, some (35, false), .load (.t 39) none⟩, ⟨some 41, some (35, false), .len (.t 40) false⟩, ⟨some 42, some (35, false), .bin false .neq (.t 38) (.t 41)⟩, ⟨some 43, none, .pick (.t 35) (.k (.c (.bool true))) (.t 42)⟩] none [2, 3, 43]) (.cond (.t 43) (.seq (.reg [⟨some 4, none, .mv (.k (.c (.bool false)))⟩] none [4]) .ret) .skip)) (.seq (.seq (.reg [⟨some 5, none, .mv (.k (.c (.int .i64 0)))⟩] none [2, 3, 5]) (.block 0 (.loop (.seq (.seq (.reg [⟨some 44, none, .mv (.t 5)⟩, ⟨some 45, none, .fa (.t 2) 3⟩, ⟨some 46, none, .load (.t 45) none⟩, ⟨some 47, none, .len (.t 46) false⟩, ⟨some 48, none, .bin false .lss (.t 44) (.t 47)⟩] none [2, 3, 5, 48]) (.cond (.t 48) .skip (.exit 0))) (.seq (.block 1 (.seq (.reg [⟨some 51, none, .fa (.t 2) 3⟩, ⟨some 52, none, .load (.t 51) none⟩, ⟨some 53, none, .mv (.t 5)⟩, ⟨some 54, none, .ia (.t 52) (.t 53) 1⟩, ⟨some 55, none, .load (.t 54) none⟩, ⟨some 56, none, .fa (.t 3) 3⟩, ⟨some 57, none, .load (.t 56) none⟩, ⟨some 58, none, .mv (.t 5)⟩, ⟨some 59, none, .ia (.t 57) (.t 58) 1⟩, ⟨some 60, none, .load (.t 59) none⟩, ⟨some 61, none, .bin false .neq (.t 55) (.t 60)⟩] (some 10) [2, 3, 5, 61]) (.cond (.t 61) (.seq (.reg [⟨some 4, none, .mv (.k (.c (.bool false)))⟩] none [4]) .ret) .skip))) (.reg [⟨some 49, none, .mv (.t 5)⟩, ⟨some 50, none, .bin false .add (.t 49) (.k (.c (.int .i64 1)))⟩, ⟨some 5, none, .mv (.t 50)⟩] none [2, 3, 5])))))) (.seq (.seq (.reg [⟨some 6, none, .mv (.k (.c (.int .i64 0)))⟩] none [2, 3, 6]) (.block 2 (.loop (.seq (.seq (.reg [⟨some 62, none, .mv (.t 6)⟩, ⟨some 63, none, .fa (.t 2) 4⟩, ⟨some 64, none, .load (.t 63) none⟩, ⟨some 65, none, .len (.t 64) false⟩, ⟨some 66, none, .bin false .lss (.t 62) (.t 65)⟩] none [2, 3, 6, 66]) (.cond (.t 66) .skip (.exit 2))) (.seq (.block 3 (.seq (.reg [⟨some 69, none, .fa (.t 2) 4⟩, ⟨some 70, none, .load (.t 69) none⟩, ⟨some 71, none, .mv (.t 6)⟩, ⟨some 72, none, .ia (.t 70) (.t 71) 5⟩, ⟨some 73, none, .load (.t 72) (some 5)⟩, ⟨some 74, none, .fa (.t 3) 4⟩, ⟨some 75, none, .load (.t 74) none⟩, ⟨some 76, none, .mv (.t 6)⟩, ⟨some 77, none, .ia (.t 75) (.t 76) 5⟩, ⟨some 78, none, .load (.t 77) (some 5)⟩, ⟨some 79, none, .call 55 [(.t 73), (.t 78)]⟩, ⟨some 80, none, .not (.t 79)⟩] (some 10) [2, 3, 6, 80]) (.cond (.t 80) (.seq (.reg [⟨some 4, none, .mv (.k (.c (.bool false)))⟩] none [4]) .ret) .skip))) (.reg [⟨some 67, none, .mv (.t 6)⟩, ⟨some 68, none, .bin false .add (.t 67) (.k (.c (.int .i64 1)))⟩, ⟨some 6, none, .mv (.t 68)⟩] none [2, 3, 6])))))) (.seq (.reg [⟨some 4, none, .mv (.k (.c (.bool true)))⟩] none [4]) .ret)))))
theorem chk_ValSame : chkX Go.Proofs.Try.prog 81 (Go.Proofs.Try.f55.body.getD .skip) x_ValSame = true := by kernel_rfl
theorem rs_ValSame : okRs Go.Proofs.Try.prog Go.Proofs.Try.f55.results.toList [.tmp 4] = true := by kernel_rfl
theorem call_ValSame : okCallee Go.Proofs.Try.prog 55 = true := by kernel_rfl
def x_EqualS : X := (.seq (.reg [⟨some 4, none, .mv (.k (.c (.bool false)))⟩] none [0, 1]) (.seq (.seq (.reg [⟨some 6, none, .mv (.t 0)⟩, ⟨some 7, none, .len (.t 6) false⟩, ⟨some 8, none, .mv (.t 1)⟩, ⟨some 9, none, .len (.t 8) false⟩, ⟨some 10, none, .bin false .neq (.t 7) (.t 9)⟩] none [0, 1, 10]) (.cond (.t 10) (.seq (.reg [⟨some 4, none, .mv (.k (.c (.bool false)))⟩] none [4]) .ret) .skip)) (.seq (.seq (.reg [⟨some 11, none, .mv (.t 0)⟩, ⟨some 12, none, .len (.t 11) false⟩, ⟨some 13, none, .mv (.k (.c (.int .i64 0)))⟩] none [0, 1, 12, 13]) (.block 0 (.loop (.seq (.reg [⟨some 14, none, .bin false .lss (.t 13) (.t 12)⟩] none [0, 1, 12, 13, 14]) (.seq (.cond (.t 14) .skip (.exit 0)) (.seq (.block 1 (.seq (.reg [⟨some 15, none, .mv (.t 13)⟩, ⟨some 5, none, .mv (.t 15)⟩] none [0, 1, 5, 12, 13]) (.seq (.reg [⟨some 16, none, .mv (.t 0)⟩, ⟨some 17, none, .mv (.t 5)⟩, ⟨some 18, none, .ia (.t 16) (.t 17) 1⟩, ⟨some 19, none, .load (.t 18) none⟩, ⟨some 20, none, .mv (.t 1)⟩, ⟨some 21, none, .mv (.t 5)⟩, ⟨some 22, none, .ia (.t 20) (.t 21) 1⟩, ⟨some 23, none, .load (.t 22) none⟩, ⟨some 24, none, .bin false .neq (.t 19) (.t 23)⟩] (some 8) [0, 1, 12, 13, 24]) (.cond (.t 24) (.seq (.reg [⟨some 4, none, .mv (.k (.c (.bool false)))⟩] none [4]) .ret) .skip)))) (.reg [⟨some 25, none, .bin false .add (.t 13) (.k (.c (.int .i64 1)))⟩, ⟨some 13, none, .mv (.t 25)⟩] none [0, 1, 12, 13]))))))) (.seq (.reg [⟨some 4, none, .mv (.k (.c (.bool true)))⟩] none [4]) .ret))))
theorem chk_EqualS : chkX Go.Proofs.Try.prog 26 (Go.Proofs.Try.f33.body.getD .skip) x_EqualS = true := by kernel_rfl
theorem rs_EqualS : okRs Go.Proofs.Try.prog Go.Proofs.Try.f33.results.toList [.tmp 4] = true := by kernel_rfl
theorem call_EqualS : okCallee Go.Proofs.Try.prog 33 = true := by kernel_rfl
def x_EqualF : X := (.seq (.reg [⟨some 6, none, .mv (.k (.c (.bool false)))⟩] none [0, 1, 2]) (.seq (.seq (.reg [⟨some 10, none, .mv (.t 0)⟩, ⟨some 11, none, .len (.t 10) false⟩, ⟨some 12, none, .mv (.t 1)⟩, ⟨some 13, none, .len (.t 12) false⟩, ⟨some 14, none, .bin false .neq (.t 11) (.t 13)⟩] none [0, 1, 2, 14]) (.cond (.t 14) (.seq (.reg [⟨some 6, none, .mv (.k (.c (.bool false)))⟩] none [6]) .ret) .skip)) (.seq (.seq (.reg [⟨some 15, none, .mv (.t 0)⟩, ⟨some 16, none, .len (.t 15) false⟩, ⟨some 17, none, .mv (.k (.c (.int .i64 0)))⟩] none [1, 2, 15, 16, 17]) (.block 0 (.loop (.seq (.reg [⟨some 18, none, .bin false .lss (.t 17) (.t 16)⟩] none [1, 2, 15, 16, 17, 18]) (.seq (.cond (.t 18) .skip (.exit 0)) (.seq (.block 1 (.seq (.reg [⟨some 19, none, .mv (.t 17)⟩, ⟨some 20, none, .ia (.t 15) (.t 17) 5⟩, ⟨some 21, none, .load (.t 20) (some 5)⟩, ⟨some 8, none, .alloc [(.c (.int .i64 0)), (.c (.int .i64 0)), (.c (.str ⟨#[]⟩)), (.z 1), (.z 5)]⟩, ⟨some 7, none, .mv (.t 19)⟩, ⟨none, none, .st (.t 8) (.t 21) (some 5)⟩] none [1, 2, 7, 8, 15, 16, 17]) (.seq (.reg [⟨some 22, none, .mv (.t 1)⟩, ⟨some 23, none, .mv (.t 7)⟩, ⟨some 24, none, .ia (.t 22) (.t 23) 5⟩, ⟨some 25, none, .load (.t 24) (some 5)⟩, ⟨some 9, none, .alloc [(.c (.int .i64 0)), (.c (.int .i64 0)), (.c (.str ⟨#[]⟩)), (.z 1), (.z 5)]⟩, ⟨none, none, .st (.t 9) (.t 25) (some 5)⟩] none [1, 2, 8, 9, 15, 16, 17]) (.seq (.reg [⟨some 26, none, .mv (.t 2)⟩, ⟨some 27, none, .load (.t 8) (some 5)⟩, ⟨some 28, none, .load (.t 9) (some 5)⟩, ⟨some 29, none, .calli (.t 26) [(.t 27), (.t 28)]⟩, ⟨some 30, none, .not (.t 29)⟩] none [1, 2, 15, 16, 17, 30]) (.cond (.t 30) (.seq (.reg [⟨some 6, none, .mv (.k (.c (.bool false)))⟩] none [6]) .ret) .skip))))) (.reg [⟨some 31, none, .bin false .add (.t 17) (.k (.c (.int .i64 1)))⟩, ⟨some 17, none, .mv (.t 31)⟩] none [1, 2, 15, 16, 17]))))))) (.seq (.reg [⟨some 6, none, .mv (.k (.c (.bool true)))⟩] none [6]) .ret))))
theorem chk_EqualF : chkX Go.Proofs.Try.prog 32 (Go.Proofs.Try.f34.body.getD .skip) x_EqualF = true := by kernel_rfl
theorem rs_EqualF : okRs Go.Proofs.Try.prog Go.Proofs.Try.f34.results.toList [.tmp 6] = true := by kernel_rfl
theorem call_EqualF : okCallee Go.Proofs.Try.prog 34 = true := by kernel_rfl
def x_ValSameI : X := (.seq (.reg [⟨some 2, none, .box (.t 0) (some 5)⟩, ⟨some 3, none, .box (.t 1) (some 5)⟩, ⟨some 4, none, .mv (.k (.c (.bool false)))⟩] none [2, 3]) (.seq (.reg [⟨some 5, none, .fa (.t 2) 0⟩, ⟨some 6, none, .load (.t 5) none⟩, ⟨some 7, none, .fa (.t 3) 0⟩, ⟨some 8, none, .load (.t 7) none⟩, ⟨some 9, none, .bin false .eql (.t 6) (.t 8)⟩, ⟨some 10, none, .mv (.t 9)⟩, ⟨some 11, some (10, true), .fa (.t 2) 1⟩, ⟨some 12, some (10, true), .load (.t 11) none⟩, ⟨some 13, some (10, true), .fa (.t 3) 1⟩, ⟨some 14, some (10, true), .load (.t 13) none⟩, ⟨some 15, some (10, true), .bin false .eql (.t 12) (.t 14)⟩, ⟨some 16, none, .pick (.t 10) (.t 15) (.k (.c (.bool false)))⟩, ⟨some 17, none, .mv (.t 16)⟩, ⟨some 18, some (17, true), .fa (.t 2) 2⟩, ⟨some 19, some (17, true), .load (.t 18) none⟩, ⟨some 20, some (17, true), .fa (.t 3) 2⟩, ⟨some 21, some (17, true), .load (.t 20) none⟩, ⟨some 22, some (17, true), .bin false .eql (.t 19) (.t 21)⟩, ⟨some 23, none, .pick (.t 17) (.t 22) (.k (.c (.bool false)))⟩, ⟨some 24, none, .mv (.t 23)⟩, ⟨some 25, some (24, true), .fa (.t 2) 3⟩, ⟨some 26, some (24, true), .load (.t 25) none⟩, ⟨some 27, some (24, true), .fa (.t 3) 3⟩, ⟨some 28, some (24, true), .load (.t 27) none⟩, ⟨some 29, some (24, true), .call 33 [(.t 26), (.t 28)]⟩, ⟨some 30, none, .pick (.t 24) (.t 29) (.k (.c (.bool false)))⟩, ⟨some 31, none, .mv (.t 30)⟩, ⟨some 32, some (31, true), .fa (.t 2) 4⟩, ⟨some 33, some (31, true), .load (.t 32) none⟩, ⟨some 34, some (31, true), .fa (.t 3) 4⟩, ⟨some 35, some (31, true), .load (.t 34) none⟩, ⟨some 36, some (31, true), .call 34 [(.t 33), (.t 35), (.k (.c (.fn 11)))]⟩, ⟨some 37, none, .pick (.t 31) (.t 36) (.k (.c (.bool false)))⟩, ⟨some 4, none, .mv (.t 37)⟩] none [4]) .ret))
theorem chk_ValSameI : chkX Go.Proofs.Try.prog 38 (Go.Proofs.Try.f11.body.getD .skip) x_ValSameI = true := by kernel_rfl
theorem rs_ValSameI : okRs Go.Proofs.Try.prog Go.Proofs.Try.f11.results.toList [.tmp 4] = true := by kernel_rfl
theorem call_ValSameI : okCallee Go.Proofs.Try.prog 11 = true := by kernel_rfl
noncomputable def spSame (k:Nat) : Spec := Spec.of (ι := T × T) [false, false] (fun i => [.d (.agg i.1.enc), .d (.agg i.2.enc)]) (fun i => (i.1.fit 140737488355328 ∧ i.2.fit 140737488355328) ∧ SizeOf.sizeOf i.1 < k) (fun i => [.d (.one (.bool (decide (i.1 = i.2))))]) (fun _ => [.gone, .gone])
theorem spSame_inj : ∀ i j : T × T, (fun (i : T × T) => ([.d (.agg i.1.enc), .d (.agg i.2.enc)] : List AV)) i = (fun (i : T × T) => ([.d (.agg i.1.enc), .d (.agg i.2.enc)] : List AV)) j → i = j := by
  rintro ⟨a, b⟩ ⟨a', b'⟩ h
  simp only [Prod.mk.injEq]
  simpa [strs_eq, T.enc_eq, encL_eq, F.enc_eq, encF_eq, Tk.enc_eq, encTk_eq, Gn.enc_eq, ints_eq] using h
theorem spSame_md (k:Nat) : (spSame k).md = [false, false] := rfl
theorem spSame_pre (k:Nat) (a : T) (b : T) : (spSame k).pre [.d (.agg a.enc), .d (.agg b.enc)] = ((a.fit 140737488355328 ∧ b.fit 140737488355328) ∧ SizeOf.sizeOf a < k) := Spec.of_pre' spSame_inj (a, b)
theorem spSame_alts (k:Nat) : (spSame k).alts = none := rfl
theorem spSame_res (k:Nat) (a : T) (b : T) : (spSame k).res [.d (.agg a.enc), .d (.agg b.enc)] = [.d (.one (.bool (decide (a = b))))] := Spec.of_res spSame_inj (a, b)
theorem spSame_out (k:Nat) (a : T) (b : T) : (spSame k).out [.d (.agg a.enc), .d (.agg b.enc)] = [.gone, .gone] := Spec.of_out spSame_inj (a, b)
theorem same_sound (k : Nat) (hS : Sound Go.Proofs.Try.prog 55 (spSame k)) : Sound Go.Proofs.Try.prog 55 (spSame (k + 1)) := by
  refine sound_fam (GOK.cons call_ValSame hS GOK.nil) Go.Proofs.Try.func55 (c := Go.Proofs.Try.f55.body.getD .skip) rfl (n := 81) rfl chk_ValSame rs_ValSame (fun _ => by simp) ?_ ?_
  · exact spSame_inj
  · rintro ⟨a, b⟩ ⟨⟨h1, h2⟩, h4⟩
    obtain ⟨kk, n, s, ks, l⟩ := a
    obtain ⟨kk', n', s', ks', l'⟩ := b
    simp only [T.fit, lenB, strsFit] at h1 h2
    obtain ⟨_, _, f1, ⟨f2, f2'⟩, f3, f4⟩ := h1
    obtain ⟨_, _, g1, ⟨g2, g2'⟩, g3, g4⟩ := h2
    have e3 : SizeOf.sizeOf l < k := by have e : SizeOf.sizeOf (T.mk kk n s ks l) < k + 1 := h4
                                        rw [T.mk.sizeOf_spec] at e; omega
    clear h4
    have c1 : ks = ks' → ks.length = ks'.length := fun h => by rw [h]
    have c2 : l = l' → l.length = l'.length := fun h => by rw [h]
    simp only [x_ValSame, T.enc, go_sem, seval, rg, T.mk.injEq]
    repeat' (first | with_reducible assumption | with_reducible refine And.intro ?_ ?_ | intro _)
    all_goals first | omega | (grind; done) | skip
    have hl : ks.length = ks'.length := by grind
    have hl' : l.length = l'.length := by grind
    have hb : (kk = kk' ∧ n = n' ∧ s = s' ∧ ks = ks' ∧ l = l') ↔ (ks = ks' ∧ l = l') := by grind
    clear c1 c2
    repeat (rename_i hx; clear hx)
    refine pw_loop (ι := Nat) (fun i => ks.length - i) (fun i => i ≤ ks.length ∧ ks.take i = ks'.take i)
      (fun i => ⟨[(2, .q (.box 2 0)), (3, .q (.box 3 0)), (5, .q (.c (.int .i64 i)))], [(2, [.c (.int .i64 kk), .c (.int .i64 n), .c (.str s), .c (.row 1 (strs ks)), .c (.row 5 (encL l))]), (3, [.c (.int .i64 kk'), .c (.int .i64 n'), .c (.str s'), .c (.row 1 (strs ks')), .c (.row 5 (encL l'))])], []⟩) 0 ⟨Nat.zero_le _, rfl⟩ (Le.refl _) ?_
    rintro i ⟨hi, heq⟩
    rcases Nat.lt_or_ge i ks.length with hlt | hge
    · obtain ⟨x, hx, _, hmem⟩ := drop_at hlt
      obtain ⟨x', hx', _, hmem'⟩ := drop_at (l := ks') (i := i) (by omega)
      have a1 := strs_at hx
      have a1' := strs_at hx'
      have a2 : ((i : Int) < (ks.length : Int)) = True := by simp; omega
      have a3 : ((i : Int) < (ks'.length : Int)) = True := by simp; omega
      by_cases hc : x = x'
      · have c1 : (x = x') = True := by simp [hc]
        simp only [go_sem, seval, rg, a1, a1', a2, a3, c1]
        repeat' (first | with_reducible assumption | with_reducible refine And.intro ?_ ?_ | intro _)
        all_goals first | omega | skip
        exact ⟨i + 1, ⟨by omega, take_at hx (hc ▸ hx') heq⟩, by omega, Le.refl _⟩
      · have c1 : (x = x') = False := by simp [hc]
        have hne := ne_at hx hx' hc
        simp only [go_sem, seval, rg, a1, a1', a2, a3, c1]
        repeat' (first | with_reducible assumption | with_reducible refine And.intro ?_ ?_ | intro _)
        all_goals first | omega | skip
        rename_i h; exact hne (hb.1 h).1
    · have a2 : ((i : Int) < (ks.length : Int)) = False := by simp; omega
      have hie : i = ks.length := by omega
      subst hie
      have hks := take_all hl heq
      simp only [go_sem, seval, a2]
      refine pw_loop (ι := Nat) (fun i => l.length - i) (fun i => i ≤ l.length ∧ l.take i = l'.take i)
        (fun i => ⟨[(2, .q (.box 2 0)), (3, .q (.box 3 0)), (6, .q (.c (.int .i64 i)))], [(2, [.c (.int .i64 kk), .c (.int .i64 n), .c (.str s), .c (.row 1 (strs ks)), .c (.row 5 (encL l))]), (3, [.c (.int .i64 kk'), .c (.int .i64 n'), .c (.str s'), .c (.row 1 (strs ks')), .c (.row 5 (encL l'))])], []⟩) 0 ⟨Nat.zero_le _, rfl⟩ (Le.refl _) ?_
      rintro i ⟨hi, heq⟩
      rcases Nat.lt_or_ge i l.length with hlt | hge
      · obtain ⟨x, hx, _, hmem⟩ := drop_at hlt
        obtain ⟨x', hx', _, hmem'⟩ := drop_at (l := l') (i := i) (by omega)
        have a1 := encL_at hx
        have a1' := encL_at hx'
        have a2 : ((i : Int) < (l.length : Int)) = True := by simp; omega
        have a3 : ((i : Int) < (l'.length : Int)) = True := by simp; omega
        have a4 := fitL_mem f4 x hmem
        have a5 := fitL_mem g4 x' hmem'
        have a6 := T.enc_len x
        have a6' := T.enc_len x'
        have a8 := size_mem hmem
        by_cases hc : x = x'
        · have c1 : (x = x') = True := by simp [hc]
          simp only [go_sem, seval, rg, a1, a1', a2, a3, a6, a6', c1, spSame_md, spSame_pre, spSame_alts, spSame_res, spSame_out]
          repeat' (first | with_reducible assumption | with_reducible refine And.intro ?_ ?_ | intro _)
          all_goals first | omega | skip
          exact ⟨i + 1, ⟨by omega, take_at hx (hc ▸ hx') heq⟩, by omega, Le.refl _⟩
        · have c1 : (x = x') = False := by simp [hc]
          have hne := ne_at hx hx' hc
          simp only [go_sem, seval, rg, a1, a1', a2, a3, a6, a6', c1, spSame_md, spSame_pre, spSame_alts, spSame_res, spSame_out]
          repeat' (first | with_reducible assumption | with_reducible refine And.intro ?_ ?_ | intro _)
          all_goals first | omega | skip
          rename_i h; exact hne (hb.1 h).2
      · have a2 : ((i : Int) < (l.length : Int)) = False := by simp; omega
        have hie : i = l.length := by omega
        subst hie
        have hls := take_all hl' heq
        simp only [go_sem, seval, a2]
        exact hb.2 ⟨hks, hls⟩
theorem same_all : ∀ k, Sound Go.Proofs.Try.prog 55 (spSame k) := fun k => Nat.rec Sound.none (fun k ih => same_sound k ih) k
noncomputable def spSameV  : Spec := Spec.of (ι := T × T) [false, false] (fun i => [.d (.agg i.1.enc), .d (.agg i.2.enc)]) (fun i => i.1.fit 140737488355328 ∧ i.2.fit 140737488355328) (fun i => [.d (.one (.bool (decide (i.1 = i.2))))]) (fun _ => [.gone, .gone])
theorem spSameV_inj : ∀ i j : T × T, (fun (i : T × T) => ([.d (.agg i.1.enc), .d (.agg i.2.enc)] : List AV)) i = (fun (i : T × T) => ([.d (.agg i.1.enc), .d (.agg i.2.enc)] : List AV)) j → i = j := by
  rintro ⟨a, b⟩ ⟨a', b'⟩ h
  simp only [Prod.mk.injEq]
  simpa [strs_eq, T.enc_eq, encL_eq, F.enc_eq, encF_eq, Tk.enc_eq, encTk_eq, Gn.enc_eq, ints_eq] using h
theorem spSameV_md  : (spSameV).md = [false, false] := rfl
theorem spSameV_pre  (a : T) (b : T) : (spSameV).pre [.d (.agg a.enc), .d (.agg b.enc)] = (a.fit 140737488355328 ∧ b.fit 140737488355328) := Spec.of_pre' spSameV_inj (a, b)
theorem spSameV_alts  : (spSameV).alts = none := rfl
theorem spSameV_res  (a : T) (b : T) : (spSameV).res [.d (.agg a.enc), .d (.agg b.enc)] = [.d (.one (.bool (decide (a = b))))] := Spec.of_res spSameV_inj (a, b)
theorem spSameV_out  (a : T) (b : T) : (spSameV).out [.d (.agg a.enc), .d (.agg b.enc)] = [.gone, .gone] := Spec.of_out spSameV_inj (a, b)
theorem spSameV_all  (a : T) (b : T) (F : List AV → List AV → Prop) : (spSameV).all [.d (.agg a.enc), .d (.agg b.enc)] F = F [.d (.one (.bool (decide (a = b))))] [.gone, .gone] := by rw [Spec.all_fn rfl, spSameV_res, spSameV_out]
theorem spSameV_ne  (a : T) (b : T) : (spSameV).ne [.d (.agg a.enc), .d (.agg b.enc)] = True := Spec.ne_fn rfl _
theorem sameV_sound : Sound Go.Proofs.Try.prog 55 spSameV := Sound.all (μ := fun i => SizeOf.sizeOf i.1) same_all
noncomputable def spEqualS  : Spec := Spec.of (ι := (List ByteArray) × (List ByteArray)) [false, false] (fun i => [.d (.one (.row 1 (strs i.1))), .d (.one (.row 1 (strs i.2)))]) (fun i => lenB 140737488355328 i.1.length ∧ lenB 140737488355328 i.2.length) (fun i => [.d (.one (.bool (decide (i.1 = i.2))))]) (fun _ => [.gone, .gone])
theorem spEqualS_inj : ∀ i j : (List ByteArray) × (List ByteArray), (fun (i : (List ByteArray) × (List ByteArray)) => ([.d (.one (.row 1 (strs i.1))), .d (.one (.row 1 (strs i.2)))] : List AV)) i = (fun (i : (List ByteArray) × (List ByteArray)) => ([.d (.one (.row 1 (strs i.1))), .d (.one (.row 1 (strs i.2)))] : List AV)) j → i = j := by
  rintro ⟨a, b⟩ ⟨a', b'⟩ h
  simp only [Prod.mk.injEq]
  simpa [strs_eq, T.enc_eq, encL_eq, F.enc_eq, encF_eq, Tk.enc_eq, encTk_eq, Gn.enc_eq, ints_eq] using h
theorem spEqualS_md  : (spEqualS).md = [false, false] := rfl
theorem spEqualS_pre  (a : List ByteArray) (b : List ByteArray) : (spEqualS).pre [.d (.one (.row 1 (strs a))), .d (.one (.row 1 (strs b)))] = (lenB 140737488355328 a.length ∧ lenB 140737488355328 b.length) := Spec.of_pre' spEqualS_inj (a, b)
theorem spEqualS_alts  : (spEqualS).alts = none := rfl
theorem spEqualS_res  (a : List ByteArray) (b : List ByteArray) : (spEqualS).res [.d (.one (.row 1 (strs a))), .d (.one (.row 1 (strs b)))] = [.d (.one (.bool (decide (a = b))))] := Spec.of_res spEqualS_inj (a, b)
theorem spEqualS_out  (a : List ByteArray) (b : List ByteArray) : (spEqualS).out [.d (.one (.row 1 (strs a))), .d (.one (.row 1 (strs b)))] = [.gone, .gone] := Spec.of_out spEqualS_inj (a, b)
theorem equalS_sound : Sound Go.Proofs.Try.prog 33 spEqualS := by
  refine sound_fam GOK.nil Go.Proofs.Try.func33 (c := Go.Proofs.Try.f33.body.getD .skip) rfl (n := 26) rfl chk_EqualS rs_EqualS (fun _ => by simp) ?_ ?_
  · exact spEqualS_inj
  · rintro ⟨a, b⟩ h1
    simp only [lenB] at h1
    by_cases hl : a.length = b.length
    · have b1 : ((a.length : Int) = (b.length : Int)) = True := by simp [hl]
      simp only [x_EqualS, rg, go_sem, seval, b1]
      refine pw_loop (ι := Nat) (fun i => a.length - i) (fun i => i ≤ a.length ∧ a.take i = b.take i)
        (fun i => ⟨[(0, .q (.c (.row 1 (strs a)))), (1, .q (.c (.row 1 (strs b)))), (12, .q (.c (.int .i64 a.length))), (13, .q (.c (.int .i64 i)))], [], []⟩) 0 ⟨Nat.zero_le _, rfl⟩ (Le.refl _) ?_
      rintro i ⟨hi, heq⟩
      rcases Nat.lt_or_ge i a.length with hlt | hge
      · obtain ⟨s, hs, _, hmem⟩ := drop_at hlt
        obtain ⟨s', hs', _, hmem'⟩ := drop_at (l := b) (i := i) (by omega)
        have a1 := strs_at hs
        have a1' := strs_at hs'
        have a2 : ((i : Int) < (a.length : Int)) = True := by simp; omega
        have a3 : ((i : Int) < (b.length : Int)) = True := by simp; omega
        by_cases hc : s = s'
        · have c1 : (s = s') = True := by simp [hc]
          simp only [go_sem, seval, rg, a1, a1', a2, a3, c1]
          repeat' (first | with_reducible assumption | with_reducible refine And.intro ?_ ?_ | intro _)
          all_goals first | omega | skip
          exact ⟨i + 1, ⟨by omega, take_at hs (hc ▸ hs') heq⟩, by omega, Le.refl _⟩
        · have c1 : (s = s') = False := by simp [hc]
          simp only [go_sem, seval, rg, a1, a1', a2, a3, c1]
          repeat' (first | with_reducible assumption | with_reducible refine And.intro ?_ ?_ | intro _)
          all_goals first | omega | skip
          rename_i h; exact ne_at hs hs' hc h
      · have a2 : ((i : Int) < (a.length : Int)) = False := by simp; omega
        have hie : i = a.length := by omega
        subst hie
        simp only [go_sem, seval, a2]
        exact take_all hl heq
    · have b1 : ((a.length : Int) = (b.length : Int)) = False := by simp; omega
      simp only [x_EqualS, rg, go_sem, seval, b1]
      exact fun e => hl (by rw [e])
noncomputable def spSameI (k:Nat) : Spec := Spec.of (ι := T × T) [false, false] (fun i => [.d (.agg i.1.enc), .d (.agg i.2.enc)]) (fun i => (i.1.fit 140737488355328 ∧ i.2.fit 140737488355328) ∧ SizeOf.sizeOf i.1 < k) (fun i => [.d (.one (.bool (decide (i.1 = i.2))))]) (fun _ => [.gone, .gone])
theorem spSameI_inj : ∀ i j : T × T, (fun (i : T × T) => ([.d (.agg i.1.enc), .d (.agg i.2.enc)] : List AV)) i = (fun (i : T × T) => ([.d (.agg i.1.enc), .d (.agg i.2.enc)] : List AV)) j → i = j := by
  rintro ⟨a, b⟩ ⟨a', b'⟩ h
  simp only [Prod.mk.injEq]
  simpa [strs_eq, T.enc_eq, encL_eq, F.enc_eq, encF_eq, Tk.enc_eq, encTk_eq, Gn.enc_eq, ints_eq] using h
theorem spSameI_md (k:Nat) : (spSameI k).md = [false, false] := rfl
theorem spSameI_pre (k:Nat) (a : T) (b : T) : (spSameI k).pre [.d (.agg a.enc), .d (.agg b.enc)] = ((a.fit 140737488355328 ∧ b.fit 140737488355328) ∧ SizeOf.sizeOf a < k) := Spec.of_pre' spSameI_inj (a, b)
theorem spSameI_alts (k:Nat) : (spSameI k).alts = none := rfl
theorem spSameI_res (k:Nat) (a : T) (b : T) : (spSameI k).res [.d (.agg a.enc), .d (.agg b.enc)] = [.d (.one (.bool (decide (a = b))))] := Spec.of_res spSameI_inj (a, b)
theorem spSameI_out (k:Nat) (a : T) (b : T) : (spSameI k).out [.d (.agg a.enc), .d (.agg b.enc)] = [.gone, .gone] := Spec.of_out spSameI_inj (a, b)
noncomputable def spEqualF (k:Nat) : Spec := Spec.of (ι := (List T) × (List T)) [false, false, false] (fun i => [.d (.one (.row 5 (encL i.1))), .d (.one (.row 5 (encL i.2))), .d (.one (.fn 11))]) (fun i => (lenB 140737488355328 i.1.length ∧ fitL 140737488355328 i.1 ∧ lenB 140737488355328 i.2.length ∧ fitL 140737488355328 i.2) ∧ SizeOf.sizeOf i.1 < k) (fun i => [.d (.one (.bool (decide (i.1 = i.2))))]) (fun _ => [.gone, .gone, .gone])
theorem spEqualF_inj : ∀ i j : (List T) × (List T), (fun (i : (List T) × (List T)) => ([.d (.one (.row 5 (encL i.1))), .d (.one (.row 5 (encL i.2))), .d (.one (.fn 11))] : List AV)) i = (fun (i : (List T) × (List T)) => ([.d (.one (.row 5 (encL i.1))), .d (.one (.row 5 (encL i.2))), .d (.one (.fn 11))] : List AV)) j → i = j := by
  rintro ⟨a, b⟩ ⟨a', b'⟩ h
  simp only [Prod.mk.injEq]
  simpa [strs_eq, T.enc_eq, encL_eq, F.enc_eq, encF_eq, Tk.enc_eq, encTk_eq, Gn.enc_eq, ints_eq] using h
theorem spEqualF_md (k:Nat) : (spEqualF k).md = [false, false, false] := rfl
theorem spEqualF_pre (k:Nat) (a : List T) (b : List T) : (spEqualF k).pre [.d (.one (.row 5 (encL a))), .d (.one (.row 5 (encL b))), .d (.one (.fn 11))] = ((lenB 140737488355328 a.length ∧ fitL 140737488355328 a ∧ lenB 140737488355328 b.length ∧ fitL 140737488355328 b) ∧ SizeOf.sizeOf a < k) := Spec.of_pre' spEqualF_inj (a, b)
theorem spEqualF_alts (k:Nat) : (spEqualF k).alts = none := rfl
theorem spEqualF_res (k:Nat) (a : List T) (b : List T) : (spEqualF k).res [.d (.one (.row 5 (encL a))), .d (.one (.row 5 (encL b))), .d (.one (.fn 11))] = [.d (.one (.bool (decide (a = b))))] := Spec.of_res spEqualF_inj (a, b)
theorem spEqualF_out (k:Nat) (a : List T) (b : List T) : (spEqualF k).out [.d (.one (.row 5 (encL a))), .d (.one (.row 5 (encL b))), .d (.one (.fn 11))] = [.gone, .gone, .gone] := Spec.of_out spEqualF_inj (a, b)
theorem sameI_sound (k : Nat) (hS : Sound Go.Proofs.Try.prog 34 (spEqualF k)) : Sound Go.Proofs.Try.prog 11 (spSameI (k + 1)) := by
  refine sound_fam (GOK.cons (l := [(34, spEqualF k)]) call_EqualS equalS_sound (GOK.cons call_EqualF hS GOK.nil)) Go.Proofs.Try.func11 (c := Go.Proofs.Try.f11.body.getD .skip) rfl (n := 38) rfl chk_ValSameI rs_ValSameI (fun _ => by simp) ?_ ?_
  · exact spSameI_inj
  · rintro ⟨a, b⟩ ⟨⟨h1, h2⟩, h4⟩
    obtain ⟨kk, n, s, ks, l⟩ := a
    obtain ⟨kk', n', s', ks', l'⟩ := b
    simp only [T.fit, strsFit] at h1 h2
    obtain ⟨_, _, f1, ⟨f2, f2'⟩, f3, f4⟩ := h1
    obtain ⟨_, _, g1, ⟨g2, g2'⟩, g3, g4⟩ := h2
    have e3 : SizeOf.sizeOf l < k := by have e : SizeOf.sizeOf (T.mk kk n s ks l) < k + 1 := h4
                                        rw [T.mk.sizeOf_spec] at e; omega
    clear h4
    simp only [x_ValSameI, T.enc, go_sem, seval, rg, T.mk.injEq, spEqualS_md, spEqualS_pre, spEqualS_alts, spEqualS_res, spEqualS_out, spEqualF_md, spEqualF_pre, spEqualF_alts, spEqualF_res, spEqualF_out]
    repeat' (first | with_reducible assumption | with_reducible refine And.intro ?_ ?_ | intro _)
    all_goals first | omega | (grind; done) | skip
theorem equalF_sound (k : Nat) (hS : Sound Go.Proofs.Try.prog 11 (spSameI k)) : Sound Go.Proofs.Try.prog 34 (spEqualF (k + 1)) := by
  refine sound_fam (GOK.cons call_ValSameI hS GOK.nil) Go.Proofs.Try.func34 (c := Go.Proofs.Try.f34.body.getD .skip) rfl (n := 32) rfl chk_EqualF rs_EqualF (fun _ => by simp) ?_ ?_
  · exact spEqualF_inj
  · rintro ⟨a, b⟩ ⟨h1, h3⟩
    simp only at h3
    simp only [lenB] at h1
    have fa := fitL_mem h1.2.1
    have fb := fitL_mem h1.2.2.2
    by_cases hl : a.length = b.length
    · have b1 : ((a.length : Int) = (b.length : Int)) = True := by simp [hl]
      simp only [x_EqualF, rg, go_sem, seval, b1]
      refine pw_loop (ι := Nat) (fun i => a.length - i) (fun i => i ≤ a.length ∧ a.take i = b.take i)
        (fun i => ⟨[(1, .q (.c (.row 5 (encL b)))), (2, .q (.c (.fn 11))), (15, .q (.c (.row 5 (encL a)))), (16, .q (.c (.int .i64 a.length))), (17, .q (.c (.int .i64 i)))], [], []⟩) 0 ⟨Nat.zero_le _, rfl⟩ (Le.refl _) ?_
      rintro i ⟨hi, heq⟩
      rcases Nat.lt_or_ge i a.length with hlt | hge
      · obtain ⟨s, hs, _, hmem⟩ := drop_at hlt
        obtain ⟨s', hs', _, hmem'⟩ := drop_at (l := b) (i := i) (by omega)
        have a1 := encL_at hs
        have a1' := encL_at hs'
        have a2 : ((i : Int) < (a.length : Int)) = True := by simp; omega
        have a3 : ((i : Int) < (b.length : Int)) = True := by simp; omega
        have a4 := fa s hmem
        have a5 := fb s' hmem'
        have a6 := T.enc_len s
        have a6' := T.enc_len s'
        have a8 := size_mem hmem
        by_cases hc : s = s'
        · have c1 : (s = s') = True := by simp [hc]
          simp only [go_sem, seval, rg, a1, a1', a2, a3, a6, a6', c1, spSameI_md, spSameI_pre, spSameI_alts, spSameI_res, spSameI_out]
          repeat' (first | with_reducible assumption | with_reducible refine And.intro ?_ ?_ | intro _)
          all_goals first | omega | skip
          exact ⟨i + 1, ⟨by omega, take_at hs (hc ▸ hs') heq⟩, by omega, Le.sub (fun _ h => h) (fun _ h => by cases h) (fun _ h => h)⟩
        · have c1 : (s = s') = False := by simp [hc]
          simp only [go_sem, seval, rg, a1, a1', a2, a3, a6, a6', c1, spSameI_md, spSameI_pre, spSameI_alts, spSameI_res, spSameI_out]
          repeat' (first | with_reducible assumption | with_reducible refine And.intro ?_ ?_ | intro _)
          all_goals first | omega | skip
          rename_i h; exact ne_at hs hs' hc h
      · have a2 : ((i : Int) < (a.length : Int)) = False := by simp; omega
        have hie : i = a.length := by omega
        subst hie
        simp only [go_sem, seval, a2]
        exact take_all hl heq
    · have b1 : ((a.length : Int) = (b.length : Int)) = False := by simp; omega
      simp only [x_EqualF, rg, go_sem, seval, b1]
      exact fun e => hl (by rw [e])
theorem sameI_all (k : Nat) : Sound Go.Proofs.Try.prog 11 (spSameI k) ∧ Sound Go.Proofs.Try.prog 34 (spEqualF k) := by
  induction k with
  | zero => exact ⟨Sound.none, Sound.none⟩
  | succ k ih => exact ⟨sameI_sound k ih.2, equalF_sound k ih.1⟩
noncomputable def spSameIV  : Spec := Spec.of (ι := T × T) [false, false] (fun i => [.d (.agg i.1.enc), .d (.agg i.2.enc)]) (fun i => i.1.fit 140737488355328 ∧ i.2.fit 140737488355328) (fun i => [.d (.one (.bool (decide (i.1 = i.2))))]) (fun _ => [.gone, .gone])
theorem spSameIV_inj : ∀ i j : T × T, (fun (i : T × T) => ([.d (.agg i.1.enc), .d (.agg i.2.enc)] : List AV)) i = (fun (i : T × T) => ([.d (.agg i.1.enc), .d (.agg i.2.enc)] : List AV)) j → i = j := by
  rintro ⟨a, b⟩ ⟨a', b'⟩ h
  simp only [Prod.mk.injEq]
  simpa [strs_eq, T.enc_eq, encL_eq, F.enc_eq, encF_eq, Tk.enc_eq, encTk_eq, Gn.enc_eq, ints_eq] using h
theorem spSameIV_md  : (spSameIV).md = [false, false] := rfl
theorem spSameIV_pre  (a : T) (b : T) : (spSameIV).pre [.d (.agg a.enc), .d (.agg b.enc)] = (a.fit 140737488355328 ∧ b.fit 140737488355328) := Spec.of_pre' spSameIV_inj (a, b)
theorem spSameIV_alts  : (spSameIV).alts = none := rfl
theorem spSameIV_res  (a : T) (b : T) : (spSameIV).res [.d (.agg a.enc), .d (.agg b.enc)] = [.d (.one (.bool (decide (a = b))))] := Spec.of_res spSameIV_inj (a, b)
theorem spSameIV_out  (a : T) (b : T) : (spSameIV).out [.d (.agg a.enc), .d (.agg b.enc)] = [.gone, .gone] := Spec.of_out spSameIV_inj (a, b)
theorem spSameIV_all  (a : T) (b : T) (F : List AV → List AV → Prop) : (spSameIV).all [.d (.agg a.enc), .d (.agg b.enc)] F = F [.d (.one (.bool (decide (a = b))))] [.gone, .gone] := by rw [Spec.all_fn rfl, spSameIV_res, spSameIV_out]
theorem spSameIV_ne  (a : T) (b : T) : (spSameIV).ne [.d (.agg a.enc), .d (.agg b.enc)] = True := Spec.ne_fn rfl _
theorem sameIV_sound : Sound Go.Proofs.Try.prog 11 spSameIV := Sound.all (μ := fun i => SizeOf.sizeOf i.1) (fun k => (sameI_all k).1)
end Go.Proofs.Pw
