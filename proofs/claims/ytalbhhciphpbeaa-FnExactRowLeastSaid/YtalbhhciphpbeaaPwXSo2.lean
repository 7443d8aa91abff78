/- A part of a row brought in order by insertion. -/
import Derived.Test.YtalbhhciphpbeaaPwXSo
set_option linter.unusedSimpArgs false
set_option linter.unusedVariables false
set_option linter.unusedSimpArgs false
set_option maxRecDepth 20000
namespace Go.Proofs.Pw
set_option linter.unusedSectionVars false
variable [Globs]
noncomputable def spInsG  : Spec := Spec.of (ι := (List T) × Int × Int) [true, false, false, false] (fun i => [.own 5 (encL i.1), .d (.one (.int .i64 i.2.1)), .d (.one (.int .i64 i.2.2)), .d (.one (.fn 53))]) (fun i => lenB 1000000 i.1.length ∧ fitL 140737488355328 i.1 ∧ 0 ≤ i.2.1 ∧ i.2.1 ≤ i.2.2 ∧ i.2.2 ≤ i.1.length) (fun _ => []) (fun i => [.own 5 (encL (srtSeg i.1 i.2.1.toNat i.2.2.toNat)), .gone, .gone, .gone])
theorem spInsG_inj : ∀ i j : (List T) × Int × Int, (fun (i : (List T) × Int × Int) => ([.own 5 (encL i.1), .d (.one (.int .i64 i.2.1)), .d (.one (.int .i64 i.2.2)), .d (.one (.fn 53))] : List AV)) i = (fun (i : (List T) × Int × Int) => ([.own 5 (encL i.1), .d (.one (.int .i64 i.2.1)), .d (.one (.int .i64 i.2.2)), .d (.one (.fn 53))] : List AV)) j → i = j := by
  rintro ⟨l, a, b⟩ ⟨l', a', b'⟩ h
  simp only [Prod.mk.injEq]
  simpa [strs_eq, T.enc_eq, encL_eq, F.enc_eq, encF_eq, Tk.enc_eq, encTk_eq, Gn.enc_eq, ints_eq] using h
theorem spInsG_md  : (spInsG).md = [true, false, false, false] := rfl
theorem spInsG_pre  (l : List T) (a : Int) (b : Int) : (spInsG).pre [.own 5 (encL l), .d (.one (.int .i64 a)), .d (.one (.int .i64 b)), .d (.one (.fn 53))] = (lenB 1000000 l.length ∧ fitL 140737488355328 l ∧ 0 ≤ a ∧ a ≤ b ∧ b ≤ l.length) := Spec.of_pre' spInsG_inj (l, a, b)
theorem spInsG_alts  : (spInsG).alts = none := rfl
theorem spInsG_res  (l : List T) (a : Int) (b : Int) : (spInsG).res [.own 5 (encL l), .d (.one (.int .i64 a)), .d (.one (.int .i64 b)), .d (.one (.fn 53))] = [] := Spec.of_res spInsG_inj (l, a, b)
theorem spInsG_out  (l : List T) (a : Int) (b : Int) : (spInsG).out [.own 5 (encL l), .d (.one (.int .i64 a)), .d (.one (.int .i64 b)), .d (.one (.fn 53))] = [.own 5 (encL (srtSeg l a.toNat b.toNat)), .gone, .gone, .gone] := Spec.of_out spInsG_inj (l, a, b)
set_option maxHeartbeats 4000000 in
theorem insG_sound : Sound Go.Proofs.Try.prog 74 spInsG := by
  refine sound_fam (GOK.cons call_ValOrderI ordIV_sound GOK.nil) Go.Proofs.Try.func74 (c := Go.Proofs.Try.f74.body.getD .skip) rfl (n := 53) rfl chk_insS rs_insS (fun _ => by simp) ?_ ?_
  · exact spInsG_inj
  · rintro ⟨l0, a, b⟩ ⟨h1, h2, ha, hb, h3⟩
    simp only [lenB] at h1 h2 ha hb h3
    obtain ⟨a, rfl⟩ := Int.eq_ofNat_of_zero_le ha
    obtain ⟨b, rfl⟩ := Int.eq_ofNat_of_zero_le (a := b) (by omega)
    obtain ⟨L, l, R, hl, k1, k2⟩ := split3 (l := l0) (a := a) (b := b) (by omega) (by omega)
    subst hl
    have ht := srtSeg_at (A := L) (X := l) (C := R) (a := a) (b := b) k1 k2
    simp only [List.length_append] at h1
    have h2' : ∀ t ∈ L ++ l ++ R, t.fit 140737488355328 := fitL_mem h2
    simp only [x_insS, rg, go_sem, seval, Prod.fst, Int.toNat_natCast, ht]
    repeat' (first | with_reducible assumption | with_reducible refine And.intro ?_ ?_ | intro _)
    all_goals first | omega | skip
    refine pw_loop (ι := Nat) (fun i => l.length - i) (fun i => 1 ≤ i ∧ (i ≤ l.length ∨ i = 1))
      (fun i => ⟨[(0, .q (.own 1000000053)), (1, .q (.c (.int .i64 a))), (2, .q (.c (.int .i64 b))), (3, .q (.c (.fn 53))), (8, .q (.c (.int .i64 (a + i))))], [], [(1000000053, 5, encL (L ++ (sortC cmpT (l.take i) ++ l.drop i) ++ R))]⟩) 1 ⟨Nat.le_refl _, .inr rfl⟩ ?_ ?_
    · refine Le.of_eq ?_
      cases l with
      | nil => simp [sortC, encL]
      | cons x l => simp [sortC, insC, encL]
    · rintro i ⟨g1, g2⟩
      rcases Nat.lt_or_ge i l.length with hlt | hge
      · obtain ⟨x, hx, hd, hmem⟩ := drop_at hlt
        have b1 : ((a : Int) + (i : Int) < (b : Int)) = True := eq_true (by omega)
        simp only [rg, go_sem, seval, Prod.fst, b1]
        repeat' (first | with_reducible assumption | with_reducible refine And.intro ?_ ?_ | intro _)
        all_goals first | omega | skip
        refine pw_loop (ι := Nat × List T × List T) (fun z => z.1) (fun z => z.2.1.length = z.1 ∧ z.2.1 ++ z.2.2 = sortC cmpT (l.take i) ∧ ∀ b ∈ z.2.2, cmpT x b ≤ 0)
          (fun z => ⟨[(0, .q (.own 1000000053)), (1, .q (.c (.int .i64 a))), (2, .q (.c (.int .i64 b))), (3, .q (.c (.fn 53))), (8, .q (.c (.int .i64 (a + i)))), (9, .q (.c (.int .i64 (a + z.1))))], [], [(1000000053, 5, encL (L ++ z.2.1 ++ x :: z.2.2 ++ (l.drop (i + 1) ++ R)))]⟩) (i, sortC cmpT (l.take i), []) ⟨?_, by simp, by simp⟩ ?_ ?_
        · rw [(sortC_perm cmpT_is _).length_eq]; simp; omega
        · exact Le.of_eq (by rw [hd]; simp)
        · rintro ⟨j, A, B⟩ ⟨c1, c2, c3⟩
          simp only at c1 c2 c3
          have hj0 : A.length + B.length = i := by
            have := (sortC_perm cmpT_is (l.take i)).length_eq
            rw [← c2] at this
            simp at this; omega
          have hlen : (L ++ A ++ x :: B ++ (l.drop (i + 1) ++ R)).length = L.length + l.length + R.length := by
            simp; omega
          have hmAll : ∀ t ∈ L ++ A ++ x :: B ++ (l.drop (i + 1) ++ R), t ∈ L ++ l ++ R := fun t ht => by
            have c5 : ∀ t ∈ A ++ B, t ∈ l := fun t ht => by
              rw [c2] at ht
              exact List.mem_of_mem_take ((sortC_perm cmpT_is _).mem_iff.1 ht)
            simp only [List.mem_append, List.mem_cons] at ht c5 ⊢
            rcases ht with ((ht | ht) | ht | ht) | ht | ht
            · exact .inl (.inl ht)
            · exact .inl (.inr (c5 t (.inl ht)))
            · subst ht; exact .inl (.inr hmem)
            · exact .inl (.inr (c5 t (.inr ht)))
            · exact .inl (.inr (List.mem_of_mem_drop ht))
            · exact .inr ht
          have b4 : (L ++ A ++ x :: B ++ (l.drop (i + 1) ++ R))[L.length + j]? = some x := by
            rw [List.append_assoc, List.getElem?_append_right (by simp; omega)]; simp [c1]
          have a4 := encL_at b4
          have f0 := T.enc_len x
          have f2 := h2' x (hmAll x (by simp))
          have e1 : ((a : Int) + (j : Int)).toNat = L.length + j := by omega
          cases j with
          | zero =>
            have hA := List.eq_nil_of_length_eq_zero c1
            subst hA
            have b2 : ((a : Int) < (a : Int) + 0) = False := eq_false (by omega)
            have e1' : ((a : Int) + 0).toNat = L.length := by omega
            have hlen' : (L ++ x :: B ++ (l.drop (i + 1) ++ R)).length = L.length + l.length + R.length := by simpa using hlen
            have a4' : (encL (L ++ x :: B ++ (l.drop (i + 1) ++ R))).getD L.length [] = x.enc := by simpa using a4
            obtain ⟨w, hw⟩ : ∃ w, (L ++ x :: B ++ (l.drop (i + 1) ++ R))[((a : Int) + 0 - 1).toNat]? = some w := ⟨_, List.getElem?_eq_getElem (by rw [hlen']; omega)⟩
            have a5 := encL_at hw
            have f1 := T.enc_len w
            have f3 := h2' w (hmAll w (by simpa using List.mem_of_getElem? hw))
            have e : sortC cmpT (l.take (i + 1)) = x :: B := by
              rw [List.take_add_one, hx]
              exact (sort_step (A := []) (sortC_srt cmpT_is _) c2 c3 (by simp) (sortC_perm cmpT_is _)).symm
            simp only [rg, go_sem, seval, Prod.fst, b2, e1', a4', a5, f0, f1, encL_len, spOrdIV_md, spOrdIV_pre, spOrdIV_alts, spOrdIV_res, spOrdIV_out, spOrdIV_md, spOrdIV_pre, spOrdIV_ne, ↓spOrdIV_all, spOrdIV_all]
            repeat' (first | with_reducible assumption | with_reducible refine And.intro ?_ ?_ | intro _)
            all_goals first | omega | skip
            refine ⟨i + 1, ⟨by omega, .inl (by omega)⟩, by omega, Le.of_eq ?_⟩
            simp [e]; omega
          | succ j =>
            obtain ⟨A, y, rfl, c4⟩ := snoc_of c1
            have b2 : ((a : Int) + ((j + 1 : Nat) : Int) > (a : Int)) = True := eq_true (by omega)
            have b3 : ((a : Int) + ((j + 1 : Nat) : Int) - 1).toNat = L.length + j := by omega
            have b5 : (L ++ (A ++ [y]) ++ x :: B ++ (l.drop (i + 1) ++ R))[L.length + j]? = some y := by
              rw [List.append_assoc, List.append_assoc, List.getElem?_append_right (by omega), List.append_assoc, List.getElem?_append_right (by simp; omega)]; simp [c4]
            have a5 := encL_at b5
            have b6 : ((L ++ (A ++ [y]) ++ x :: B ++ (l.drop (i + 1) ++ R)).set (L.length + (j + 1)) y)[L.length + j]? = some y := by rw [List.getElem?_set_ne (by omega)]; exact b5
            have a6 := encL_at b6
            have f1 := T.enc_len y
            have f3 := h2' y (hmAll y (by simp))
            simp only [rg, go_sem, seval, Prod.fst, b2, b3, e1, a4, a5, a6, f0, f1, encL_set, T.enc_drop5, encL_len, hlen, List.length_set, spOrdIV_md, spOrdIV_pre, spOrdIV_alts, spOrdIV_res, spOrdIV_out, spOrdIV_md, spOrdIV_pre, spOrdIV_ne, ↓spOrdIV_all, spOrdIV_all]
            repeat' (first | with_reducible assumption | with_reducible refine And.intro ?_ ?_ | intro _)
            all_goals first | omega | skip
            · refine ⟨(j, A, y :: B), ⟨c4, by rw [← c2]; simp, ?_⟩, by show j < j + 1; omega, Le.of_eq ?_⟩
              · intro b hb
                rcases List.mem_cons.1 hb with rfl | hb
                · omega
                · exact c3 b hb
              · have e := swap_set (L ++ A) B (l.drop (i + 1) ++ R) x y
                have e5 : (L ++ A).length = L.length + j := by simp [c4]
                rw [e5] at e
                have e6 : L ++ (A ++ [y]) ++ x :: B ++ (l.drop (i + 1) ++ R) = L ++ A ++ [y] ++ x :: B ++ (l.drop (i + 1) ++ R) := by simp
                rw [show L.length + (j + 1) = L.length + j + 1 by omega, e6, e]
                simp; omega
            · have e : sortC cmpT (l.take (i + 1)) = (A ++ [y]) ++ x :: B := by
                rw [List.take_add_one, hx]
                refine (sort_step (sortC_srt cmpT_is _) c2 c3 (fun a ha => ?_) (sortC_perm cmpT_is _)).symm
                have hy : cmpT y x ≤ 0 := by have := cmpT_is.anti x y; omega
                have hs : Srt cmpT (A ++ [y] ++ B) := by rw [c2]; exact sortC_srt cmpT_is _
                rw [Srt, List.pairwise_append, List.pairwise_append] at hs
                rcases List.mem_append.1 ha with ha | ha
                · exact cmpT_is.le_trans (hs.1.2.2 a ha y (by simp)) hy
                · simp at ha; subst ha; exact hy
              refine ⟨i + 1, ⟨by omega, .inl (by omega)⟩, by omega, Le.of_eq ?_⟩
              simp [e]; omega
      · have b1 : ((a : Int) + (i : Int) < (b : Int)) = False := eq_false (by omega)
        have e : sortC cmpT (l.take i) ++ l.drop i = sortC cmpT l := by
          rw [List.take_of_length_le hge, List.drop_of_length_le hge, List.append_nil]
        simp only [rg, go_sem, seval, Prod.fst, b1, e]
end Go.Proofs.Pw
