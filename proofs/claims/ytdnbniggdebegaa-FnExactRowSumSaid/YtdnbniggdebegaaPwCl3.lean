/- A copy is one's own: its rows are nobody else's. -/
import Derived.Test.YtdnbniggdebegaaPwAd
set_option linter.unusedSimpArgs false
set_option linter.unusedVariables false
set_option linter.unusedSimpArgs false
set_option maxRecDepth 20000
namespace Go.Proofs.Pw
set_option linter.unusedSectionVars false
variable [Globs]
/-- A tree whose keys and parts lie in rows that nobody else holds. -/
def agO : T → List Pt
  | .mk k n s ks l => [.c (.int .i64 k), .c (.int .i64 n), .c (.str s), .o 1 (strs ks), .o 5 (encL l)]
theorem agO_enc (t : T) : (agO t).map Pt.toC = t.enc := by cases t; simp [agO, Pt.toC, T.enc, dtR_plain, plainR_strs, plainR_encL]
theorem Sound.cong {P : Program} {f : FuncId} {sp sp' : Spec} (h : Sound P f sp) (hp : ∀ a, sp'.pre a → sp.pre a) (hm : ∀ a r o, sp'.pre a → sp.may a r o → sp'.may a r o) : Sound P f sp' := by
  intro args hpre w S vs fps hG hS hF ha hA
  refine (h args (hp _ hpre) w S vs fps hG hS hF ha hA).mono ?_
  rintro e w' ⟨r, o, hro, rest⟩
  exact ⟨r, o, hm _ _ _ hpre hro, rest⟩
noncomputable def spCopyA (k:Nat) : Spec := Spec.of (ι := T) [false] (fun i => [.d (.agg i.enc)]) (fun i => (i.fit 2000000) ∧ SizeOf.sizeOf i < k) (fun i => [.ag (agO i)]) (fun _ => [.gone])
theorem spCopyA_inj : ∀ i j : T, (fun (i : T) => ([.d (.agg i.enc)] : List AV)) i = (fun (i : T) => ([.d (.agg i.enc)] : List AV)) j → i = j := by
  intro t t' h
  simpa [strs_eq, T.enc_eq, encL_eq, F.enc_eq, encF_eq, Tk.enc_eq, encTk_eq, Gn.enc_eq, ints_eq] using h
theorem spCopyA_pre (k:Nat) (t : T) : (spCopyA k).pre [.d (.agg t.enc)] = ((t.fit 2000000) ∧ SizeOf.sizeOf t < k) := Spec.of_pre' spCopyA_inj t
theorem spCopyA_res (k:Nat) (t : T) : (spCopyA k).res [.d (.agg t.enc)] = [.ag (agO t)] := Spec.of_res spCopyA_inj t
theorem spCopyA_out (k:Nat) (t : T) : (spCopyA k).out [.d (.agg t.enc)] = [.gone] := Spec.of_out spCopyA_inj t
theorem copyA_plain {k : Nat} (h : Sound Go.Proofs.Try.prog 17 (spCopyA k)) : Sound Go.Proofs.Try.prog 17 (spCopy k) := by
  have hw : Sound Go.Proofs.Try.prog 17 (spCopyA k).weak := h.weak (by
    rintro ds r o ⟨i, rfl, _⟩ ⟨rfl, rfl⟩ x hx
    simp only [spCopyA_res, List.mem_singleton] at hx; subst hx
    obtain ⟨k, n, s, ks, l⟩ := i
    simp [AV.dt, Pt.dt, agO, dtR_plain, plainR_strs, plainR_encL])
  refine hw.cong (fun a ha => ?_) (fun a r o ha hr => ?_)
  · obtain ⟨t, rfl, ht⟩ := ha
    show (spCopyA k).pre _
    rw [spCopyA_pre]; exact ht
  · obtain ⟨t, rfl, ht⟩ := ha
    obtain ⟨h1, h2⟩ := (Spec.may_none (sp := (spCopyA k).weak) rfl).1 hr
    refine (Spec.may_none (spCopy_alts k)).2 ⟨?_, ?_⟩
    · rw [h1, spCopy_res]
      show ((spCopyA k).res _).map AV.weak = _
      rw [spCopyA_res]
      simp only [List.map_cons, List.map_nil, AV.weak, agO_enc]
    · rw [h2, spCopy_out]
      show (spCopyA k).out _ = _
      rw [spCopyA_out]
set_option maxHeartbeats 1000000 in
theorem copyA_sound (k : Nat) (hA : Sound Go.Proofs.Try.prog 17 (spCopyA k)) : Sound Go.Proofs.Try.prog 17 (spCopyA (k + 1)) := by
  have hS := copyA_plain hA
  refine sound_fam (GOK.cons call_l1Copy hS GOK.nil) Go.Proofs.Try.func17 (c := Go.Proofs.Try.f17.body.getD .skip) rfl (n := 35) rfl chk_l1Copy rs_l1Copy (fun _ => by simp) ?_ ?_
  · exact spCopyA_inj
  · rintro t ⟨h1, h4⟩
    obtain ⟨kk, n, s, ks, l⟩ := t
    simp only [T.fit, lenB, strsFit] at h1
    obtain ⟨_, _, f1, ⟨f2, _⟩, f3, f4⟩ := h1
    have e3 : SizeOf.sizeOf l < k := by have e : SizeOf.sizeOf (T.mk kk n s ks l) < k + 1 := h4
                                        rw [T.mk.sizeOf_spec] at e; omega
    simp only [x_l1Copy, T.enc, agO, go_sem, seval, Prod.fst, rg, strs_len, encL_len]
    repeat' (first | with_reducible assumption | with_reducible refine And.intro ?_ ?_ | intro _)
    all_goals first | omega | skip
    refine pw_loop (ι := Nat) (fun i => l.length - i) (fun i => i ≤ l.length)
      (fun i => ⟨[(1, .q (.box 1 0)), (2, .q (.box 2 0)), (3, .q (.box 3 0)), (4, .q (.c (.int .i64 i)))],
        [(1, [.c (.int .i64 kk), .c (.int .i64 n), .c (.str s), .c (.row 1 (strs ks)), .c (.row 5 (encL l))]), (2, [.c (.int .i64 0), .c (.int .i64 0), .c (.str ⟨#[]⟩), .z 1, .z 5]), (3, [.c (.int .i64 kk), .c (.int .i64 n), .c (.str s), .own 14, .own 32])], [(14, 1, strs ks), (32, 5, encL (l.take i))]⟩) 0 (Nat.zero_le _) ?_ ?_
    · refine (Le.ownB (b := 3) (j := 4) (d := 32) (sz := 5) (qs := [.c (.int .i64 kk), .c (.int .i64 n), .c (.str s), .own 14, .z 5]) (by decide) (by simp) rfl (by simp [Q.killO]) (by simp [PV.map, Q.killO])).trans (Le.of_eq ?_)
      simp [upd, del, encL]
    · intro i hi
      rcases Nat.lt_or_ge i l.length with hlt | hge
      · obtain ⟨t, ht, _, hmem⟩ := drop_at hlt
        have a1 := encL_at ht
        have a2 : ((i : Int) < (l.length : Int)) = True := by simp; omega
        have a3 := fitL_mem f4 t hmem
        have a4 := size_mem hmem
        have a6 := T.enc_len t
        have a7 : (l.take i).length = i := by simp; omega
        simp only [go_sem, seval, Prod.fst, rg, a1, a2, a6, a7, encL_len, spCopy_md, spCopy_pre, spCopy_alts, spCopy_res, spCopy_out, spCopy_md, spCopy_pre, spCopy_ne, ↓spCopy_all, spCopy_all]
        repeat' (first | with_reducible assumption | with_reducible refine And.intro ?_ ?_ | intro _)
        all_goals first | omega | skip
        refine ⟨i + 1, by omega, by omega, ?_⟩
        rw [encL_take ht]
        exact Le.sub (by simp) (by simp) (by simp)
      · have a2 : ((i : Int) < (l.length : Int)) = False := by simp; omega
        simp only [go_sem, seval, Prod.fst, rg, a2, List.take_of_length_le hge, Bool.false_or, Bool.or_true, Bool.not_true, Bool.false_eq_true]
theorem copyA_all (k : Nat) : Sound Go.Proofs.Try.prog 17 (spCopyA k) := by
  induction k with
  | zero => exact Sound.none
  | succ k ih => exact copyA_sound k ih
noncomputable def spCopyAT  : Spec := Spec.of (ι := T) [false] (fun i => [.d (.agg i.enc)]) (fun i => i.fit 2000000) (fun i => [.ag (agO i)]) (fun _ => [.gone])
theorem spCopyAT_inj : ∀ i j : T, (fun (i : T) => ([.d (.agg i.enc)] : List AV)) i = (fun (i : T) => ([.d (.agg i.enc)] : List AV)) j → i = j := by
  intro t t' h
  simpa [strs_eq, T.enc_eq, encL_eq, F.enc_eq, encF_eq, Tk.enc_eq, encTk_eq, Gn.enc_eq, ints_eq] using h
theorem spCopyAT_md  : (spCopyAT).md = [false] := rfl
theorem spCopyAT_pre  (t : T) : (spCopyAT).pre [.d (.agg t.enc)] = (t.fit 2000000) := Spec.of_pre' spCopyAT_inj t
theorem spCopyAT_alts  : (spCopyAT).alts = none := rfl
theorem spCopyAT_res  (t : T) : (spCopyAT).res [.d (.agg t.enc)] = [.ag (agO t)] := Spec.of_res spCopyAT_inj t
theorem spCopyAT_out  (t : T) : (spCopyAT).out [.d (.agg t.enc)] = [.gone] := Spec.of_out spCopyAT_inj t
theorem copyAT_sound : Sound Go.Proofs.Try.prog 17 spCopyAT := Sound.all (μ := fun i => SizeOf.sizeOf i) copyA_all
end Go.Proofs.Pw
