/- Trees in new memory that nobody else holds. -/
import Derived.Test.YtalbhhciphpbeaaPwD
import Derived.Test.YtalbhhciphpbeaaPwOk
import Derived.Test.YtalbhhciphpbeaaPwOkI
import Derived.Test.YtalbhhciphpbeaaPwTreeX
set_option linter.unusedSimpArgs false
set_option linter.unusedVariables false
set_option linter.unusedSimpArgs false
set_option maxRecDepth 20000
namespace Go.Proofs.Pw
set_option linter.unusedSectionVars false
variable [Globs]
def x_cloneX : X := (.seq (.reg [⟨some 1, none, .box (.t 0) (some 5)⟩, ⟨some 2, none, .alloc [(.c (.int .i64 0)), (.c (.int .i64 0)), (.c (.str ⟨#[]⟩)), (.z 1), (.z 5)]⟩] none [1, 2]) (.seq (.reg [⟨some 6, none, .bsl 1 []⟩, ⟨some 7, none, .fa (.t 1) 3⟩, ⟨some 8, none, .load (.t 7) none⟩, ⟨some 9, none, .app (.t 6) (.t 8) 1 16 []⟩, ⟨some 10, none, .fa (.t 1) 3⟩, ⟨none, none, .st (.t 10) (.t 9) none⟩] none [1, 2]) (.seq (.reg [⟨some 11, none, .bsl 5 []⟩, ⟨some 3, none, .mv (.t 11)⟩] none [1, 2, 3]) (.seq (.seq (.reg [⟨some 12, none, .fa (.t 1) 4⟩, ⟨some 13, none, .load (.t 12) none⟩, ⟨some 14, none, .len (.t 13) false⟩, ⟨some 15, none, .mv (.k (.c (.int .i64 0)))⟩] none [1, 2, 3, 13, 14, 15]) (.block 0 (.loop (.seq (.reg [⟨some 16, none, .bin false .lss (.t 15) (.t 14)⟩] none [1, 2, 3, 13, 14, 15, 16]) (.seq (.cond (.t 16) .skip (.exit 0)) (.seq (.block 1 (.seq (.reg [⟨some 17, none, .ia (.t 13) (.t 15) 5⟩, ⟨some 18, none, .load (.t 17) (some 5)⟩, ⟨some 5, none, .alloc [(.c (.int .i64 0)), (.c (.int .i64 0)), (.c (.str ⟨#[]⟩)), (.z 1), (.z 5)]⟩, ⟨none, none, .st (.t 5) (.t 18) (some 5)⟩] none [1, 2, 3, 5, 13, 14, 15]) (.reg [⟨some 19, none, .mv (.t 3)⟩, ⟨some 20, none, .load (.t 5) (some 5)⟩, ⟨some 21, none, .call 50 [(.t 20)]⟩, ⟨some 22, none, .bslx 5 [((.t 21), (some 5))]⟩, ⟨some 23, none, .appx (.t 19) (.t 22) 5 80⟩, ⟨some 3, none, .mv (.t 23)⟩] none [1, 2, 3, 13, 14, 15]))) (.reg [⟨some 24, none, .bin false .add (.t 15) (.k (.c (.int .i64 1)))⟩, ⟨some 15, none, .mv (.t 24)⟩] none [1, 2, 3, 13, 14, 15]))))))) (.seq (.reg [⟨some 25, none, .mv (.t 3)⟩, ⟨some 26, none, .fa (.t 1) 4⟩, ⟨none, none, .st (.t 26) (.t 25) none⟩] none [1, 2]) (.seq (.reg [⟨some 27, none, .load (.t 1) (some 5)⟩, ⟨none, none, .st (.t 2) (.t 27) (some 5)⟩] none [2]) .ret))))))
theorem chk_cloneX : chkX Go.Proofs.Try.prog 28 (Go.Proofs.Try.f50.body.getD .skip) x_cloneX = true := by kernel_rfl
theorem rs_cloneX : okRs Go.Proofs.Try.prog Go.Proofs.Try.f50.results.toList [.cell 2 (some 5)] = true := by kernel_rfl
theorem call_cloneX : okCallee Go.Proofs.Try.prog 50 = true := by kernel_rfl
noncomputable def spCloneX (k:Nat) : Spec := Spec.of (ι := T) [false] (fun i => [.d (.agg i.enc)]) (fun i => (i.fit 2000000) ∧ SizeOf.sizeOf i < k) (fun i => [.ag (agX i)]) (fun _ => [.gone])
theorem spCloneX_inj : ∀ i j : T, (fun (i : T) => ([.d (.agg i.enc)] : List AV)) i = (fun (i : T) => ([.d (.agg i.enc)] : List AV)) j → i = j := by
  intro t t' h
  simpa [strs_eq, T.enc_eq, encL_eq, F.enc_eq, encF_eq, Tk.enc_eq, encTk_eq, Gn.enc_eq, ints_eq] using h
theorem spCloneX_md (k:Nat) : (spCloneX k).md = [false] := rfl
theorem spCloneX_pre (k:Nat) (t : T) : (spCloneX k).pre [.d (.agg t.enc)] = ((t.fit 2000000) ∧ SizeOf.sizeOf t < k) := Spec.of_pre' spCloneX_inj t
theorem spCloneX_alts (k:Nat) : (spCloneX k).alts = none := rfl
theorem spCloneX_res (k:Nat) (t : T) : (spCloneX k).res [.d (.agg t.enc)] = [.ag (agX t)] := Spec.of_res spCloneX_inj t
theorem spCloneX_out (k:Nat) (t : T) : (spCloneX k).out [.d (.agg t.enc)] = [.gone] := Spec.of_out spCloneX_inj t
set_option maxHeartbeats 1000000 in
theorem cloneX_sound (k : Nat) (hS : Sound Go.Proofs.Try.prog 50 (spCloneX k)) : Sound Go.Proofs.Try.prog 50 (spCloneX (k + 1)) := by
  refine sound_fam (GOK.cons call_cloneX hS GOK.nil) Go.Proofs.Try.func50 (c := Go.Proofs.Try.f50.body.getD .skip) rfl (n := 28) rfl chk_cloneX rs_cloneX (fun _ => by simp) ?_ ?_
  · exact spCloneX_inj
  · rintro t ⟨h1, h4⟩
    obtain ⟨kk, n, s, ks, l⟩ := t
    simp only [T.fit, lenB, strsFit] at h1
    obtain ⟨_, _, f1, ⟨f2, _⟩, f3, f4⟩ := h1
    have e3 : SizeOf.sizeOf l < k := by have e : SizeOf.sizeOf (T.mk kk n s ks l) < k + 1 := h4
                                        rw [T.mk.sizeOf_spec] at e; omega
    simp only [x_cloneX, T.enc, agX, go_sem, seval, Prod.fst, rg, strs_len, encL_len]
    repeat' (first | with_reducible assumption | with_reducible refine And.intro ?_ ?_ | intro _)
    all_goals first | omega | skip
    refine pw_loop (ι := Nat) (fun i => l.length - i) (fun i => i ≤ l.length)
      (fun i => ⟨[(1, .q (.box 1 0)), (2, .q (.box 2 0)), (3, .q (.own 23)), (13, .q (.c (.row 5 (encL l)))), (14, .q (.c (.int .i64 l.length))), (15, .q (.c (.int .i64 i)))],
        [(1, [.c (.int .i64 kk), .c (.int .i64 n), .c (.str s), .own 9, .c (.row 5 (encL l))]), (2, [.c (.int .i64 0), .c (.int .i64 0), .c (.str ⟨#[]⟩), .z 1, .z 5])], [(9, 1, strs ks), (23, 5, encLX (l.take i))]⟩) 0 (Nat.zero_le _) ?_ ?_
    · refine Le.own (t := 3) (d := 23) (sz := 5) (by decide) (by simp) (by simp [Q.killO]) ?_
      simp [PV.map, Q.killO]
    · intro i hi
      rcases Nat.lt_or_ge i l.length with hlt | hge
      · obtain ⟨t, ht, _, hmem⟩ := drop_at hlt
        have a1 := encL_at ht
        have a2 : ((i : Int) < (l.length : Int)) = True := by simp; omega
        have a3 := fitL_mem f4 t hmem
        have a4 := size_mem hmem
        have a6 := T.enc_len t
        have a7 : (l.take i).length = i := by simp; omega
        obtain ⟨k1, n1, s1, ks1, l1⟩ := t
        simp only [go_sem, seval, Prod.fst, rg, a1, a2, a6, a7, encL_len, spCloneX_md, spCloneX_pre, spCloneX_alts, spCloneX_res, spCloneX_out, agX]
        repeat' (first | with_reducible assumption | with_reducible refine And.intro ?_ ?_ | intro _)
        all_goals first | omega | assumption | skip
        refine ⟨i + 1, by omega, by omega, ?_⟩
        rw [encLX_take ht]
        exact Le.sub (by simp) (by simp) (by simp [T.encX])
      · have a2 : ((i : Int) < (l.length : Int)) = False := by simp; omega
        simp only [go_sem, seval, Prod.fst, rg, a2, List.take_of_length_le hge, Bool.false_or, Bool.or_true, Bool.not_true, Bool.false_eq_true]
theorem cloneX_all (k : Nat) : Sound Go.Proofs.Try.prog 50 (spCloneX k) := by
  induction k with
  | zero => exact Sound.none
  | succ k ih => exact cloneX_sound k ih
noncomputable def spCloneXT  : Spec := Spec.of (ι := T) [false] (fun i => [.d (.agg i.enc)]) (fun i => i.fit 2000000) (fun i => [.ag (agX i)]) (fun _ => [.gone])
theorem spCloneXT_inj : ∀ i j : T, (fun (i : T) => ([.d (.agg i.enc)] : List AV)) i = (fun (i : T) => ([.d (.agg i.enc)] : List AV)) j → i = j := by
  intro t t' h
  simpa [strs_eq, T.enc_eq, encL_eq, F.enc_eq, encF_eq, Tk.enc_eq, encTk_eq, Gn.enc_eq, ints_eq] using h
theorem spCloneXT_md  : (spCloneXT).md = [false] := rfl
theorem spCloneXT_pre  (t : T) : (spCloneXT).pre [.d (.agg t.enc)] = (t.fit 2000000) := Spec.of_pre' spCloneXT_inj t
theorem spCloneXT_alts  : (spCloneXT).alts = none := rfl
theorem spCloneXT_res  (t : T) : (spCloneXT).res [.d (.agg t.enc)] = [.ag (agX t)] := Spec.of_res spCloneXT_inj t
theorem spCloneXT_out  (t : T) : (spCloneXT).out [.d (.agg t.enc)] = [.gone] := Spec.of_out spCloneXT_inj t
theorem cloneXT_sound : Sound Go.Proofs.Try.prog 50 spCloneXT := Sound.all (μ := fun i => SizeOf.sizeOf i) cloneX_all
end Go.Proofs.Pw
