/- What is drawn: rows of trees by keys. -/
import Derived.Test.YtgpjodcopajlkaaDoorPwT19
import Derived.Test.YtgpjodcopajlkaaDoorPwT12
import Derived.Test.YtgpjodcopajlkaaDoorPwT20
import Derived.Test.YtgpjodcopajlkaaDoorPwT10
import Derived.Test.YtgpjodcopajlkaaDoorPwT13
import Derived.Test.YtgpjodcopajlkaaDoorPwT11
import Derived.Test.YtgpjodcopajlkaaDoorPwT14
set_option linter.unusedSimpArgs false
set_option linter.unusedVariables false
set_option linter.unusedSectionVars false
set_option maxRecDepth 20000
namespace Go.Proofs.Pw
variable [Globs]
structure goodM (m : Nat) (z : Int) (v : T) : Prop where
 f : v.fit 1000
 e : v.keys.length = v.list.length
 m : v.keys.length <= m
 z : sizeT v <= z
end Go.Proofs.Pw
namespace Go.Proofs.Pw
variable [Globs]
end Go.Proofs.Pw
namespace Go.Proofs.Pw
variable [Globs]
noncomputable def foldP : List ByteArray -> List T -> List ByteArray × List T -> List ByteArray × List T
 | k :: ks, t :: l, p => foldP ks l (putS k t false p.1 p.2)
 | _, _, p => p
structure Good (B : Nat) (z : Int) (p : List ByteArray × List T) : Prop where
 asc : Asc p.1
 len : p.1.length = p.2.length
 few : p.1.length <= B
 ks : ∀ s ∈ p.1, (s.size : Int) <= 60
 fit : fitL 60 p.2
 size : sizeL p.2 <= z
theorem fitL_iff {B : Int} {l : List T} : fitL B l ↔ ∀ t ∈ l, t.fit B := ⟨fun h t ht => fitL_in h t ht, fitL_of⟩
theorem Good.put {B : Nat} {z : Int} {p : List ByteArray × List T} (h : Good B z p) {k : ByteArray} {t : T} (hk : (k.size : Int) <= 60) (ht : t.fit 60) : Good (B + 1) (z + sizeT t) (putS k t false p.1 p.2) := by
 have h1 := (putS_len k t false p.1 p.2).1
 have h2 := putS_mem k t false p.1 p.2
 have h3 := putS_size k t false p.1 p.2
 have h4 := h.few
 have h5 := h.size
 refine ⟨putS_asc h.asc h.len, putS_len2 h.asc h.len, by simp at h1; omega, fun s hs => ?_, fitL_iff.2 fun x hx => ?_, by simp at h3; omega⟩
 ·rcases h2.1 s hs with rfl | h6
  ·exact hk
  ·exact h.ks s h6
 ·rcases h2.2 x hx with rfl | h6
  ·exact ht
  ·exact fitL_in h.fit x h6
noncomputable def addRaw : T -> T -> Option T
 | .mk k n s ks l, .mk k' n' s' ks' l' =>
   if k = 0 then some (.mk k' n' s' ks' l') else if k' = 0 then some (.mk k n s ks l) else if k ≠ k' then none
   else if k = 3 then some (.mk 3 (n + n') ⟨#[]⟩ [] []) else if k = 4 then some (.mk 4 0 (s ++ s') [] [])
   else if k = 5 then some (.mk 5 0 ⟨#[]⟩ [] (l ++ l')) else if k = 6 then some (.mk 6 0 ⟨#[]⟩ (foldP ks' l' (ks, l)).1 (foldP ks' l' (ks, l)).2) else none
def addOk (a b : T) : Prop := okT a /\ okT b /\ ∃ t, addRaw a b = some t /\ okT t
noncomputable instance (a b : T) : Decidable (addOk a b) := Classical.propDecidable _
end Go.Proofs.Pw
namespace Go.Proofs.Pw
variable [Globs]
end Go.Proofs.Pw
namespace Go.Proofs.Pw
variable [Globs]
end Go.Proofs.Pw
namespace Go.Proofs.Pw
theorem zs : T.zero.s = ⟨#[]⟩ := rfl
variable [Globs]
end Go.Proofs.Pw
namespace Go.Proofs.Pw
variable [Globs]
noncomputable def wgetO : T -> List Stp -> Option T
 | v, [] => some v
 | v, s :: p => if canGo s v then wgetO (oneT s v) p else none
noncomputable def pathGetO (v : T) (p : List Stp) : Option T := if okT v /\ wayOk p then wgetO v p else none
noncomputable def optT (o : Option T) : T := o.getD T.zero
theorem atT_ok {a : Int} {v : T} (h : okT v) : okT (atT a v) := by
 unfold atT
 split
 ·rename_i hc
  obtain ⟨k, n, s, ks, l⟩ := v
  have lt := placeI_lt hc.2
  simp only [T.list] at lt hc ⊢
  have hi : (placeI l.length a).toNat < l.length := by omega
  rw [List.getD_eq_getElem?_getD, List.getElem?_eq_getElem hi]
  exact okT_elem h (List.getElem_mem hi)
 ·exact okT_zero'
theorem oneT_ok {s : Stp} {v : T} (h : okT v) : okT (oneT s v) := by
 unfold oneT; split
 ·exact getT_ok h
 ·exact atT_ok h
theorem wgetO_ok : ∀ {p : List Stp} {v y : T}, okT v -> wgetO v p = some y -> okT y := by
 intro p
 induction p with
 | nil => intro v y hv h; simp only [wgetO, Option.some.injEq] at h; subst h; exact hv
 | cons s p ih =>
   intro v y hv h
   simp only [wgetO] at h
   split at h
   ·exact ih (oneT_ok hv) h
   ·cases h
end Go.Proofs.Pw
namespace Go.Proofs.Pw
variable [Globs]
end Go.Proofs.Pw
namespace Go.Proofs.Pw
variable [Globs]
end Go.Proofs.Pw
namespace Go.Proofs.Pw
variable [Globs]
end Go.Proofs.Pw
namespace Go.Proofs.Pw
variable [Globs]
end Go.Proofs.Pw
namespace Go.Proofs.Pw
variable [Globs]
end Go.Proofs.Pw
namespace Go.Proofs.Pw
variable [Globs]
end Go.Proofs.Pw
namespace Go.Proofs.Pw
variable [Globs]
def x_PathGetI : X := (.seq (.reg [⟨some 2, none, .box (.t 0) (some 5)⟩, ⟨some 4, none, .alloc [(.c (.int .i64 0)), (.c (.int .i64 0)), (.c (.str ⟨#[]⟩)), (.z 1), (.z 5)]⟩, ⟨some 5, none, .mv (.k (.c (.bool false)))⟩] none [1, 2, 4]) (.seq (.seq (.reg [⟨some 10, none, .load (.t 2) (some 5)⟩, ⟨some 11, none, .call 12 [(.t 10)]⟩, ⟨some 12, none, .not (.t 11)⟩, ⟨some 13, none, .mv (.t 12)⟩, ⟨some 14, some (13, false), .mv (.t 1)⟩, ⟨some 15, some (13, false), .call 23 [(.t 14)]⟩, ⟨some 16, some (13, false), .not (.t 15)⟩, ⟨some 17, none, .pick (.t 13) (.k (.c (.bool true))) (.t 16)⟩] none [1, 2, 4, 17]) (.cond (.t 17) (.seq (.reg [⟨some 18, none, .build [(.c (.int .i64 0)), (.c (.int .i64 0)), (.c (.str ⟨#[]⟩)), (.z 1), (.z 5)] []⟩, ⟨none, none, .st (.t 4) (.t 18) (some 5)⟩, ⟨some 5, none, .mv (.k (.c (.bool false)))⟩] none [4, 5]) .ret) .skip)) (.seq (.seq (.reg [⟨some 19, none, .mv (.t 1)⟩, ⟨some 20, none, .len (.t 19) false⟩, ⟨some 21, none, .mv (.k (.c (.int .i64 0)))⟩] none [2, 4, 19, 20, 21]) (.block 0 (.loop (.seq (.reg [⟨some 22, none, .bin false .lss (.t 21) (.t 20)⟩] none [2, 4, 19, 20, 21, 22]) (.seq (.cond (.t 22) .skip (.exit 0)) (.seq (.block 1 (.seq (.reg [⟨some 23, none, .ia (.t 19) (.t 21) 3⟩, ⟨some 24, none, .load (.t 23) (some 3)⟩, ⟨some 7, none, .alloc [(.c (.bool false)), (.c (.str ⟨#[]⟩)), (.c (.int .i64 0))]⟩, ⟨none, none, .st (.t 7) (.t 24) (some 3)⟩] none [2, 4, 7, 19, 20, 21]) (.seq (.reg [⟨some 26, none, .load (.t 2) (some 5)⟩, ⟨some 27, none, .load (.t 7) (some 3)⟩, ⟨some 28, none, .call 63 [(.t 26), (.t 27)]⟩, ⟨some 25, none, .mv (.t 28)⟩, ⟨some 29, none, .ext (.t 25) 0⟩, ⟨some 30, none, .ext (.t 25) 1⟩, ⟨some 8, none, .alloc [(.c (.int .i64 0)), (.c (.int .i64 0)), (.c (.str ⟨#[]⟩)), (.z 1), (.z 5)]⟩, ⟨none, none, .st (.t 8) (.t 29) (some 5)⟩, ⟨some 9, none, .mv (.t 30)⟩] none [2, 4, 8, 9, 19, 20, 21]) (.seq (.seq (.reg [⟨some 31, none, .mv (.t 9)⟩, ⟨some 32, none, .not (.t 31)⟩] none [2, 4, 8, 19, 20, 21, 32]) (.cond (.t 32) (.seq (.reg [⟨some 33, none, .build [(.c (.int .i64 0)), (.c (.int .i64 0)), (.c (.str ⟨#[]⟩)), (.z 1), (.z 5)] []⟩, ⟨none, none, .st (.t 4) (.t 33) (some 5)⟩, ⟨some 5, none, .mv (.k (.c (.bool false)))⟩] none [4, 5]) .ret) .skip)) (.reg [⟨some 34, none, .load (.t 8) (some 5)⟩, ⟨none, none, .st (.t 2) (.t 34) (some 5)⟩] none [2, 4, 19, 20, 21]))))) (.reg [⟨some 35, none, .bin false .add (.t 21) (.k (.c (.int .i64 1)))⟩, ⟨some 21, none, .mv (.t 35)⟩] none [2, 4, 19, 20, 21]))))))) (.seq (.reg [⟨some 36, none, .load (.t 2) (some 5)⟩, ⟨some 37, none, .call 64 [(.t 36), (.k (.c (.bool true)))]⟩, ⟨some 38, none, .ext (.t 37) 0⟩, ⟨some 39, none, .ext (.t 37) 1⟩, ⟨none, none, .st (.t 4) (.t 38) (some 5)⟩, ⟨some 5, none, .mv (.t 39)⟩] none [4, 5]) .ret))))
theorem chk_PathGetI : chkX Tryd.prog 40 (Tryd.f28.body.getD .skip) x_PathGetI = true := by kernel_rfl
theorem rs_PathGetI : okRs Tryd.prog Tryd.f28.results.toList [.cell 4 (some 5), .tmp 5] = true := by kernel_rfl
theorem call_PathGetI : okCallee Tryd.prog 28 = true := by kernel_rfl
theorem pathGetO_not {v : T} {p : List Stp} (h : ¬ (okT v /\ wayOk p)) : pathGetO v p = none := if_neg h
theorem pathGetO_ok2 {v : T} {p : List Stp} (h1 : okT v) (h2 : wayOk p) : pathGetO v p = wgetO v p := if_pos ⟨h1, h2⟩
theorem wgetO_cons {s : Stp} {p : List Stp} {v : T} : wgetO v (s :: p) = if canGo s v then wgetO (oneT s v) p else none := rfl
theorem wgetO_nil {v : T} : wgetO v [] = some v := by cases v; rfl
noncomputable def spPathGetI  : Spec := Spec.of (ι := T × (List Stp)) [false, false] (fun i => [.d (.agg i.1.enc), .d (.one (.row 3 (encS i.2)))]) (fun i => i.1.fit 140737488355328 /\ wayFit i.2) (fun i => [.d (.agg (optT (pathGetO i.1 i.2)).enc), .d (.one (.bool (decide ((pathGetO i.1 i.2).isSome = true))))]) (fun _ => [.gone, .gone])
theorem spPathGetI_inj : ∀ i j : T × (List Stp), (fun (i : T × (List Stp)) => ([.d (.agg i.1.enc), .d (.one (.row 3 (encS i.2)))] : List AV)) i = (fun (i : T × (List Stp)) => ([.d (.agg i.1.enc), .d (.one (.row 3 (encS i.2)))] : List AV)) j -> i = j := by
 rintro ⟨v, p⟩ ⟨v', p'⟩ h
 simp only [Prod.mk.injEq]
 simpa [strs_eq, T.enc_eq, encL_eq, F.enc_eq, encF_eq, Tk.enc_eq, encTk_eq, Gn.enc_eq, ints_eq, encS_eq] using h
theorem spPathGetI_md  : (spPathGetI).md = [false, false] := rfl
theorem spPathGetI_pre  (v : T) (p : List Stp) : (spPathGetI).pre [.d (.agg v.enc), .d (.one (.row 3 (encS p)))] = (v.fit 140737488355328 /\ wayFit p) := Spec.of_pre' spPathGetI_inj (v, p)
theorem spPathGetI_alts  : (spPathGetI).alts = none := rfl
theorem spPathGetI_res  (v : T) (p : List Stp) : (spPathGetI).res [.d (.agg v.enc), .d (.one (.row 3 (encS p)))] = [.d (.agg (optT (pathGetO v p)).enc), .d (.one (.bool (decide ((pathGetO v p).isSome = true))))] := Spec.of_res spPathGetI_inj (v, p)
theorem spPathGetI_out  (v : T) (p : List Stp) : (spPathGetI).out [.d (.agg v.enc), .d (.one (.row 3 (encS p)))] = [.gone, .gone] := Spec.of_out spPathGetI_inj (v, p)
set_option maxHeartbeats 2000000 in
theorem PathGetI_sound : Sound Tryd.prog 28 spPathGetI := by
 refine sound_fam (GOK.cons (l := [(23, spPathOkI), (63, spStep), (64, spTold)]) call_ValOkI valOkI_sound (GOK.cons call_PathOkI PathOkI_sound (GOK.cons call_vstep vstep_sound (GOK.cons call_told told_sound GOK.nil)))) Tryd.func28 (c := Tryd.f28.body.getD .skip) rfl (n := 40) rfl chk_PathGetI rs_PathGetI (fun _ => by simp) ?_ ?_
 ·exact spPathGetI_inj
 ·rintro ⟨v, p⟩ ⟨h1, h3⟩
  simp only at h1 h3
  have f0 := T.enc_len v
  by_cases c1 : okT v
  ·have d1 : ((okI v 1 60).1 = true) = True := eq_true ((okI_iff _).2 c1)
   by_cases c2 : wayOk p
   ·have d2 := eq_true c2
    have e := pathGetO_ok2 c1 c2
    have lp : (p.length : Int) <= 6 := by have := c2.2; omega
    simp only [x_PathGetI, rg, go_sem, seval, Prod.fst, f0, d1, d2, encS_len, spValOkI_md, spValOkI_pre, spValOkI_alts, spValOkI_res, spValOkI_out, spPathOkI_md, spPathOkI_pre, spPathOkI_alts, spPathOkI_res, spPathOkI_out]
    repeat' (first | with_reducible assumption | with_reducible refine And.intro ?_ ?_ | intro _)
    all_goals first | omega | assumption | skip
    refine pw_loop (ι := Nat × T) (fun i => p.length - i.1) (fun i => i.1 <= p.length /\ okT i.2 /\ wgetO i.2 (p.drop i.1) = wgetO v p)
     (fun i => ⟨[(2, .q (.box 2 0)), (4, .q (.box 4 0)), (19, .q (.c (.row 3 (encS p)))), (20, .q (.c (.int .i64 p.length))), (21, .q (.c (.int .i64 i.1)))],
      [(2, i.2.enc.map .c), (4, [.c (.int .i64 0), .c (.int .i64 0), .c (.str ⟨#[]⟩), .z 1, .z 5])], []⟩) (0, v) ⟨Nat.zero_le _, c1, rfl⟩ (Le.sub (by simp) (by simp) (by simp)) ?_
    rintro ⟨i, x⟩ ⟨hi, hx, heq⟩
    simp only at hi hx heq
    have fx := T.enc_len x
    rcases Nat.lt_or_ge i p.length with hlt | hge
    ·obtain ⟨s, hs, hdr, hmem⟩ := drop_at hlt
     have b1 : ((i : Int) < (p.length : Int)) = True := eq_true (by omega)
     have a1 := encS_at hs
     have l3 := Stp.len3 s
     have sk := c2.1 s hmem
     have gx := T.fit_mono (B := 140737488355328) (by decide) (okT_fit hx)
     have fy := T.enc_len (oneT s x)
     rw [hdr, wgetO_cons] at heq
     by_cases g : canGo s x
     ·have g' := eq_true g
      rw [if_pos g] at heq
      simp only [rg, go_sem, seval, Prod.fst, b1, a1, l3, fx, fy, g', encS_len, spStep_md, spStep_pre, spStep_alts, spStep_res, spStep_out]
      repeat' (first | with_reducible assumption | with_reducible refine And.intro ?_ ?_ | intro _)
      all_goals first | omega | assumption | skip
      exact ⟨(i + 1, oneT s x), ⟨by show i + 1 <= _; omega, oneT_ok hx, heq⟩, by show p.length - (i + 1) < _; omega, Le.sub (by simp) (by simp [T.enc_len]) (by simp)⟩
     ·have g' := eq_false g
      rw [if_neg g] at heq
      have e2 : pathGetO v p = none := by rw [e, heq]
      have w1 : (optT none).enc = T.zero.enc := rfl
      have w2 : ((none : Option T).isSome = true) = False := by simp
      simp only [rg, go_sem, seval, Prod.fst, b1, a1, l3, fx, fy, g', e2, w1, w2, encS_len, T.zero_enc, spStep_md, spStep_pre, spStep_alts, spStep_res, spStep_out]
      repeat' (first | with_reducible assumption | with_reducible refine And.intro ?_ ?_ | intro _)
      all_goals first | omega | assumption | skip
    ·have b1 : ((i : Int) < (p.length : Int)) = False := eq_false (by omega)
     rw [List.drop_eq_nil_of_le hge, wgetO_nil] at heq
     have e2 : pathGetO v p = some x := by rw [e, heq]
     have gy := T.fit_mono (B := 2000000) (by decide) (okT_fit hx)
     have w1 : (optT (some x)).enc = x.enc := rfl
     have w2 : ((some x).isSome = true) = True := by simp
     have w3 := toldT_ok hx
     have hx' := eq_true hx
     simp only [rg, go_sem, seval, Prod.fst, b1, fx, e2, w1, w2, w3, hx', encS_len, spTold_md, spTold_pre, spTold_alts, spTold_res, spTold_out]
     repeat' (first | with_reducible assumption | with_reducible refine And.intro ?_ ?_ | intro _)
     all_goals first | omega | assumption | skip
   ·have e := pathGetO_not (v := v) (p := p) (fun h => c2 h.2)
    have d2 := eq_false c2
    have w1 : (optT none).enc = T.zero.enc := rfl
    have w2 : ((none : Option T).isSome = true) = False := by simp
    simp only [x_PathGetI, rg, go_sem, seval, Prod.fst, f0, e, d1, d2, w1, w2, T.zero_enc, spValOkI_md, spValOkI_pre, spValOkI_alts, spValOkI_res, spValOkI_out, spPathOkI_md, spPathOkI_pre, spPathOkI_alts, spPathOkI_res, spPathOkI_out]
    repeat' (first | with_reducible assumption | with_reducible refine And.intro ?_ ?_ | intro _)
    all_goals first | omega | assumption | skip
  ·have e := pathGetO_not (v := v) (p := p) (fun h => c1 h.1)
   have d1 : ((okI v 1 60).1 = true) = False := eq_false (fun h => c1 ((okI_iff _).1 h))
   have w1 : (optT none).enc = T.zero.enc := rfl
   have w2 : ((none : Option T).isSome = true) = False := by simp
   simp only [x_PathGetI, rg, go_sem, seval, Prod.fst, f0, e, d1, w1, w2, T.zero_enc, spValOkI_md, spValOkI_pre, spValOkI_alts, spValOkI_res, spValOkI_out, spPathOkI_md, spPathOkI_pre, spPathOkI_alts, spPathOkI_res, spPathOkI_out]
   repeat' (first | with_reducible assumption | with_reducible refine And.intro ?_ ?_ | intro _)
   all_goals first | omega | assumption | skip
end Go.Proofs.Pw
