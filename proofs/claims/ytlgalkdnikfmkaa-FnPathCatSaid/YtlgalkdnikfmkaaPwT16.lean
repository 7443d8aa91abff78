/- What is told is nobody else's. -/
import Derived.Test.YtlgalkdnikfmkaaPwT11
import Derived.Test.YtlgalkdnikfmkaaPwT15
import Derived.Test.YtlgalkdnikfmkaaPwT14
set_option linter.unusedSimpArgs false
set_option linter.unusedVariables false
set_option linter.unusedSimpArgs false
set_option maxRecDepth 20000
namespace Go.Proofs.Pw
set_option linter.unusedSectionVars false
theorem zs : T.zero.s = ⟨#[]⟩ := rfl
variable [Globs]
end Go.Proofs.Pw
/- Ways: what is put at their end. -/
set_option linter.unusedSimpArgs false
set_option maxRecDepth 20000
namespace Go.Proofs.Pw
set_option linter.unusedSectionVars false
variable [Globs]
def x_PartPutI : X := (.seq (.reg [⟨some 3, none, .box (.t 0) (some 5)⟩, ⟨some 5, none, .box (.t 2) (some 5)⟩, ⟨some 6, none, .alloc [(.c (.int .i64 0)), (.c (.int .i64 0)), (.c (.str ⟨#[]⟩)), (.z 1), (.z 5)]⟩, ⟨some 7, none, .mv (.k (.c (.bool false)))⟩] none [1, 3, 5, 6]) (.seq (.seq (.reg [⟨some 8, none, .load (.t 3) (some 5)⟩, ⟨some 9, none, .call 10 [(.t 8)]⟩, ⟨some 10, none, .not (.t 9)⟩, ⟨some 11, none, .mv (.t 10)⟩, ⟨some 12, some (11, false), .mv (.t 1)⟩, ⟨some 13, some (11, false), .call 31 [(.t 12)]⟩, ⟨some 14, some (11, false), .not (.t 13)⟩, ⟨some 15, none, .pick (.t 11) (.k (.c (.bool true))) (.t 14)⟩, ⟨some 16, none, .mv (.t 15)⟩, ⟨some 17, some (16, false), .load (.t 5) (some 5)⟩, ⟨some 18, some (16, false), .call 10 [(.t 17)]⟩, ⟨some 19, some (16, false), .not (.t 18)⟩, ⟨some 20, none, .pick (.t 16) (.k (.c (.bool true))) (.t 19)⟩, ⟨some 21, none, .mv (.t 20)⟩, ⟨some 22, some (21, false), .fa (.t 3) 0⟩, ⟨some 23, some (21, false), .load (.t 22) none⟩, ⟨some 24, some (21, false), .bin false .neq (.t 23) (.k (.c (.int .i64 6)))⟩, ⟨some 25, some (21, false), .mv (.t 24)⟩, ⟨some 26, some (25, true), .fa (.t 3) 0⟩, ⟨some 27, some (25, true), .load (.t 26) none⟩, ⟨some 28, some (25, true), .bin false .neq (.t 27) (.k (.c (.int .i64 0)))⟩, ⟨some 29, some (21, false), .pick (.t 25) (.t 28) (.k (.c (.bool false)))⟩, ⟨some 30, none, .pick (.t 21) (.k (.c (.bool true))) (.t 29)⟩] none [1, 3, 5, 6, 30]) (.cond (.t 30) (.seq (.reg [⟨some 31, none, .build [(.c (.int .i64 0)), (.c (.int .i64 0)), (.c (.str ⟨#[]⟩)), (.z 1), (.z 5)] []⟩, ⟨none, none, .st (.t 6) (.t 31) (some 5)⟩, ⟨some 7, none, .mv (.k (.c (.bool false)))⟩] none [6, 7]) .ret) .skip)) (.seq (.reg [⟨some 32, none, .load (.t 3) (some 5)⟩, ⟨some 33, none, .mv (.t 1)⟩, ⟨some 34, none, .load (.t 5) (some 5)⟩, ⟨some 35, none, .call 48 [(.t 32), (.t 33), (.t 34)]⟩, ⟨some 36, none, .call 16 [(.t 35), (.k (.c (.bool true)))]⟩, ⟨some 37, none, .ext (.t 36) 0⟩, ⟨some 38, none, .ext (.t 36) 1⟩, ⟨none, none, .st (.t 6) (.t 37) (some 5)⟩, ⟨some 7, none, .mv (.t 38)⟩] none [6, 7]) .ret)))
theorem chk_PartPutI : chkX Go.Proofs.Try.prog 39 (Go.Proofs.Try.f34.body.getD .skip) x_PartPutI = true := by kernel_rfl
theorem rs_PartPutI : okRs Go.Proofs.Try.prog Go.Proofs.Try.f34.results.toList [.cell 6 (some 5), .tmp 7] = true := by kernel_rfl
theorem call_PartPutI : okCallee Go.Proofs.Try.prog 34 = true := by kernel_rfl
def x_PartPut : X := (.seq (.reg [⟨some 3, none, .box (.t 0) (some 5)⟩, ⟨some 5, none, .box (.t 2) (some 5)⟩, ⟨some 6, none, .alloc [(.c (.int .i64 0)), (.c (.int .i64 0)), (.c (.str ⟨#[]⟩)), (.z 1), (.z 5)]⟩, ⟨some 7, none, .mv (.k (.c (.bool false)))⟩] none [1, 3, 5, 6]) (.seq (.seq (.reg [⟨some 8, none, .load (.t 3) (some 5)⟩, ⟨some 9, none, .call 18 [(.t 8)]⟩, ⟨some 10, none, .not (.t 9)⟩, ⟨some 11, none, .mv (.t 10)⟩, ⟨some 12, some (11, false), .load (.t 5) (some 5)⟩, ⟨some 13, some (11, false), .call 18 [(.t 12)]⟩, ⟨some 14, some (11, false), .not (.t 13)⟩, ⟨some 15, none, .pick (.t 11) (.k (.c (.bool true))) (.t 14)⟩, ⟨some 16, none, .mv (.t 15)⟩, ⟨some 17, some (16, false), .mv (.t 1)⟩, ⟨some 18, some (16, false), .call 51 [(.t 17)]⟩, ⟨some 19, some (16, false), .not (.t 18)⟩, ⟨some 20, none, .pick (.t 16) (.k (.c (.bool true))) (.t 19)⟩, ⟨some 21, none, .mv (.t 20)⟩, ⟨some 22, some (21, false), .fa (.t 3) 0⟩, ⟨some 23, some (21, false), .load (.t 22) none⟩, ⟨some 24, some (21, false), .bin false .neq (.t 23) (.k (.c (.int .i64 0)))⟩, ⟨some 25, some (21, false), .mv (.t 24)⟩, ⟨some 26, some (25, true), .fa (.t 3) 0⟩, ⟨some 27, some (25, true), .load (.t 26) none⟩, ⟨some 28, some (25, true), .bin false .neq (.t 27) (.k (.c (.int .i64 6)))⟩, ⟨some 29, some (21, false), .pick (.t 25) (.t 28) (.k (.c (.bool false)))⟩, ⟨some 30, none, .pick (.t 21) (.k (.c (.bool true))) (.t 29)⟩] none [1, 3, 5, 6, 30]) (.cond (.t 30) (.seq (.reg [⟨some 31, none, .build [(.c (.int .i64 0)), (.c (.int .i64 0)), (.c (.str ⟨#[]⟩)), (.z 1), (.z 5)] []⟩, ⟨none, none, .st (.t 6) (.t 31) (some 5)⟩, ⟨some 7, none, .mv (.k (.c (.bool false)))⟩] none [6, 7]) .ret) .skip)) (.seq (.reg [⟨some 32, none, .load (.t 3) (some 5)⟩, ⟨some 33, none, .mv (.t 1)⟩, ⟨some 34, none, .load (.t 5) (some 5)⟩, ⟨some 35, none, .call 55 [(.t 32), (.t 33), (.t 34)]⟩, ⟨some 36, none, .call 21 [(.t 35)]⟩, ⟨some 37, none, .ext (.t 36) 0⟩, ⟨some 38, none, .ext (.t 36) 1⟩, ⟨none, none, .st (.t 6) (.t 37) (some 5)⟩, ⟨some 7, none, .mv (.t 38)⟩] none [6, 7]) .ret)))
theorem chk_PartPut : chkX Go.Proofs.Try.prog 39 (Go.Proofs.Try.f40.body.getD .skip) x_PartPut = true := by kernel_rfl
theorem rs_PartPut : okRs Go.Proofs.Try.prog Go.Proofs.Try.f40.results.toList [.cell 6 (some 5), .tmp 7] = true := by kernel_rfl
theorem call_PartPut : okCallee Go.Proofs.Try.prog 40 = true := by kernel_rfl
noncomputable def partPutO (v : T) (key : ByteArray) (x : T) : Option T := if (v.kind = 6 ∨ v.kind = 0) ∧ okT (putT v key x) then some (putT v key x) else none
def setL (l : List T) (i : Nat) (x : T) : List T := (l ++ List.replicate (i + 1 - l.length) T.zero).set i x
def setAt (n a : Int) : Nat := (if a < 0 then a + n else a).toNat
def setT (v : T) (a : Int) (x : T) : T := .mk 5 0 ⟨#[]⟩ [] (setL v.list (setAt v.list.length a) x)
noncomputable def partSetO (v : T) (a : Int) (x : T) : Option T := if (v.kind = 5 ∨ v.kind = 0) ∧ -(v.list.length : Int) ≤ a ∧ okT (setT v a x) then some (setT v a x) else none
noncomputable def partO (s : Stp) (v x : T) : Option T := if s.map = true then partPutO v s.key x else partSetO v s.at' x
/-- What lies there then, if something may be put there. -/
noncomputable def wputO : T → List Stp → T → Option T
  | _, [], x => some x
  | v, s :: p, x => if canGo s v then (match wputO (oneT s v) p x with
    | some y => partO s v y
    | none => none) else none
noncomputable def pathPutO (v : T) (p : List Stp) (x : T) : Option T := if okT v ∧ wayOk p ∧ okT x then wputO v p x else none
noncomputable def wgetO : T → List Stp → Option T
  | v, [] => some v
  | v, s :: p => if canGo s v then wgetO (oneT s v) p else none
noncomputable def pathGetO (v : T) (p : List Stp) : Option T := if okT v ∧ wayOk p then wgetO v p else none
noncomputable def optT (o : Option T) : T := o.getD T.zero
theorem partPutO_ok {v : T} {key : ByteArray} {x y : T} (h : partPutO v key x = some y) : okT y := by
  unfold partPutO at h; split at h
  · rename_i hc; cases h; exact hc.2
  · cases h
theorem partSetO_ok {v : T} {a : Int} {x y : T} (h : partSetO v a x = some y) : okT y := by
  unfold partSetO at h; split at h
  · rename_i hc; cases h; exact hc.2.2
  · cases h
theorem wputO_ok : ∀ {p : List Stp} {v x y : T}, okT x → wputO v p x = some y → okT y := by
  intro p
  cases p with
  | nil => intro v x y hx h; simp only [wputO, Option.some.injEq] at h; subst h; exact hx
  | cons s p =>
    intro v x y hx h
    simp only [wputO] at h
    split at h
    · split at h
      · unfold partO at h
        split at h
        · exact partPutO_ok h
        · exact partSetO_ok h
      · cases h
    · cases h
theorem atT_ok {a : Int} {v : T} (h : okT v) : okT (atT a v) := by
  unfold atT
  split
  · rename_i hc
    obtain ⟨k, n, s, ks, l⟩ := v
    have lt := placeI_lt hc.2
    simp only [T.list] at lt hc ⊢
    have hi : (placeI l.length a).toNat < l.length := by omega
    rw [List.getD_eq_getElem?_getD, List.getElem?_eq_getElem hi]
    exact okT_elem h (List.getElem_mem hi)
  · exact okT_zero'
theorem oneT_ok {s : Stp} {v : T} (h : okT v) : okT (oneT s v) := by
  unfold oneT; split
  · exact getT_ok h
  · exact atT_ok h
theorem wgetO_ok : ∀ {p : List Stp} {v y : T}, okT v → wgetO v p = some y → okT y := by
  intro p
  induction p with
  | nil => intro v y hv h; simp only [wgetO, Option.some.injEq] at h; subst h; exact hv
  | cons s p ih =>
    intro v y hv h
    simp only [wgetO] at h
    split at h
    · exact ih (oneT_ok hv) h
    · cases h
theorem optT_ok {o : Option T} (h : ∀ y, o = some y → okT y) : okT (optT o) := by
  cases o with
  | none => exact okT_zero'
  | some y => exact h y rfl
theorem okT_keysA {v : T} (h : okT v) (hk : v.kind = 6 ∨ v.kind = 0) : Asc v.keys ∧ v.keys.length = v.list.length ∧ v.list.length ≤ 60 := by
  have h2 := okT_size h
  rcases hk with hk | hk
  · obtain ⟨k, n, s, ks, l⟩ := v
    simp only [T.kind] at hk; subst hk
    obtain ⟨rfl, rfl, e1, e2⟩ := okT_map h rfl
    have G := good_map h rfl
    have := sizeL_len l
    simp only [sizeT] at h2
    exact ⟨G.asc, e1, by show l.length ≤ 60; omega⟩
  · rw [okT_none h hk]; exact ⟨by simp [T.keys, T.zero, Asc], rfl, by simp [T.list, T.zero]⟩
theorem setL_len {l : List T} {i : Nat} {x : T} (h : i < 60) (hl : l.length ≤ 60) : (setL l i x).length ≤ 60 ∧ i < (l ++ List.replicate (i + 1 - l.length) T.zero).length := by simp [setL]; omega
theorem setL_mem {l : List T} {i : Nat} {x t : T} (h : t ∈ setL l i x) : t ∈ l ∨ t = T.zero ∨ t = x := by
  unfold setL at h
  rcases List.mem_or_eq_of_mem_set h with h | h
  · rcases List.mem_append.1 h with h | h
    · exact .inl h
    · exact .inr (.inl (List.mem_replicate.1 h).2)
  · exact .inr (.inr h)
theorem putT_fit {v x : T} {key : ByteArray} (hv : okT v) (hk : v.kind = 6 ∨ v.kind = 0) (ck : okS key) (hx : okT x) : (putT v key x).fit 2000000 ∧ sizeT (putT v key x) ≤ 1048577 := by
  have h0 := okT_size hx
  have hf := okT_fit hx
  have hks : (key.size : Int) ≤ 60 := by have := ck.2; omega
  have G : ∃ B z, Good B z (v.keys, v.list) ∧ B ≤ 60 ∧ z ≤ 60 := by
    rcases hk with hk | hk
    · obtain ⟨k, n, s, ks, l⟩ := v
      simp only [T.kind] at hk; subst hk
      exact ⟨60, 60, good_map hv rfl, by omega, by omega⟩
    · rw [okT_none hv hk]
      exact ⟨0, 0, ⟨by simp [T.keys, T.zero, Asc], rfl, by simp [T.keys, T.zero], by simp [T.keys, T.zero], trivial, by simp [T.list, T.zero, sizeL]⟩, by omega, by omega⟩
  obtain ⟨B, z, G, hB, hz⟩ := G
  have G2 := G.put hks hf
  have q1 := G2.len
  have q2 := G2.few
  have q3 := G2.size
  simp only at q1 q2 q3
  have l2 : ((putS key x false v.keys v.list).2.length : Int) ≤ 61 := by omega
  have l1 : ((putS key x false v.keys v.list).1.length : Int) ≤ 61 := by omega
  constructor
  · refine ⟨by unfold i64; omega, by unfold i64; omega, by unfold lenB; decide, ⟨by unfold lenB; omega, fun s hs => by have := G2.ks s hs; unfold lenB; omega⟩, by unfold lenB; omega, fitL_of fun t ht => T.fit_mono (by decide) (fitL_mem G2.fit t ht)⟩
  · show 1 + sizeL (putS key x false v.keys v.list).2 ≤ _
    omega
noncomputable def spPartPutI  : Spec := Spec.of (ι := T × ByteArray × T) [false, false, false] (fun i => [.d (.agg i.1.enc), .d (.one (.str i.2.1)), .d (.agg i.2.2.enc)]) (fun i => okT i.1 ∧ okS i.2.1 ∧ okT i.2.2) (fun i => [.d (.agg (optT (partPutO i.1 i.2.1 i.2.2)).enc), .d (.one (.bool (decide ((partPutO i.1 i.2.1 i.2.2).isSome = true))))]) (fun _ => [.gone, .gone, .gone])
theorem spPartPutI_inj : ∀ i j : T × ByteArray × T, (fun (i : T × ByteArray × T) => ([.d (.agg i.1.enc), .d (.one (.str i.2.1)), .d (.agg i.2.2.enc)] : List AV)) i = (fun (i : T × ByteArray × T) => ([.d (.agg i.1.enc), .d (.one (.str i.2.1)), .d (.agg i.2.2.enc)] : List AV)) j → i = j := by
  rintro ⟨v, key, x⟩ ⟨v', key', x'⟩ h
  simp only [Prod.mk.injEq]
  simpa [strs_eq, T.enc_eq, encL_eq, F.enc_eq, encF_eq, Tk.enc_eq, encTk_eq, Gn.enc_eq, ints_eq] using h
theorem spPartPutI_md  : (spPartPutI).md = [false, false, false] := rfl
theorem spPartPutI_pre  (v : T) (key : ByteArray) (x : T) : (spPartPutI).pre [.d (.agg v.enc), .d (.one (.str key)), .d (.agg x.enc)] = (okT v ∧ okS key ∧ okT x) := Spec.of_pre' spPartPutI_inj (v, key, x)
theorem spPartPutI_alts  : (spPartPutI).alts = none := rfl
theorem spPartPutI_res  (v : T) (key : ByteArray) (x : T) : (spPartPutI).res [.d (.agg v.enc), .d (.one (.str key)), .d (.agg x.enc)] = [.d (.agg (optT (partPutO v key x)).enc), .d (.one (.bool (decide ((partPutO v key x).isSome = true))))] := Spec.of_res spPartPutI_inj (v, key, x)
theorem spPartPutI_out  (v : T) (key : ByteArray) (x : T) : (spPartPutI).out [.d (.agg v.enc), .d (.one (.str key)), .d (.agg x.enc)] = [.gone, .gone, .gone] := Spec.of_out spPartPutI_inj (v, key, x)
set_option maxHeartbeats 2000000 in
theorem PartPutI_sound : Sound Go.Proofs.Try.prog 34 spPartPutI := by
  refine sound_fam (GOK.cons (l := [(31, spTextOk), (48, spPut), (16, spTold)]) call_ValOkI valOkI_sound (GOK.cons call_textOk textOk_sound (GOK.cons call_put put_sound (GOK.cons call_told told_sound GOK.nil)))) Go.Proofs.Try.func34 (c := Go.Proofs.Try.f34.body.getD .skip) rfl (n := 39) rfl chk_PartPutI rs_PartPutI (fun _ => by simp) ?_ ?_
  · exact spPartPutI_inj
  · rintro ⟨v, key, x⟩ ⟨h1, h2, h3⟩
    simp only at h1 h2 h3
    have f0 := T.enc_len v
    have f1 := T.enc_len x
    have o1 : ((okI v 1 60).1 = true) = True := eq_true ((okI_iff _).2 h1)
    have o2 : ((okI x 1 60).1 = true) = True := eq_true ((okI_iff _).2 h3)
    have o3 := eq_true h2
    have g1 := T.fit_mono (B := 140737488355328) (by decide) (okT_fit h1)
    have g2 := T.fit_mono (B := 140737488355328) (by decide) (okT_fit h3)
    have g3 : lenB 140737488355328 key.size := by have := h2.2; unfold lenB; omega
    by_cases c : v.kind = 6 ∨ v.kind = 0
    · obtain ⟨a1, a2, a3⟩ := okT_keysA h1 c
      have a4 : lenB 1000000 v.keys.length := by unfold lenB; omega
      have a5 := (putT_fit h1 c h2 h3).1
      have f2 := T.enc_len (putT v key x)
      have e : partPutO v key x = if okT (putT v key x) then some (putT v key x) else none := by unfold partPutO; simp [c]
      have e1 : optT (partPutO v key x) = toldT true (putT v key x) := by rw [e]; unfold toldT; split <;> simp_all [optT]
      have e2 : ((partPutO v key x).isSome = true) = okT (putT v key x) := by rw [e]; split <;> simp_all
      have f3 := T.enc_len (toldT true (putT v key x))
      obtain ⟨k, n, s, ks, l⟩ := v
      simp only [T.kind] at c
      have foldT' := foldT k n s ks l
      rcases c with rfl | rfl
      · simp only [x_PartPutI, rg, go_sem, seval, Prod.fst, T.enc, foldT, f1, f2, f3, o1, o2, o3, e1, e2, spValOkI_md, spValOkI_pre, spValOkI_alts, spValOkI_res, spValOkI_out, spTextOk_md, spTextOk_pre, spTextOk_alts, spTextOk_res, spTextOk_out, spPut_md, spPut_pre, spPut_alts, spPut_res, spPut_out, spTold_md, spTold_pre, spTold_alts, spTold_res, spTold_out]
        repeat' (first | with_reducible assumption | with_reducible refine And.intro ?_ ?_ | intro _)
        all_goals first | omega | assumption | skip
      · simp only [x_PartPutI, rg, go_sem, seval, Prod.fst, T.enc, foldT, f1, f2, f3, o1, o2, o3, e1, e2, spValOkI_md, spValOkI_pre, spValOkI_alts, spValOkI_res, spValOkI_out, spTextOk_md, spTextOk_pre, spTextOk_alts, spTextOk_res, spTextOk_out, spPut_md, spPut_pre, spPut_alts, spPut_res, spPut_out, spTold_md, spTold_pre, spTold_alts, spTold_res, spTold_out]
        repeat' (first | with_reducible assumption | with_reducible refine And.intro ?_ ?_ | intro _)
        all_goals first | omega | assumption | skip
    · have e : partPutO v key x = none := by unfold partPutO; rw [if_neg (fun h => c h.1)]
      obtain ⟨k, n, s, ks, l⟩ := v
      simp only [T.kind, not_or] at c
      have c1 := eq_false c.1
      have c2 := eq_false c.2
      simp only [x_PartPutI, rg, go_sem, seval, Prod.fst, T.enc, foldT, f1, o1, o2, o3, e, c1, c2, optT, Option.getD_none, T.zero_enc, Option.isSome_none, spValOkI_md, spValOkI_pre, spValOkI_alts, spValOkI_res, spValOkI_out, spTextOk_md, spTextOk_pre, spTextOk_alts, spTextOk_res, spTextOk_out]
      repeat' (first | with_reducible assumption | with_reducible refine And.intro ?_ ?_ | intro _)
      all_goals first | omega | assumption | skip
noncomputable def spPartPut  : Spec := Spec.of (ι := T × ByteArray × T) [false, false, false] (fun i => [.d (.agg i.1.enc), .d (.one (.str i.2.1)), .d (.agg i.2.2.enc)]) (fun i => okT i.1 ∧ okS i.2.1 ∧ okT i.2.2) (fun i => [.d (.agg (optT (partPutO i.1 i.2.1 i.2.2)).enc), .d (.one (.bool (decide ((partPutO i.1 i.2.1 i.2.2).isSome = true))))]) (fun _ => [.gone, .gone, .gone])
theorem spPartPut_inj : ∀ i j : T × ByteArray × T, (fun (i : T × ByteArray × T) => ([.d (.agg i.1.enc), .d (.one (.str i.2.1)), .d (.agg i.2.2.enc)] : List AV)) i = (fun (i : T × ByteArray × T) => ([.d (.agg i.1.enc), .d (.one (.str i.2.1)), .d (.agg i.2.2.enc)] : List AV)) j → i = j := by
  rintro ⟨v, key, x⟩ ⟨v', key', x'⟩ h
  simp only [Prod.mk.injEq]
  simpa [strs_eq, T.enc_eq, encL_eq, F.enc_eq, encF_eq, Tk.enc_eq, encTk_eq, Gn.enc_eq, ints_eq] using h
theorem spPartPut_md  : (spPartPut).md = [false, false, false] := rfl
theorem spPartPut_pre  (v : T) (key : ByteArray) (x : T) : (spPartPut).pre [.d (.agg v.enc), .d (.one (.str key)), .d (.agg x.enc)] = (okT v ∧ okS key ∧ okT x) := Spec.of_pre' spPartPut_inj (v, key, x)
theorem spPartPut_alts  : (spPartPut).alts = none := rfl
theorem spPartPut_res  (v : T) (key : ByteArray) (x : T) : (spPartPut).res [.d (.agg v.enc), .d (.one (.str key)), .d (.agg x.enc)] = [.d (.agg (optT (partPutO v key x)).enc), .d (.one (.bool (decide ((partPutO v key x).isSome = true))))] := Spec.of_res spPartPut_inj (v, key, x)
theorem spPartPut_out  (v : T) (key : ByteArray) (x : T) : (spPartPut).out [.d (.agg v.enc), .d (.one (.str key)), .d (.agg x.enc)] = [.gone, .gone, .gone] := Spec.of_out spPartPut_inj (v, key, x)
set_option maxHeartbeats 2000000 in
theorem PartPut_sound : Sound Go.Proofs.Try.prog 40 spPartPut := by
  refine sound_fam (GOK.cons (l := [(51, spOkS), (55, spL2Put), (21, spL2Told)]) call_ValOk sOkT_sound (GOK.cons call_l1Str l1Str_sound (GOK.cons call_l2Put l2Put_sound (GOK.cons call_l2Told l2Told_sound GOK.nil)))) Go.Proofs.Try.func40 (c := Go.Proofs.Try.f40.body.getD .skip) rfl (n := 39) rfl chk_PartPut rs_PartPut (fun _ => by simp) ?_ ?_
  · exact spPartPut_inj
  · rintro ⟨v, key, x⟩ ⟨h1, h2, h3⟩
    simp only at h1 h2 h3
    have f0 := T.enc_len v
    have f1 := T.enc_len x
    have o1 := eq_true h1
    have o2 := eq_true h3
    have o3 := eq_true h2
    have g1 := T.fit_mono (B := 140737488355328) (by decide) (okT_fit h1)
    have g2 := T.fit_mono (B := 140737488355328) (by decide) (okT_fit h3)
    have g3 : lenB 140737488355328 key.size := by have := h2.2; unfold lenB; omega
    have z1 := okT_size h1
    have z2 := okT_size h3
    by_cases c : v.kind = 6 ∨ v.kind = 0
    · obtain ⟨a1, a2, a3⟩ := okT_keysA h1 c
      have a4 : lenB 1000000 v.keys.length := by unfold lenB; omega
      obtain ⟨a5, a6⟩ := putT_fit h1 c h2 h3
      have f2 := T.enc_len (putT v key x)
      have e : partPutO v key x = if okT (putT v key x) then some (putT v key x) else none := by unfold partPutO; simp [c]
      have e1 : optT (partPutO v key x) = toldT true (putT v key x) := by rw [e]; unfold toldT; split <;> simp_all [optT]
      have e2 : ((partPutO v key x).isSome = true) = okT (putT v key x) := by rw [e]; split <;> simp_all
      have f3 := T.enc_len (toldT true (putT v key x))
      obtain ⟨k, n, s, ks, l⟩ := v
      simp only [T.kind] at c
      rcases c with rfl | rfl
      · simp only [x_PartPut, rg, go_sem, seval, Prod.fst, T.enc, foldT, f1, f2, f3, o1, o2, o3, e1, e2, spOkT_md, spOkT_pre, spOkT_alts, spOkT_res, spOkT_out, spOkS_md, spOkS_pre, spOkS_alts, spOkS_res, spOkS_out, spL2Put_md, spL2Put_pre, spL2Put_alts, spL2Put_res, spL2Put_out, spL2Told_md, spL2Told_pre, spL2Told_alts, spL2Told_res, spL2Told_out]
        repeat' (first | with_reducible assumption | with_reducible refine And.intro ?_ ?_ | intro _)
        all_goals first | omega | assumption | skip
      · simp only [x_PartPut, rg, go_sem, seval, Prod.fst, T.enc, foldT, f1, f2, f3, o1, o2, o3, e1, e2, spOkT_md, spOkT_pre, spOkT_alts, spOkT_res, spOkT_out, spOkS_md, spOkS_pre, spOkS_alts, spOkS_res, spOkS_out, spL2Put_md, spL2Put_pre, spL2Put_alts, spL2Put_res, spL2Put_out, spL2Told_md, spL2Told_pre, spL2Told_alts, spL2Told_res, spL2Told_out]
        repeat' (first | with_reducible assumption | with_reducible refine And.intro ?_ ?_ | intro _)
        all_goals first | omega | assumption | skip
    · have e : partPutO v key x = none := by unfold partPutO; rw [if_neg (fun h => c h.1)]
      obtain ⟨k, n, s, ks, l⟩ := v
      simp only [T.kind, not_or] at c
      have c1 := eq_false c.1
      have c2 := eq_false c.2
      simp only [x_PartPut, rg, go_sem, seval, Prod.fst, T.enc, foldT, f1, o1, o2, o3, e, c1, c2, optT, Option.getD_none, T.zero_enc, Option.isSome_none, spOkT_md, spOkT_pre, spOkT_alts, spOkT_res, spOkT_out, spOkS_md, spOkS_pre, spOkS_alts, spOkS_res, spOkS_out]
      repeat' (first | with_reducible assumption | with_reducible refine And.intro ?_ ?_ | intro _)
      all_goals first | omega | assumption | skip
end Go.Proofs.Pw
/- Ways: a place of a row is set. -/
set_option linter.unusedSimpArgs false
set_option maxRecDepth 20000
namespace Go.Proofs.Pw
set_option linter.unusedSectionVars false
variable [Globs]
def x_l2Set : X := (.seq (.reg [⟨some 3, none, .box (.t 0) (some 5)⟩, ⟨some 5, none, .box (.t 2) (some 5)⟩, ⟨some 6, none, .alloc [(.c (.int .i64 0)), (.c (.int .i64 0)), (.c (.str ⟨#[]⟩)), (.z 1), (.z 5)]⟩] none [1, 3, 5, 6]) (.seq (.reg [⟨some 8, none, .bsl 5 []⟩, ⟨some 9, none, .fa (.t 3) 4⟩, ⟨some 10, none, .load (.t 9) none⟩, ⟨some 11, none, .app (.t 8) (.t 10) 5 80 []⟩, ⟨some 12, none, .build [(.c (.int .i64 0)), (.c (.int .i64 0)), (.c (.str ⟨#[]⟩)), (.z 1), (.z 5)] [(0, (.k (.c (.int .i64 5))), none), (4, (.t 11), none)]⟩, ⟨some 7, none, .alloc [(.c (.int .i64 0)), (.c (.int .i64 0)), (.c (.str ⟨#[]⟩)), (.z 1), (.z 5)]⟩, ⟨none, none, .st (.t 7) (.t 12) (some 5)⟩] none [1, 5, 6, 7]) (.seq (.block 0 (.loop (.seq (.seq (.reg [⟨some 13, none, .fa (.t 7) 4⟩, ⟨some 14, none, .load (.t 13) none⟩, ⟨some 15, none, .len (.t 14) false⟩, ⟨some 16, none, .mv (.t 1)⟩, ⟨some 17, none, .bin false .leq (.t 15) (.t 16)⟩] none [1, 5, 6, 7, 17]) (.cond (.t 17) .skip (.exit 0))) (.block 1 (.reg [⟨some 18, none, .fa (.t 7) 4⟩, ⟨some 19, none, .load (.t 18) none⟩, ⟨some 20, none, .build [(.c (.int .i64 0)), (.c (.int .i64 0)), (.c (.str ⟨#[]⟩)), (.z 1), (.z 5)] []⟩, ⟨some 21, none, .bsl 5 [((.t 20), (some 5))]⟩, ⟨some 22, none, .app (.t 19) (.t 21) 5 80 []⟩, ⟨some 23, none, .fa (.t 7) 4⟩, ⟨none, none, .st (.t 23) (.t 22) none⟩] none [1, 5, 6, 7]))))) (.seq (.reg [⟨some 24, none, .fa (.t 7) 4⟩, ⟨some 25, none, .load (.t 24) none⟩, ⟨some 26, none, .mv (.t 1)⟩, ⟨some 27, none, .load (.t 5) (some 5)⟩, ⟨some 28, none, .ia (.t 25) (.t 26) 5⟩, ⟨none, none, .st (.t 28) (.t 27) (some 5)⟩] none [6, 7]) (.seq (.reg [⟨some 29, none, .load (.t 7) (some 5)⟩, ⟨none, none, .st (.t 6) (.t 29) (some 5)⟩] none [6]) .ret)))))
theorem chk_l2Set : chkX Go.Proofs.Try.prog 30 (Go.Proofs.Try.f56.body.getD .skip) x_l2Set = true := by kernel_rfl
theorem rs_l2Set : okRs Go.Proofs.Try.prog Go.Proofs.Try.f56.results.toList [.cell 6 (some 5)] = true := by kernel_rfl
theorem call_l2Set : okCallee Go.Proofs.Try.prog 56 = true := by kernel_rfl
def x_PartSet : X := (.seq (.reg [⟨some 3, none, .box (.t 0) (some 5)⟩, ⟨some 5, none, .box (.t 2) (some 5)⟩, ⟨some 6, none, .alloc [(.c (.int .i64 0)), (.c (.int .i64 0)), (.c (.str ⟨#[]⟩)), (.z 1), (.z 5)]⟩, ⟨some 7, none, .mv (.k (.c (.bool false)))⟩] none [1, 3, 5, 6]) (.seq (.seq (.reg [⟨some 8, none, .load (.t 3) (some 5)⟩, ⟨some 9, none, .call 18 [(.t 8)]⟩, ⟨some 10, none, .not (.t 9)⟩, ⟨some 11, none, .mv (.t 10)⟩, ⟨some 12, some (11, false), .load (.t 5) (some 5)⟩, ⟨some 13, some (11, false), .call 18 [(.t 12)]⟩, ⟨some 14, some (11, false), .not (.t 13)⟩, ⟨some 15, none, .pick (.t 11) (.k (.c (.bool true))) (.t 14)⟩, ⟨some 16, none, .mv (.t 15)⟩, ⟨some 17, some (16, false), .fa (.t 3) 0⟩, ⟨some 18, some (16, false), .load (.t 17) none⟩, ⟨some 19, some (16, false), .bin false .neq (.t 18) (.k (.c (.int .i64 0)))⟩, ⟨some 20, some (16, false), .mv (.t 19)⟩, ⟨some 21, some (20, true), .fa (.t 3) 0⟩, ⟨some 22, some (20, true), .load (.t 21) none⟩, ⟨some 23, some (20, true), .bin false .neq (.t 22) (.k (.c (.int .i64 5)))⟩, ⟨some 24, some (16, false), .pick (.t 20) (.t 23) (.k (.c (.bool false)))⟩, ⟨some 25, none, .pick (.t 16) (.k (.c (.bool true))) (.t 24)⟩, ⟨some 26, none, .mv (.t 25)⟩, ⟨some 27, some (26, false), .mv (.t 1)⟩, ⟨some 28, some (26, false), .bin false .geq (.t 27) (.k (.c (.int .i64 60)))⟩, ⟨some 29, none, .pick (.t 26) (.k (.c (.bool true))) (.t 28)⟩, ⟨some 30, none, .mv (.t 29)⟩, ⟨some 31, some (30, false), .mv (.t 1)⟩, ⟨some 32, some (30, false), .fa (.t 3) 4⟩, ⟨some 33, some (30, false), .load (.t 32) none⟩, ⟨some 34, some (30, false), .len (.t 33) false⟩, ⟨some 35, some (30, false), .bin false .sub (.k (.c (.int .i64 0))) (.t 34)⟩, ⟨some 36, some (30, false), .bin false .lss (.t 31) (.t 35)⟩, ⟨some 37, none, .pick (.t 30) (.k (.c (.bool true))) (.t 36)⟩] none [1, 3, 5, 6, 37]) (.cond (.t 37) (.seq (.reg [⟨some 38, none, .build [(.c (.int .i64 0)), (.c (.int .i64 0)), (.c (.str ⟨#[]⟩)), (.z 1), (.z 5)] []⟩, ⟨none, none, .st (.t 6) (.t 38) (some 5)⟩, ⟨some 7, none, .mv (.k (.c (.bool false)))⟩] none [6, 7]) .ret) .skip)) (.seq (.seq (.reg [⟨some 39, none, .mv (.t 1)⟩, ⟨some 40, none, .bin false .lss (.t 39) (.k (.c (.int .i64 0)))⟩] none [1, 3, 5, 6, 40]) (.cond (.t 40) (.reg [⟨some 41, none, .mv (.t 1)⟩, ⟨some 42, none, .fa (.t 3) 4⟩, ⟨some 43, none, .load (.t 42) none⟩, ⟨some 44, none, .len (.t 43) false⟩, ⟨some 45, none, .bin false .add (.t 41) (.t 44)⟩, ⟨some 1, none, .mv (.t 45)⟩] none [1, 3, 5, 6]) .skip)) (.seq (.reg [⟨some 46, none, .load (.t 3) (some 5)⟩, ⟨some 47, none, .mv (.t 1)⟩, ⟨some 48, none, .load (.t 5) (some 5)⟩, ⟨some 49, none, .call 56 [(.t 46), (.t 47), (.t 48)]⟩, ⟨some 50, none, .call 21 [(.t 49)]⟩, ⟨some 51, none, .ext (.t 50) 0⟩, ⟨some 52, none, .ext (.t 50) 1⟩, ⟨none, none, .st (.t 6) (.t 51) (some 5)⟩, ⟨some 7, none, .mv (.t 52)⟩] none [6, 7]) .ret))))
theorem chk_PartSet : chkX Go.Proofs.Try.prog 53 (Go.Proofs.Try.f41.body.getD .skip) x_PartSet = true := by kernel_rfl
theorem rs_PartSet : okRs Go.Proofs.Try.prog Go.Proofs.Try.f41.results.toList [.cell 6 (some 5), .tmp 7] = true := by kernel_rfl
theorem call_PartSet : okCallee Go.Proofs.Try.prog 41 = true := by kernel_rfl
theorem encL_zero (l : List T) : encL l ++ [[C.int .i64 0, .int .i64 0, .str ⟨#[]⟩, .row 1 [], .row 5 []]] = encL (l ++ [T.zero]) := by rw [← encL_appL]; rfl
noncomputable def spL2Set  : Spec := Spec.of (ι := T × Int × T) [false, false, false] (fun i => [.d (.agg i.1.enc), .d (.one (.int .i64 i.2.1)), .d (.agg i.2.2.enc)]) (fun i => i.1.fit 1000000 ∧ 0 ≤ i.2.1 ∧ i.2.1 ≤ 59) (fun i => [.d (.agg (T.mk 5 0 ⟨#[]⟩ [] (setL i.1.list i.2.1.toNat i.2.2)).enc)]) (fun _ => [.gone, .gone, .gone])
theorem spL2Set_inj : ∀ i j : T × Int × T, (fun (i : T × Int × T) => ([.d (.agg i.1.enc), .d (.one (.int .i64 i.2.1)), .d (.agg i.2.2.enc)] : List AV)) i = (fun (i : T × Int × T) => ([.d (.agg i.1.enc), .d (.one (.int .i64 i.2.1)), .d (.agg i.2.2.enc)] : List AV)) j → i = j := by
  rintro ⟨v, a, x⟩ ⟨v', a', x'⟩ h
  simp only [Prod.mk.injEq]
  simpa [strs_eq, T.enc_eq, encL_eq, F.enc_eq, encF_eq, Tk.enc_eq, encTk_eq, Gn.enc_eq, ints_eq] using h
theorem spL2Set_md  : (spL2Set).md = [false, false, false] := rfl
theorem spL2Set_pre  (v : T) (a : Int) (x : T) : (spL2Set).pre [.d (.agg v.enc), .d (.one (.int .i64 a)), .d (.agg x.enc)] = (v.fit 1000000 ∧ 0 ≤ a ∧ a ≤ 59) := Spec.of_pre' spL2Set_inj (v, a, x)
theorem spL2Set_alts  : (spL2Set).alts = none := rfl
theorem spL2Set_res  (v : T) (a : Int) (x : T) : (spL2Set).res [.d (.agg v.enc), .d (.one (.int .i64 a)), .d (.agg x.enc)] = [.d (.agg (T.mk 5 0 ⟨#[]⟩ [] (setL v.list a.toNat x)).enc)] := Spec.of_res spL2Set_inj (v, a, x)
theorem spL2Set_out  (v : T) (a : Int) (x : T) : (spL2Set).out [.d (.agg v.enc), .d (.one (.int .i64 a)), .d (.agg x.enc)] = [.gone, .gone, .gone] := Spec.of_out spL2Set_inj (v, a, x)
set_option maxHeartbeats 2000000 in
theorem l2Set_sound : Sound Go.Proofs.Try.prog 56 spL2Set := by
  refine sound_fam GOK.nil Go.Proofs.Try.func56 (c := Go.Proofs.Try.f56.body.getD .skip) rfl (n := 30) rfl chk_l2Set rs_l2Set (fun _ => by simp) ?_ ?_
  · exact spL2Set_inj
  · rintro ⟨v, a, x⟩ ⟨h1, h2, h3⟩
    simp only at h1 h2 h3
    obtain ⟨k, n, s, ks, l⟩ := v
    have ll : (l.length : Int) ≤ 1000000 := h1.2.2.2.2.1
    obtain ⟨i, rfl⟩ : ∃ i : Nat, a = i := ⟨a.toNat, by omega⟩
    have fx := T.enc_len x
    simp only [x_l2Set, rg, go_sem, seval, Prod.fst, T.enc, T.list, fx, Int.toNat_natCast]
    repeat' (first | with_reducible assumption | with_reducible refine And.intro ?_ ?_ | intro _)
    all_goals first | omega | skip
    refine pw_loop (ι := Nat) (fun j => i + 1 - l.length - j) (fun j => j ≤ i + 1 - l.length)
      (fun j => ⟨[(1, .q (.c (.int .i64 i))), (5, .q (.box 5 0)), (6, .q (.box 6 0)), (7, .q (.box 7 0))], [(3, [.c (.int .i64 k), .c (.int .i64 n), .c (.str s), .c (.row 1 (strs ks)), .c (.row 5 (encL l))]), (5, x.enc.map .c), (6, [.c (.int .i64 0), .c (.int .i64 0), .c (.str ⟨#[]⟩), .z 1, .z 5]), (7, [.c (.int .i64 5), .c (.int .i64 0), .c (.str ⟨#[]⟩), .z 1, .own 11])], [(11, 5, encL (l ++ List.replicate j T.zero))]⟩) 0 (Nat.zero_le _) ?_ ?_
    · exact Le.of_eq (by simp)
    · intro j hj
      have l1 : (l ++ List.replicate j T.zero).length = l.length + j := by simp
      rcases Nat.lt_or_ge i (l.length + j) with c | c
      · have b1 : (((l.length + j : Nat) : Int) ≤ (i : Int)) = False := eq_false (by omega)
        obtain rfl : j = i + 1 - l.length := by omega
        obtain ⟨y, hy, _, _⟩ := drop_at (l := l ++ List.replicate (i + 1 - l.length) T.zero) (i := i) (by omega)
        have a1 := encL_at hy
        have f1 := T.enc_drop5 y
        have e : (l ++ List.replicate (i + 1 - l.length) T.zero).set i x = setL l i x := rfl
        simp only [rg, go_sem, seval, Prod.fst, l1, b1, a1, f1, fx, e, T.enc, strs, encL_len, encL_set, List.append_nil]
        repeat' (first | with_reducible assumption | with_reducible refine And.intro ?_ ?_ | intro _)
        all_goals first | omega | assumption | skip
      · have b1 : (((l.length + j : Nat) : Int) ≤ (i : Int)) = True := eq_true (by omega)
        simp only [rg, go_sem, seval, Prod.fst, l1, b1, encL_len, encL_zero]
        repeat' (first | with_reducible assumption | with_reducible refine And.intro ?_ ?_ | intro _)
        all_goals first | omega | assumption | skip
        exact ⟨j + 1, by omega, by omega, Le.of_eq (by simp [List.replicate_succ'])⟩
theorem sizeL_60 : ∀ {l : List T}, (∀ t ∈ l, sizeT t ≤ 60) → sizeL l ≤ 60 * (l.length : Int)
  | [], _ => by simp [sizeL]
  | t :: l, h => by
    have h1 := sizeL_60 (l := l) fun x hx => h x (.tail _ hx)
    have h2 := h t (.head _)
    simp only [sizeL, List.length_cons]; omega
theorem setT_fit {v x : T} {a : Int} (hv : okT v) (hx : okT x) (h1 : -(v.list.length : Int) ≤ a) (h2 : a ≤ 59) : (setT v a x).fit 2000000 ∧ sizeT (setT v a x) ≤ 1048577 := by
  have hl : v.list.length ≤ 60 := by
    obtain ⟨k, n, s, ks, l⟩ := v
    have := okT_size hv
    have := sizeL_len l
    simp only [sizeT] at *
    show l.length ≤ 60; omega
  have hi : setAt v.list.length a < 60 := by unfold setAt; split <;> omega
  have hm : ∀ t ∈ setL v.list (setAt v.list.length a) x, okT t := fun t ht => by
    rcases setL_mem ht with h | rfl | rfl
    · obtain ⟨k, n, s, ks, l⟩ := v
      exact okT_elem hv h
    · exact okT_zero'
    · exact hx
  have ll := (setL_len (x := x) hi hl).1
  constructor
  · exact rowT_fit (by omega) (by unfold lenB; omega) (fitL_of fun t ht => T.fit_mono (by decide) (okT_fit (hm t ht)))
  · show 1 + sizeL _ ≤ _
    have : sizeL (setL v.list (setAt v.list.length a) x) ≤ 60 * (setL v.list (setAt v.list.length a) x).length := sizeL_60 fun t ht => okT_size (hm t ht)
    omega
theorem partSetO_el {v x : T} {a : Int} (h1 : v.kind = 5 ∨ v.kind = 0) (h2 : -(v.list.length : Int) ≤ a) : optT (partSetO v a x) = toldT true (setT v a x) ∧ ((partSetO v a x).isSome = true) = okT (setT v a x) := by
  have e : partSetO v a x = if okT (setT v a x) then some (setT v a x) else none := by unfold partSetO; simp [h1, h2]
  constructor
  · rw [e]; unfold toldT; split <;> simp_all [optT]
  · rw [e]; split <;> simp_all
noncomputable def spPartSet  : Spec := Spec.of (ι := T × Int × T) [false, false, false] (fun i => [.d (.agg i.1.enc), .d (.one (.int .i64 i.2.1)), .d (.agg i.2.2.enc)]) (fun i => okT i.1 ∧ okT i.2.2 ∧ -9223372036854775808 ≤ i.2.1 ∧ i.2.1 ≤ 59) (fun i => [.d (.agg (optT (partSetO i.1 i.2.1 i.2.2)).enc), .d (.one (.bool (decide ((partSetO i.1 i.2.1 i.2.2).isSome = true))))]) (fun _ => [.gone, .gone, .gone])
theorem spPartSet_inj : ∀ i j : T × Int × T, (fun (i : T × Int × T) => ([.d (.agg i.1.enc), .d (.one (.int .i64 i.2.1)), .d (.agg i.2.2.enc)] : List AV)) i = (fun (i : T × Int × T) => ([.d (.agg i.1.enc), .d (.one (.int .i64 i.2.1)), .d (.agg i.2.2.enc)] : List AV)) j → i = j := by
  rintro ⟨v, a, x⟩ ⟨v', a', x'⟩ h
  simp only [Prod.mk.injEq]
  simpa [strs_eq, T.enc_eq, encL_eq, F.enc_eq, encF_eq, Tk.enc_eq, encTk_eq, Gn.enc_eq, ints_eq] using h
theorem spPartSet_md  : (spPartSet).md = [false, false, false] := rfl
theorem spPartSet_pre  (v : T) (a : Int) (x : T) : (spPartSet).pre [.d (.agg v.enc), .d (.one (.int .i64 a)), .d (.agg x.enc)] = (okT v ∧ okT x ∧ -9223372036854775808 ≤ a ∧ a ≤ 59) := Spec.of_pre' spPartSet_inj (v, a, x)
theorem spPartSet_alts  : (spPartSet).alts = none := rfl
theorem spPartSet_res  (v : T) (a : Int) (x : T) : (spPartSet).res [.d (.agg v.enc), .d (.one (.int .i64 a)), .d (.agg x.enc)] = [.d (.agg (optT (partSetO v a x)).enc), .d (.one (.bool (decide ((partSetO v a x).isSome = true))))] := Spec.of_res spPartSet_inj (v, a, x)
theorem spPartSet_out  (v : T) (a : Int) (x : T) : (spPartSet).out [.d (.agg v.enc), .d (.one (.int .i64 a)), .d (.agg x.enc)] = [.gone, .gone, .gone] := Spec.of_out spPartSet_inj (v, a, x)
set_option maxHeartbeats 2000000 in
theorem PartSet_sound : Sound Go.Proofs.Try.prog 41 spPartSet := by
  refine sound_fam (GOK.cons (l := [(56, spL2Set), (21, spL2Told)]) call_ValOk sOkT_sound (GOK.cons call_l2Set l2Set_sound (GOK.cons call_l2Told l2Told_sound GOK.nil))) Go.Proofs.Try.func41 (c := Go.Proofs.Try.f41.body.getD .skip) rfl (n := 53) rfl chk_PartSet rs_PartSet (fun _ => by simp) ?_ ?_
  · exact spPartSet_inj
  · rintro ⟨v, a, x⟩ ⟨h1, h2, h3, h4⟩
    simp only at h1 h2 h3 h4
    have f0 := T.enc_len v
    have f1 := T.enc_len x
    have o1 := eq_true h1
    have o2 := eq_true h2
    have g1 := T.fit_mono (B := 140737488355328) (by decide) (okT_fit h1)
    have g2 := T.fit_mono (B := 140737488355328) (by decide) (okT_fit h2)
    have g3 := T.fit_mono (B := 1000000) (by decide) (okT_fit h1)
    have z1 := okT_size h1
    have z2 := okT_size h2
    have p1 := fun b => spL2Set_pre v b x
    have p2 := fun b => spL2Set_res v b x
    have p3 := fun b => spL2Set_out v b x
    have hl : v.list.length ≤ 60 := by
      obtain ⟨k, n, s, ks, l⟩ := v
      have := sizeL_len l
      simp only [sizeT] at *
      show l.length ≤ 60; omega
    by_cases c : v.kind = 5 ∨ v.kind = 0
    · by_cases d : -(v.list.length : Int) ≤ a
      · obtain ⟨e1, e2⟩ := partSetO_el (x := x) c d
        obtain ⟨a5, a6⟩ := setT_fit h1 h2 d h4
        have f3 := T.enc_len (toldT true (setT v a x))
        have f4 := T.enc_len (setT v a x)
        by_cases b : a < 0
        · have b1 := eq_true b
          have es : T.mk 5 0 ⟨#[]⟩ [] (setL v.list (a + v.list.length).toNat x) = setT v a x := by unfold setT setAt; rw [if_pos b]
          obtain ⟨k, n, s, ks, l⟩ := v
          simp only [T.kind, T.list] at c d es p1 p2 p3 hl
          have d1 : (a < 0 - (l.length : Int)) = False := eq_false (by omega)
          have d2 : (60 ≤ a) = False := eq_false (by omega)
          rcases c with rfl | rfl
          · simp only [x_PartSet, rg, go_sem, seval, Prod.fst, T.enc, foldT, f1, f3, f4, o1, o2, e1, e2, b1, d1, d2, es, encL_len, p1, p2, p3, spL2Set_md, spL2Set_alts, spOkT_md, spOkT_pre, spOkT_alts, spOkT_res, spOkT_out, spL2Told_md, spL2Told_pre, spL2Told_alts, spL2Told_res, spL2Told_out]
            repeat' (first | with_reducible assumption | with_reducible refine And.intro ?_ ?_ | intro _)
            all_goals first | omega | assumption | skip
          · simp only [x_PartSet, rg, go_sem, seval, Prod.fst, T.enc, foldT, f1, f3, f4, o1, o2, e1, e2, b1, d1, d2, es, encL_len, p1, p2, p3, spL2Set_md, spL2Set_alts, spOkT_md, spOkT_pre, spOkT_alts, spOkT_res, spOkT_out, spL2Told_md, spL2Told_pre, spL2Told_alts, spL2Told_res, spL2Told_out]
            repeat' (first | with_reducible assumption | with_reducible refine And.intro ?_ ?_ | intro _)
            all_goals first | omega | assumption | skip
        · have b1 := eq_false b
          have es : T.mk 5 0 ⟨#[]⟩ [] (setL v.list a.toNat x) = setT v a x := by unfold setT setAt; rw [if_neg b]
          obtain ⟨k, n, s, ks, l⟩ := v
          simp only [T.kind, T.list] at c d es p1 p2 p3 hl
          have d1 : (a < 0 - (l.length : Int)) = False := eq_false (by omega)
          have d2 : (60 ≤ a) = False := eq_false (by omega)
          rcases c with rfl | rfl
          · simp only [x_PartSet, rg, go_sem, seval, Prod.fst, T.enc, foldT, f1, f3, f4, o1, o2, e1, e2, b1, d1, d2, es, encL_len, p1, p2, p3, spL2Set_md, spL2Set_alts, spOkT_md, spOkT_pre, spOkT_alts, spOkT_res, spOkT_out, spL2Told_md, spL2Told_pre, spL2Told_alts, spL2Told_res, spL2Told_out]
            repeat' (first | with_reducible assumption | with_reducible refine And.intro ?_ ?_ | intro _)
            all_goals first | omega | assumption | skip
          · simp only [x_PartSet, rg, go_sem, seval, Prod.fst, T.enc, foldT, f1, f3, f4, o1, o2, e1, e2, b1, d1, d2, es, encL_len, p1, p2, p3, spL2Set_md, spL2Set_alts, spOkT_md, spOkT_pre, spOkT_alts, spOkT_res, spOkT_out, spL2Told_md, spL2Told_pre, spL2Told_alts, spL2Told_res, spL2Told_out]
            repeat' (first | with_reducible assumption | with_reducible refine And.intro ?_ ?_ | intro _)
            all_goals first | omega | assumption | skip
      · have e : partSetO v a x = none := by unfold partSetO; rw [if_neg (fun h => d h.2.1)]
        obtain ⟨k, n, s, ks, l⟩ := v
        simp only [T.kind, T.list] at c d hl
        have d1 : (a < 0 - (l.length : Int)) = True := eq_true (by omega)
        have d2 : (60 ≤ a) = False := eq_false (by omega)
        rcases c with rfl | rfl
        · simp only [x_PartSet, rg, go_sem, seval, Prod.fst, T.enc, foldT, f1, o1, o2, e, d1, d2, encL_len, optT, Option.getD_none, T.zero_enc, Option.isSome_none, spOkT_md, spOkT_pre, spOkT_alts, spOkT_res, spOkT_out]
          repeat' (first | with_reducible assumption | with_reducible refine And.intro ?_ ?_ | intro _)
          all_goals first | omega | assumption | skip
        · simp only [x_PartSet, rg, go_sem, seval, Prod.fst, T.enc, foldT, f1, o1, o2, e, d1, d2, encL_len, optT, Option.getD_none, T.zero_enc, Option.isSome_none, spOkT_md, spOkT_pre, spOkT_alts, spOkT_res, spOkT_out]
          repeat' (first | with_reducible assumption | with_reducible refine And.intro ?_ ?_ | intro _)
          all_goals first | omega | assumption | skip
    · have e : partSetO v a x = none := by unfold partSetO; rw [if_neg (fun h => c h.1)]
      obtain ⟨k, n, s, ks, l⟩ := v
      simp only [T.kind, not_or] at c
      have c1 := eq_false c.1
      have c2 := eq_false c.2
      have d2 : (60 ≤ a) = False := eq_false (by omega)
      simp only [x_PartSet, rg, go_sem, seval, Prod.fst, T.enc, foldT, f1, o1, o2, e, c1, c2, d2, optT, Option.getD_none, T.zero_enc, Option.isSome_none, spOkT_md, spOkT_pre, spOkT_alts, spOkT_res, spOkT_out]
      repeat' (first | with_reducible assumption | with_reducible refine And.intro ?_ ?_ | intro _)
      all_goals first | omega | assumption | skip
end Go.Proofs.Pw
/- Ways: a place of a row is set, in the given program. -/
set_option linter.unusedSimpArgs false
set_option maxRecDepth 20000
namespace Go.Proofs.Pw
set_option linter.unusedSectionVars false
variable [Globs]
def x_PartSetI : X := (.seq (.reg [⟨some 3, none, .box (.t 0) (some 5)⟩, ⟨some 5, none, .box (.t 2) (some 5)⟩, ⟨some 6, none, .alloc [(.c (.int .i64 0)), (.c (.int .i64 0)), (.c (.str ⟨#[]⟩)), (.z 1), (.z 5)]⟩, ⟨some 7, none, .mv (.k (.c (.bool false)))⟩] none [1, 3, 5, 6]) (.seq (.seq (.reg [⟨some 9, none, .load (.t 3) (some 5)⟩, ⟨some 10, none, .call 10 [(.t 9)]⟩, ⟨some 11, none, .not (.t 10)⟩, ⟨some 12, none, .mv (.t 11)⟩, ⟨some 13, some (12, false), .load (.t 5) (some 5)⟩, ⟨some 14, some (12, false), .call 10 [(.t 13)]⟩, ⟨some 15, some (12, false), .not (.t 14)⟩, ⟨some 16, none, .pick (.t 12) (.k (.c (.bool true))) (.t 15)⟩, ⟨some 17, none, .mv (.t 16)⟩, ⟨some 18, some (17, false), .fa (.t 3) 0⟩, ⟨some 19, some (17, false), .load (.t 18) none⟩, ⟨some 20, some (17, false), .bin false .neq (.t 19) (.k (.c (.int .i64 5)))⟩, ⟨some 21, some (17, false), .mv (.t 20)⟩, ⟨some 22, some (21, true), .fa (.t 3) 0⟩, ⟨some 23, some (21, true), .load (.t 22) none⟩, ⟨some 24, some (21, true), .bin false .neq (.t 23) (.k (.c (.int .i64 0)))⟩, ⟨some 25, some (17, false), .pick (.t 21) (.t 24) (.k (.c (.bool false)))⟩, ⟨some 26, none, .pick (.t 17) (.k (.c (.bool true))) (.t 25)⟩, ⟨some 27, none, .mv (.t 26)⟩, ⟨some 28, some (27, false), .mv (.t 1)⟩, ⟨some 29, some (27, false), .fa (.t 3) 4⟩, ⟨some 30, some (27, false), .load (.t 29) none⟩, ⟨some 31, some (27, false), .len (.t 30) false⟩, ⟨some 32, some (27, false), .bin false .sub (.k (.c (.int .i64 0))) (.t 31)⟩, ⟨some 33, some (27, false), .call 32 [(.t 28), (.t 32), (.k (.c (.int .i64 59)))]⟩, ⟨some 34, some (27, false), .not (.t 33)⟩, ⟨some 35, none, .pick (.t 27) (.k (.c (.bool true))) (.t 34)⟩] none [1, 3, 5, 6, 35]) (.cond (.t 35) (.seq (.reg [⟨some 36, none, .build [(.c (.int .i64 0)), (.c (.int .i64 0)), (.c (.str ⟨#[]⟩)), (.z 1), (.z 5)] []⟩, ⟨none, none, .st (.t 6) (.t 36) (some 5)⟩, ⟨some 7, none, .mv (.k (.c (.bool false)))⟩] none [6, 7]) .ret) .skip)) (.seq (.seq (.reg [⟨some 37, none, .mv (.t 1)⟩, ⟨some 38, none, .bin false .lss (.t 37) (.k (.c (.int .i64 0)))⟩] none [1, 3, 5, 6, 38]) (.cond (.t 38) (.reg [⟨some 39, none, .mv (.t 1)⟩, ⟨some 40, none, .fa (.t 3) 4⟩, ⟨some 41, none, .load (.t 40) none⟩, ⟨some 42, none, .len (.t 41) false⟩, ⟨some 43, none, .bin false .add (.t 39) (.t 42)⟩, ⟨some 1, none, .mv (.t 43)⟩] none [1, 3, 5, 6]) .skip)) (.seq (.reg [⟨some 44, none, .fa (.t 3) 4⟩, ⟨some 45, none, .load (.t 44) none⟩, ⟨some 46, none, .call 49 [(.t 45)]⟩, ⟨some 8, none, .mv (.t 46)⟩] none [1, 5, 6, 8]) (.seq (.block 0 (.loop (.seq (.seq (.reg [⟨some 47, none, .mv (.t 8)⟩, ⟨some 48, none, .len (.t 47) false⟩, ⟨some 49, none, .mv (.t 1)⟩, ⟨some 50, none, .bin false .leq (.t 48) (.t 49)⟩] none [1, 5, 6, 8, 50]) (.cond (.t 50) .skip (.exit 0))) (.block 1 (.reg [⟨some 51, none, .mv (.t 8)⟩, ⟨some 52, none, .build [(.c (.int .i64 0)), (.c (.int .i64 0)), (.c (.str ⟨#[]⟩)), (.z 1), (.z 5)] []⟩, ⟨some 53, none, .bsl 5 [((.t 52), (some 5))]⟩, ⟨some 54, none, .app (.t 51) (.t 53) 5 80 []⟩, ⟨some 8, none, .mv (.t 54)⟩] none [1, 5, 6, 8]))))) (.seq (.reg [⟨some 55, none, .mv (.t 8)⟩, ⟨some 56, none, .mv (.t 1)⟩, ⟨some 57, none, .load (.t 5) (some 5)⟩, ⟨some 58, none, .ia (.t 55) (.t 56) 5⟩, ⟨none, none, .st (.t 58) (.t 57) (some 5)⟩] none [6, 8]) (.seq (.reg [⟨some 59, none, .mv (.t 8)⟩, ⟨some 60, none, .call 50 [(.t 59)]⟩, ⟨some 61, none, .call 16 [(.t 60), (.k (.c (.bool true)))]⟩, ⟨some 62, none, .ext (.t 61) 0⟩, ⟨some 63, none, .ext (.t 61) 1⟩, ⟨none, none, .st (.t 6) (.t 62) (some 5)⟩, ⟨some 7, none, .mv (.t 63)⟩] none [6, 7]) .ret)))))))
theorem chk_PartSetI : chkX Go.Proofs.Try.prog 64 (Go.Proofs.Try.f35.body.getD .skip) x_PartSetI = true := by kernel_rfl
theorem rs_PartSetI : okRs Go.Proofs.Try.prog Go.Proofs.Try.f35.results.toList [.cell 6 (some 5), .tmp 7] = true := by kernel_rfl
theorem call_PartSetI : okCallee Go.Proofs.Try.prog 35 = true := by kernel_rfl
noncomputable def spPartSetI  : Spec := Spec.of (ι := T × Int × T) [false, false, false] (fun i => [.d (.agg i.1.enc), .d (.one (.int .i64 i.2.1)), .d (.agg i.2.2.enc)]) (fun i => okT i.1 ∧ okT i.2.2 ∧ -9223372036854775808 ≤ i.2.1 ∧ i.2.1 ≤ 59) (fun i => [.d (.agg (optT (partSetO i.1 i.2.1 i.2.2)).enc), .d (.one (.bool (decide ((partSetO i.1 i.2.1 i.2.2).isSome = true))))]) (fun _ => [.gone, .gone, .gone])
theorem spPartSetI_inj : ∀ i j : T × Int × T, (fun (i : T × Int × T) => ([.d (.agg i.1.enc), .d (.one (.int .i64 i.2.1)), .d (.agg i.2.2.enc)] : List AV)) i = (fun (i : T × Int × T) => ([.d (.agg i.1.enc), .d (.one (.int .i64 i.2.1)), .d (.agg i.2.2.enc)] : List AV)) j → i = j := by
  rintro ⟨v, a, x⟩ ⟨v', a', x'⟩ h
  simp only [Prod.mk.injEq]
  simpa [strs_eq, T.enc_eq, encL_eq, F.enc_eq, encF_eq, Tk.enc_eq, encTk_eq, Gn.enc_eq, ints_eq] using h
theorem spPartSetI_md  : (spPartSetI).md = [false, false, false] := rfl
theorem spPartSetI_pre  (v : T) (a : Int) (x : T) : (spPartSetI).pre [.d (.agg v.enc), .d (.one (.int .i64 a)), .d (.agg x.enc)] = (okT v ∧ okT x ∧ -9223372036854775808 ≤ a ∧ a ≤ 59) := Spec.of_pre' spPartSetI_inj (v, a, x)
theorem spPartSetI_alts  : (spPartSetI).alts = none := rfl
theorem spPartSetI_res  (v : T) (a : Int) (x : T) : (spPartSetI).res [.d (.agg v.enc), .d (.one (.int .i64 a)), .d (.agg x.enc)] = [.d (.agg (optT (partSetO v a x)).enc), .d (.one (.bool (decide ((partSetO v a x).isSome = true))))] := Spec.of_res spPartSetI_inj (v, a, x)
theorem spPartSetI_out  (v : T) (a : Int) (x : T) : (spPartSetI).out [.d (.agg v.enc), .d (.one (.int .i64 a)), .d (.agg x.enc)] = [.gone, .gone, .gone] := Spec.of_out spPartSetI_inj (v, a, x)
set_option maxHeartbeats 2000000 in
theorem PartSetI_sound : Sound Go.Proofs.Try.prog 35 spPartSetI := by
  refine sound_fam (GOK.cons (l := [(32, spWithin), (49, spCloneV), (50, spRow), (16, spTold)]) call_ValOkI valOkI_sound (GOK.cons call_within within_sound (GOK.cons call_CloneV CloneV_sound (GOK.cons call_row row_sound (GOK.cons call_told told_sound GOK.nil))))) Go.Proofs.Try.func35 (c := Go.Proofs.Try.f35.body.getD .skip) rfl (n := 64) rfl chk_PartSetI rs_PartSetI (fun _ => by simp) ?_ ?_
  · exact spPartSetI_inj
  · rintro ⟨v, a, x⟩ ⟨h1, h2, h3, h4⟩
    simp only at h1 h2 h3 h4
    have f0 := T.enc_len v
    have fx := T.enc_len x
    have o1 : ((okI v 1 60).1 = true) = True := eq_true ((okI_iff _).2 h1)
    have o2 : ((okI x 1 60).1 = true) = True := eq_true ((okI_iff _).2 h2)
    have g1 := T.fit_mono (B := 140737488355328) (by decide) (okT_fit h1)
    have g2 := T.fit_mono (B := 140737488355328) (by decide) (okT_fit h2)
    have hl : v.list.length ≤ 60 := by
      obtain ⟨k, n, s, ks, l⟩ := v
      have := sizeL_len l
      have := okT_size h1
      simp only [sizeT] at *
      show l.length ≤ 60; omega
    by_cases c : v.kind = 5 ∨ v.kind = 0
    · by_cases d : -(v.list.length : Int) ≤ a
      · obtain ⟨e1, e2⟩ := partSetO_el (x := x) c d
        obtain ⟨a5, a6⟩ := setT_fit h1 h2 d h4
        have f3 := T.enc_len (toldT true (setT v a x))
        have f4 := T.enc_len (setT v a x)
        obtain ⟨k, n, s, ks, l⟩ := v
        simp only [T.kind, T.list] at c d hl
        have d1 : (0 - (l.length : Int) ≤ a ∧ a ≤ 59) = True := eq_true ⟨by omega, h4⟩
        have d3 : lenB 1000000 l.length := by unfold lenB; omega
        by_cases b : a < 0
        · have b1 := eq_true b
          obtain ⟨i, hi⟩ : ∃ i : Nat, i = (a + (l.length : Int)).toNat := ⟨_, rfl⟩
          have eb : a + (l.length : Int) = (i : Int) := by omega
          have es : T.mk 5 0 ⟨#[]⟩ [] (setL l i x) = setT (T.mk k n s ks l) a x := by subst hi; unfold setT setAt T.list; rw [if_pos b]
          rw [← es] at e1 e2 a5 a6 f3 f4
          rcases c with rfl | rfl
          · simp only [x_PartSetI, rg, go_sem, seval, Prod.fst, T.enc, foldT, fx, o1, o2, b1, eb, d1, encL_len, spValOkI_md, spValOkI_pre, spValOkI_alts, spValOkI_res, spValOkI_out, spWithin_md, spWithin_pre, spWithin_alts, spWithin_res, spWithin_out, spCloneV_md, spCloneV_pre, spCloneV_alts, spCloneV_res, spCloneV_out]
            repeat' (first | with_reducible assumption | with_reducible refine And.intro ?_ ?_ | intro _)
            all_goals first | omega | assumption | skip
            refine pw_loop (ι := Nat) (fun j => i + 1 - l.length - j) (fun j => j ≤ i + 1 - l.length)
              (fun j => ⟨[(1, .q (.c (.int .i64 i))), (5, .q (.box 5 0)), (6, .q (.box 6 0)), (8, .q (.own 46))], [(3, [.c (.int .i64 5), .c (.int .i64 n), .c (.str s), .c (.row 1 (strs ks)), .c (.row 5 (encL l))]), (5, x.enc.map .c), (6, [.c (.int .i64 0), .c (.int .i64 0), .c (.str ⟨#[]⟩), .z 1, .z 5])], [(46, 5, encL (l ++ List.replicate j T.zero))]⟩) 0 (Nat.zero_le _) (Le.of_eq (by simp)) ?_
            intro j hj
            have l1 : (l ++ List.replicate j T.zero).length = l.length + j := by simp
            rcases Nat.lt_or_ge i (l.length + j) with c | c
            · have b2 : (((l.length + j : Nat) : Int) ≤ (i : Int)) = False := eq_false (by omega)
              obtain rfl : j = i + 1 - l.length := by omega
              obtain ⟨y, hy, _, _⟩ := drop_at (l := l ++ List.replicate (i + 1 - l.length) T.zero) (i := i) (by omega)
              have a1 := encL_at hy
              have f1 := T.enc_drop5 y
              have e : (l ++ List.replicate (i + 1 - l.length) T.zero).set i x = setL l i x := rfl
              simp only [rg, go_sem, seval, Prod.fst, l1, b2, a1, f1, fx, f3, f4, e, e1, e2, foldT, encL_len, encL_set, List.append_nil, spRow_md, spRow_pre, spRow_alts, spRow_res, spRow_out, spTold_md, spTold_pre, spTold_alts, spTold_res, spTold_out]
              repeat' (first | with_reducible assumption | with_reducible refine And.intro ?_ ?_ | intro _)
              all_goals first | omega | assumption | skip
            · have b2 : (((l.length + j : Nat) : Int) ≤ (i : Int)) = True := eq_true (by omega)
              simp only [rg, go_sem, seval, Prod.fst, l1, b2, encL_len, encL_zero]
              repeat' (first | with_reducible assumption | with_reducible refine And.intro ?_ ?_ | intro _)
              all_goals first | omega | assumption | skip
              all_goals exact ⟨j + 1, by omega, by omega, Le.of_eq (by simp [List.replicate_succ'])⟩
          · simp only [x_PartSetI, rg, go_sem, seval, Prod.fst, T.enc, foldT, fx, o1, o2, b1, eb, d1, encL_len, spValOkI_md, spValOkI_pre, spValOkI_alts, spValOkI_res, spValOkI_out, spWithin_md, spWithin_pre, spWithin_alts, spWithin_res, spWithin_out, spCloneV_md, spCloneV_pre, spCloneV_alts, spCloneV_res, spCloneV_out]
            repeat' (first | with_reducible assumption | with_reducible refine And.intro ?_ ?_ | intro _)
            all_goals first | omega | assumption | skip
            refine pw_loop (ι := Nat) (fun j => i + 1 - l.length - j) (fun j => j ≤ i + 1 - l.length)
              (fun j => ⟨[(1, .q (.c (.int .i64 i))), (5, .q (.box 5 0)), (6, .q (.box 6 0)), (8, .q (.own 46))], [(3, [.c (.int .i64 0), .c (.int .i64 n), .c (.str s), .c (.row 1 (strs ks)), .c (.row 5 (encL l))]), (5, x.enc.map .c), (6, [.c (.int .i64 0), .c (.int .i64 0), .c (.str ⟨#[]⟩), .z 1, .z 5])], [(46, 5, encL (l ++ List.replicate j T.zero))]⟩) 0 (Nat.zero_le _) (Le.of_eq (by simp)) ?_
            intro j hj
            have l1 : (l ++ List.replicate j T.zero).length = l.length + j := by simp
            rcases Nat.lt_or_ge i (l.length + j) with c | c
            · have b2 : (((l.length + j : Nat) : Int) ≤ (i : Int)) = False := eq_false (by omega)
              obtain rfl : j = i + 1 - l.length := by omega
              obtain ⟨y, hy, _, _⟩ := drop_at (l := l ++ List.replicate (i + 1 - l.length) T.zero) (i := i) (by omega)
              have a1 := encL_at hy
              have f1 := T.enc_drop5 y
              have e : (l ++ List.replicate (i + 1 - l.length) T.zero).set i x = setL l i x := rfl
              simp only [rg, go_sem, seval, Prod.fst, l1, b2, a1, f1, fx, f3, f4, e, e1, e2, foldT, encL_len, encL_set, List.append_nil, spRow_md, spRow_pre, spRow_alts, spRow_res, spRow_out, spTold_md, spTold_pre, spTold_alts, spTold_res, spTold_out]
              repeat' (first | with_reducible assumption | with_reducible refine And.intro ?_ ?_ | intro _)
              all_goals first | omega | assumption | skip
            · have b2 : (((l.length + j : Nat) : Int) ≤ (i : Int)) = True := eq_true (by omega)
              simp only [rg, go_sem, seval, Prod.fst, l1, b2, encL_len, encL_zero]
              repeat' (first | with_reducible assumption | with_reducible refine And.intro ?_ ?_ | intro _)
              all_goals first | omega | assumption | skip
              all_goals exact ⟨j + 1, by omega, by omega, Le.of_eq (by simp [List.replicate_succ'])⟩
        · have b1 := eq_false b
          obtain ⟨i, hi⟩ : ∃ i : Nat, i = a.toNat := ⟨_, rfl⟩
          obtain rfl : a = (i : Int) := by omega
          have eb := True.intro
          have es : T.mk 5 0 ⟨#[]⟩ [] (setL l i x) = setT (T.mk k n s ks l) i x := by unfold setT setAt T.list; rw [if_neg b, Int.toNat_natCast]
          clear hi
          rw [← es] at e1 e2 a5 a6 f3 f4
          rcases c with rfl | rfl
          · simp only [x_PartSetI, rg, go_sem, seval, Prod.fst, T.enc, foldT, fx, o1, o2, b1, eb, d1, encL_len, spValOkI_md, spValOkI_pre, spValOkI_alts, spValOkI_res, spValOkI_out, spWithin_md, spWithin_pre, spWithin_alts, spWithin_res, spWithin_out, spCloneV_md, spCloneV_pre, spCloneV_alts, spCloneV_res, spCloneV_out]
            repeat' (first | with_reducible assumption | with_reducible refine And.intro ?_ ?_ | intro _)
            all_goals first | omega | assumption | skip
            refine pw_loop (ι := Nat) (fun j => i + 1 - l.length - j) (fun j => j ≤ i + 1 - l.length)
              (fun j => ⟨[(1, .q (.c (.int .i64 i))), (5, .q (.box 5 0)), (6, .q (.box 6 0)), (8, .q (.own 46))], [(3, [.c (.int .i64 5), .c (.int .i64 n), .c (.str s), .c (.row 1 (strs ks)), .c (.row 5 (encL l))]), (5, x.enc.map .c), (6, [.c (.int .i64 0), .c (.int .i64 0), .c (.str ⟨#[]⟩), .z 1, .z 5])], [(46, 5, encL (l ++ List.replicate j T.zero))]⟩) 0 (Nat.zero_le _) (Le.of_eq (by simp)) ?_
            intro j hj
            have l1 : (l ++ List.replicate j T.zero).length = l.length + j := by simp
            rcases Nat.lt_or_ge i (l.length + j) with c | c
            · have b2 : (((l.length + j : Nat) : Int) ≤ (i : Int)) = False := eq_false (by omega)
              obtain rfl : j = i + 1 - l.length := by omega
              obtain ⟨y, hy, _, _⟩ := drop_at (l := l ++ List.replicate (i + 1 - l.length) T.zero) (i := i) (by omega)
              have a1 := encL_at hy
              have f1 := T.enc_drop5 y
              have e : (l ++ List.replicate (i + 1 - l.length) T.zero).set i x = setL l i x := rfl
              simp only [rg, go_sem, seval, Prod.fst, l1, b2, a1, f1, fx, f3, f4, e, e1, e2, foldT, encL_len, encL_set, List.append_nil, spRow_md, spRow_pre, spRow_alts, spRow_res, spRow_out, spTold_md, spTold_pre, spTold_alts, spTold_res, spTold_out]
              repeat' (first | with_reducible assumption | with_reducible refine And.intro ?_ ?_ | intro _)
              all_goals first | omega | assumption | skip
            · have b2 : (((l.length + j : Nat) : Int) ≤ (i : Int)) = True := eq_true (by omega)
              simp only [rg, go_sem, seval, Prod.fst, l1, b2, encL_len, encL_zero]
              repeat' (first | with_reducible assumption | with_reducible refine And.intro ?_ ?_ | intro _)
              all_goals first | omega | assumption | skip
              all_goals exact ⟨j + 1, by omega, by omega, Le.of_eq (by simp [List.replicate_succ'])⟩
          · simp only [x_PartSetI, rg, go_sem, seval, Prod.fst, T.enc, foldT, fx, o1, o2, b1, eb, d1, encL_len, spValOkI_md, spValOkI_pre, spValOkI_alts, spValOkI_res, spValOkI_out, spWithin_md, spWithin_pre, spWithin_alts, spWithin_res, spWithin_out, spCloneV_md, spCloneV_pre, spCloneV_alts, spCloneV_res, spCloneV_out]
            repeat' (first | with_reducible assumption | with_reducible refine And.intro ?_ ?_ | intro _)
            all_goals first | omega | assumption | skip
            refine pw_loop (ι := Nat) (fun j => i + 1 - l.length - j) (fun j => j ≤ i + 1 - l.length)
              (fun j => ⟨[(1, .q (.c (.int .i64 i))), (5, .q (.box 5 0)), (6, .q (.box 6 0)), (8, .q (.own 46))], [(3, [.c (.int .i64 0), .c (.int .i64 n), .c (.str s), .c (.row 1 (strs ks)), .c (.row 5 (encL l))]), (5, x.enc.map .c), (6, [.c (.int .i64 0), .c (.int .i64 0), .c (.str ⟨#[]⟩), .z 1, .z 5])], [(46, 5, encL (l ++ List.replicate j T.zero))]⟩) 0 (Nat.zero_le _) (Le.of_eq (by simp)) ?_
            intro j hj
            have l1 : (l ++ List.replicate j T.zero).length = l.length + j := by simp
            rcases Nat.lt_or_ge i (l.length + j) with c | c
            · have b2 : (((l.length + j : Nat) : Int) ≤ (i : Int)) = False := eq_false (by omega)
              obtain rfl : j = i + 1 - l.length := by omega
              obtain ⟨y, hy, _, _⟩ := drop_at (l := l ++ List.replicate (i + 1 - l.length) T.zero) (i := i) (by omega)
              have a1 := encL_at hy
              have f1 := T.enc_drop5 y
              have e : (l ++ List.replicate (i + 1 - l.length) T.zero).set i x = setL l i x := rfl
              simp only [rg, go_sem, seval, Prod.fst, l1, b2, a1, f1, fx, f3, f4, e, e1, e2, foldT, encL_len, encL_set, List.append_nil, spRow_md, spRow_pre, spRow_alts, spRow_res, spRow_out, spTold_md, spTold_pre, spTold_alts, spTold_res, spTold_out]
              repeat' (first | with_reducible assumption | with_reducible refine And.intro ?_ ?_ | intro _)
              all_goals first | omega | assumption | skip
            · have b2 : (((l.length + j : Nat) : Int) ≤ (i : Int)) = True := eq_true (by omega)
              simp only [rg, go_sem, seval, Prod.fst, l1, b2, encL_len, encL_zero]
              repeat' (first | with_reducible assumption | with_reducible refine And.intro ?_ ?_ | intro _)
              all_goals first | omega | assumption | skip
              all_goals exact ⟨j + 1, by omega, by omega, Le.of_eq (by simp [List.replicate_succ'])⟩
      · have e : partSetO v a x = none := by unfold partSetO; rw [if_neg (fun h => d h.2.1)]
        obtain ⟨k, n, s, ks, l⟩ := v
        simp only [T.kind, T.list] at c d hl
        have d1 : (0 - (l.length : Int) ≤ a ∧ a ≤ 59) = False := eq_false (by omega)
        rcases c with rfl | rfl
        · simp only [x_PartSetI, rg, go_sem, seval, Prod.fst, T.enc, foldT, fx, o1, o2, e, d1, encL_len, optT, Option.getD_none, T.zero_enc, Option.isSome_none, spValOkI_md, spValOkI_pre, spValOkI_alts, spValOkI_res, spValOkI_out, spWithin_md, spWithin_pre, spWithin_alts, spWithin_res, spWithin_out]
          repeat' (first | with_reducible assumption | with_reducible refine And.intro ?_ ?_ | intro _)
          all_goals first | omega | assumption | skip
        · simp only [x_PartSetI, rg, go_sem, seval, Prod.fst, T.enc, foldT, fx, o1, o2, e, d1, encL_len, optT, Option.getD_none, T.zero_enc, Option.isSome_none, spValOkI_md, spValOkI_pre, spValOkI_alts, spValOkI_res, spValOkI_out, spWithin_md, spWithin_pre, spWithin_alts, spWithin_res, spWithin_out]
          repeat' (first | with_reducible assumption | with_reducible refine And.intro ?_ ?_ | intro _)
          all_goals first | omega | assumption | skip
    · have e : partSetO v a x = none := by unfold partSetO; rw [if_neg (fun h => c h.1)]
      obtain ⟨k, n, s, ks, l⟩ := v
      simp only [T.kind, not_or] at c
      have c1 := eq_false c.1
      have c2 := eq_false c.2
      simp only [x_PartSetI, rg, go_sem, seval, Prod.fst, T.enc, foldT, fx, o1, o2, e, c1, c2, encL_len, optT, Option.getD_none, T.zero_enc, Option.isSome_none, spValOkI_md, spValOkI_pre, spValOkI_alts, spValOkI_res, spValOkI_out, spWithin_md, spWithin_pre, spWithin_alts, spWithin_res, spWithin_out]
      repeat' (first | with_reducible assumption | with_reducible refine And.intro ?_ ?_ | intro _)
      all_goals first | omega | assumption | skip
end Go.Proofs.Pw
/- A copy is one's own: its rows are nobody else's. -/
set_option linter.unusedSimpArgs false
set_option maxRecDepth 20000
namespace Go.Proofs.Pw
set_option linter.unusedSectionVars false
variable [Globs]
end Go.Proofs.Pw
/- Trees added: the reference's. -/
set_option linter.unusedSimpArgs false
set_option maxRecDepth 20000
namespace Go.Proofs.Pw
set_option linter.unusedSectionVars false
variable [Globs]
end Go.Proofs.Pw
