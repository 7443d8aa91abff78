/- Drawing: filters that are ok, or bent. -/
import Derived.Test.YtaiacpgnnfinlaaDoorPwT12
import Derived.Test.YtaiacpgnnfinlaaDoorPwT10
import Derived.Test.YtaiacpgnnfinlaaDoorProg
import Derived.KernelRfl
import Derived.Test.YtaiacpgnnfinlaaDoorPwT11
set_option linter.unusedSimpArgs false
set_option linter.unusedVariables false
set_option linter.unusedSimpArgs false
set_option maxRecDepth 20000
namespace Go.Proofs.Pw
set_option linter.unusedSectionVars false
variable [Globs]
def x_l4Some : X := (.seq (.reg [⟨some 2, none, .alloc [(.c (.int .i64 0)), (.c (.int .i64 0)), (.c (.str ⟨#[]⟩)), (.c (.int .i64 0)), (.c (.int .i64 0)), (.c (.str ⟨#[]⟩)), (.z 1), (.z 5), (.z 9)]⟩] none [0, 2]) (.seq (.reg [⟨some 4, none, .mv (.t 0)⟩, ⟨some 5, none, .mv (.t 0)⟩, ⟨some 6, none, .callr 24 [(.t 5), (.k (.c (.int .i64 4)))]⟩, ⟨some 7, none, .bin false .add (.k (.c (.int .i64 1))) (.t 6)⟩, ⟨some 8, none, .callr 42 [(.t 4), (.t 7)]⟩, ⟨some 3, none, .alloc [(.c (.int .i64 0)), (.c (.int .i64 0)), (.c (.str ⟨#[]⟩)), (.c (.int .i64 0)), (.c (.int .i64 0)), (.c (.str ⟨#[]⟩)), (.z 1), (.z 5), (.z 9)]⟩, ⟨none, none, .st (.t 3) (.t 8) (some 9)⟩] none [0, 2, 3]) (.seq (.seq (.reg [⟨some 9, none, .load (.t 3) (some 9)⟩, ⟨some 10, none, .callb 8 [(.t 9)]⟩, ⟨some 11, none, .not (.t 10)⟩] none [0, 2, 3, 11]) (.cond (.t 11) (.seq (.reg [⟨some 12, none, .mv (.t 0)⟩, ⟨some 13, none, .callr 43 [(.t 12)]⟩, ⟨none, none, .st (.t 2) (.t 13) (some 9)⟩] none [2]) .ret) .skip)) (.seq (.reg [⟨some 14, none, .load (.t 3) (some 9)⟩, ⟨none, none, .st (.t 2) (.t 14) (some 9)⟩] none [2]) .ret))))
theorem chk_l4Some : chkX Go.Proofs.Tryd.prog 15 (Go.Proofs.Tryd.f23.body.getD .skip) x_l4Some = true := by kernel_rfl
theorem rs_l4Some : okRs Go.Proofs.Tryd.prog Go.Proofs.Tryd.f23.results.toList [.cell 2 (some 9)] = true := by kernel_rfl
theorem call_l4Some : okCallee Go.Proofs.Tryd.prog 23 = true := by kernel_rfl
def x_l4Bent : X := (.seq (.reg [⟨some 2, none, .alloc [(.c (.int .i64 0)), (.c (.int .i64 0)), (.c (.str ⟨#[]⟩)), (.c (.int .i64 0)), (.c (.int .i64 0)), (.c (.str ⟨#[]⟩)), (.z 1), (.z 5), (.z 9)]⟩] none [0, 2]) (.seq (.reg [⟨some 5, none, .mv (.t 0)⟩, ⟨some 6, none, .callr 23 [(.t 5)]⟩, ⟨some 3, none, .alloc [(.c (.int .i64 0)), (.c (.int .i64 0)), (.c (.str ⟨#[]⟩)), (.c (.int .i64 0)), (.c (.int .i64 0)), (.c (.str ⟨#[]⟩)), (.z 1), (.z 5), (.z 9)]⟩, ⟨none, none, .st (.t 3) (.t 6) (some 9)⟩] none [0, 2, 3]) (.seq (.seq (.reg [⟨some 7, none, .mv (.t 0)⟩, ⟨some 8, none, .callr 24 [(.t 7), (.k (.c (.int .i64 60)))]⟩] none [0, 2, 3, 8]) (.block 0 (.seq (.reg [⟨some 10, none, .bin false .eql (.t 8) (.k (.c (.int .i64 0)))⟩, ⟨some 9, none, .mv (.t 10)⟩] none [0, 2, 3, 8, 9]) (.cond (.t 9) (.reg [⟨some 11, none, .mv (.t 0)⟩, ⟨some 12, none, .bsl 1 [((.k (.c (.int .i64 0))), none), ((.k (.c (.int .i64 22))), none), ((.k (.c (.int .i64 6))), none), ((.k (.c (.int .i64 1))), none), ((.k (.c (.int .i64 20))), none)]⟩, ⟨some 13, none, .callr 25 [(.t 11), (.t 12)]⟩, ⟨some 14, none, .fa (.t 3) 0⟩, ⟨none, none, .st (.t 14) (.t 13) none⟩] none [2, 3]) (.seq (.reg [⟨some 16, none, .bin false .eql (.t 8) (.k (.c (.int .i64 1)))⟩, ⟨some 15, none, .mv (.t 16)⟩] none [0, 2, 3, 8, 15]) (.cond (.t 15) (.reg [⟨some 17, none, .mv (.t 0)⟩, ⟨some 18, none, .bsl 1 [((.k (.c (.int .i64 1))), none), ((.k (.c (.int .i64 60))), none), ((.k (.c (.int .i64 (-61)))), none)]⟩, ⟨some 19, none, .callr 25 [(.t 17), (.t 18)]⟩, ⟨some 20, none, .fa (.t 3) 1⟩, ⟨none, none, .st (.t 20) (.t 19) none⟩] none [2, 3]) (.seq (.reg [⟨some 22, none, .bin false .eql (.t 8) (.k (.c (.int .i64 2)))⟩, ⟨some 21, none, .mv (.t 22)⟩] none [0, 2, 3, 8, 21]) (.cond (.t 21) (.reg [⟨some 23, none, .mv (.t 0)⟩, ⟨some 24, none, .bsl 1 [((.k (.c (.str ⟨#[65]⟩))), none), ((.k (.c (.str ⟨#[97, 98, 99, 100, 101, 102, 103, 104, 105, 106, 107, 108, 109]⟩))), none), ((.k (.c (.str ⟨#[97]⟩))), none)]⟩, ⟨some 25, none, .callr 26 [(.t 23), (.t 24)]⟩, ⟨some 26, none, .fa (.t 3) 2⟩, ⟨none, none, .st (.t 26) (.t 25) none⟩] none [2, 3]) (.seq (.reg [⟨some 28, none, .bin false .eql (.t 8) (.k (.c (.int .i64 3)))⟩, ⟨some 27, none, .mv (.t 28)⟩] none [0, 2, 3, 8, 27]) (.cond (.t 27) (.reg [⟨some 29, none, .mv (.t 0)⟩, ⟨some 30, none, .callr 27 [(.t 29)]⟩, ⟨some 31, none, .fa (.t 3) 3⟩, ⟨none, none, .st (.t 31) (.t 30) (some 5)⟩] none [2, 3]) (.seq (.reg [⟨some 33, none, .bin false .eql (.t 8) (.k (.c (.int .i64 4)))⟩, ⟨some 32, none, .mv (.t 33)⟩] none [2, 3, 32]) (.cond (.t 32) (.seq (.reg [⟨some 4, none, .mv (.k (.c (.int .i64 0)))⟩] none [2, 3, 4]) (.block 1 (.loop (.seq (.seq (.reg [⟨some 34, none, .mv (.t 4)⟩, ⟨some 35, none, .bin false .lss (.t 34) (.k (.c (.int .i64 7)))⟩] none [2, 3, 4, 35]) (.cond (.t 35) .skip (.exit 1))) (.seq (.block 2 (.reg [⟨some 38, none, .load (.t 3) (some 9)⟩, ⟨some 39, none, .bsl 9 [((.t 38), (some 9))]⟩, ⟨some 40, none, .build [(.c (.int .i64 0)), (.c (.int .i64 0)), (.c (.str ⟨#[]⟩)), (.c (.int .i64 0)), (.c (.int .i64 0)), (.c (.str ⟨#[]⟩)), (.z 1), (.z 5), (.z 9)] [(0, (.k (.c (.int .i64 17))), none), (8, (.t 39), none)]⟩, ⟨none, none, .st (.t 3) (.t 40) (some 9)⟩] none [2, 3, 4])) (.reg [⟨some 36, none, .mv (.t 4)⟩, ⟨some 37, none, .bin false .add (.t 36) (.k (.c (.int .i64 1)))⟩, ⟨some 4, none, .mv (.t 37)⟩] none [2, 3, 4])))))) .skip)))))))))))) (.seq (.reg [⟨some 41, none, .load (.t 3) (some 9)⟩, ⟨none, none, .st (.t 2) (.t 41) (some 9)⟩] none [2]) .ret))))
theorem chk_l4Bent : chkX Go.Proofs.Tryd.prog 42 (Go.Proofs.Tryd.f13.body.getD .skip) x_l4Bent = true := by kernel_rfl
theorem rs_l4Bent : okRs Go.Proofs.Tryd.prog Go.Proofs.Tryd.f13.results.toList [.cell 2 (some 9)] = true := by kernel_rfl
theorem call_l4Bent : okCallee Go.Proofs.Tryd.prog 13 = true := by kernel_rfl
set_option maxHeartbeats 2000000 in
theorem l4Some_sound : Sound Go.Proofs.Tryd.prog 23 spSomeF := by
  refine sound_famR (GOK.cons (l := [(43, spLeafF), (42, spFiltF), (8, spOkF)]) call_pick pick_sound (GOK.cons (l := [(42, spFiltF), (8, spOkF)]) call_l4Leaf l4Leaf_sound (GOK.cons call_l4Filt l4Filt_all (GOK.cons call_FiltOk sOkF_sound GOK.nil)))) Go.Proofs.Tryd.func23 (c := Go.Proofs.Tryd.f23.body.getD .skip) rfl (n := 15) rfl chk_l4Some rs_l4Some (fun _ => by simp) ?_
  · rintro ⟨bs, p⟩ ⟨hb, h1, h2⟩
    change byt bs at hb
    simp only at h1 h2
    have hl : ∀ m : Int, (0 ≤ m ∧ m < 4) → fb (1 + m).toNat ≤ 140000 := fun m hm => fb_le (by omega)
    simp only [x_l4Some, rg, go_sem, seval, Prod.fst, F.enc_len, spPick_md, spPick_pre, spPick_ne, ↓spPick_all, spPick_all, spLeafF_md, spLeafF_pre, spLeafF_ne, ↓spLeafF_all, spLeafF_all, spFiltF_md, spFiltF_pre, spFiltF_ne, ↓spFiltF_all, spFiltF_all, spOkF_md, spOkF_pre, spOkF_alts, spOkF_res, spOkF_out]
    repeat' (first | with_reducible assumption | with_reducible refine And.intro ?_ ?_ | intro _)
    all_goals first | omega | skip
    all_goals
      have hl' := hl _ (by assumption)
      clear hl
      first | omega | exact (‹drF _ _ ∧ _›).1.fit | exact (‹drF _ _ ∧ _›).1.2.1 | (have := (‹drF _ _ ∧ _›).1.2.2; omega) | skip
    all_goals
      rename_i hd
      first
        | exact drEx rfl rfl rfl hd.1 (by omega) (by omega)
        | exact drEx rfl rfl rfl (‹drF _ _ ∧ _›).1 (by omega) (by omega)
theorem drExW {M A m : Int} {bs : List Int} {p q k n vk vn : Int} {s vs : ByteArray} {vks : List ByteArray} {vl : List T} {l : List F} {K L R : List (List C)} (hK : strs vks = K) (hL : encL vl = L) (hR : encF l = R) (h : drFW m (F.mk k n s (T.mk vk vn vs vks vl) l)) (hm : m ≤ M) (hq : p ≤ q ∧ q ≤ p + A) : ∃ i : DrI,
    (drFW M (F.mk i.1 i.2.1 i.2.2.1 (T.mk i.2.2.2.1 i.2.2.2.2.1 i.2.2.2.2.2.1 i.2.2.2.2.2.2.1 i.2.2.2.2.2.2.2.1) i.2.2.2.2.2.2.2.2.1) ∧ p ≤ i.2.2.2.2.2.2.2.2.2 ∧ i.2.2.2.2.2.2.2.2.2 ≤ p + A) ∧
    (i.1 = k ∧ i.2.1 = n ∧ i.2.2.1 = s ∧ i.2.2.2.1 = vk ∧ i.2.2.2.2.1 = vn ∧ i.2.2.2.2.2.1 = vs ∧ strs i.2.2.2.2.2.2.1 = K ∧ encL i.2.2.2.2.2.2.2.1 = L ∧ encF i.2.2.2.2.2.2.2.2.1 = R) ∧ rdC bs q = rdC bs i.2.2.2.2.2.2.2.2.2 := by
  subst hK hL hR
  exact ⟨(k, n, s, vk, vn, vs, vks, vl, l, q), ⟨h.mono hm, hq⟩, ⟨rfl, rfl, rfl, rfl, rfl, rfl, rfl, rfl, rfl⟩, rfl⟩
theorem drFW_set {m : Int} {k n k' n' : Int} {s s' : ByteArray} {v v' : T} {l : List F} (h : drFW m (.mk k n s v l)) (hk : i64 k') (hn : i64 n' ∧ -1000 ≤ n' ∧ n' ≤ 1000) (hs : (s'.size : Int) ≤ 100000) (hv : v'.fit 100000) (hv' : sizeT v' ≤ 1048577) : drFW m (.mk k' n' s' v' l) := by
  obtain ⟨⟨_, _, _, _, h5, h6⟩, h7, h8⟩ := h
  simp only [smallF, sizeF] at h7 h8
  exact ⟨⟨hk, hn.1, hs, hv, h5, h6⟩, by simp only [smallF]; exact ⟨hv', h7.2⟩, by simpa only [sizeF] using h8.1, hn.2⟩
theorem drFW_in {m : Int} {k n : Int} {s : ByteArray} {v : T} {l : List F} (h : drFW m (.mk k n s v l)) : i64 k ∧ (i64 n ∧ -1000 ≤ n ∧ n ≤ 1000) ∧ (s.size : Int) ≤ 100000 ∧ v.fit 100000 ∧ sizeT v ≤ 1048577 := by
  obtain ⟨⟨h1, h2, h3, h4, h5, h6⟩, h7, h8⟩ := h
  simp only [smallF] at h7
  exact ⟨h1, ⟨h2, h8.2⟩, h3, h4, h7.1⟩
theorem drFW_wrap {m : Int} {f : F} (h : drFW m f) : drFW (m + 1) (.mk 17 0 ⟨#[]⟩ (.mk 0 0 ⟨#[]⟩ [] []) [f]) := by
  refine ⟨⟨by unfold i64; omega, by unfold i64; omega, by unfold lenB; decide, T.fit_mono (by decide) zero_dr.1, by unfold lenB; simp, h.1, trivial⟩, ?_, ?_, by show (-1000 : Int) ≤ 0 ∧ (0 : Int) ≤ 1000; omega⟩
  · simp only [smallF, smallFL]
    exact ⟨by have := zero_dr.2; show sizeT T.zero ≤ _; omega, h.2.1, trivial⟩
  · have := h.2.2.1
    simp only [sizeF, sizeFL] at this ⊢; omega
def spBentF  : Spec := Spec.ofR (ι := (List Int) × Int) (κ := Int × Int × ByteArray × Int × Int × ByteArray × (List ByteArray) × (List T) × (List Pw.F) × Int) [true] (fun i => [.ref (rdC i.1 i.2)]) (fun i => byt i.1 ∧ 0 ≤ i.2 ∧ i.2 + 200000 ≤ 1099511627776) (fun i k => drFW 140010 (Pw.F.mk k.1 k.2.1 k.2.2.1 (.mk k.2.2.2.1 k.2.2.2.2.1 k.2.2.2.2.2.1 k.2.2.2.2.2.2.1 k.2.2.2.2.2.2.2.1) k.2.2.2.2.2.2.2.2.1) ∧ i.2 ≤ k.2.2.2.2.2.2.2.2.2 ∧ k.2.2.2.2.2.2.2.2.2 ≤ i.2 + 200000) (fun i k => [.d (.agg (Pw.F.mk k.1 k.2.1 k.2.2.1 (.mk k.2.2.2.1 k.2.2.2.2.1 k.2.2.2.2.2.1 k.2.2.2.2.2.2.1 k.2.2.2.2.2.2.2.1) k.2.2.2.2.2.2.2.2.1).enc)]) (fun i k => [.ref (rdC i.1 k.2.2.2.2.2.2.2.2.2)])
theorem spBentF_inj : ∀ i j : (List Int) × Int, (fun (i : (List Int) × Int) => ([.ref (rdC i.1 i.2)] : List AV)) i = (fun (i : (List Int) × Int) => ([.ref (rdC i.1 i.2)] : List AV)) j → i = j := by
  rintro ⟨bs, p⟩ ⟨bs', p'⟩ h
  simp only [Prod.mk.injEq]
  simpa [strs_eq, T.enc_eq, encL_eq, F.enc_eq, encF_eq, Tk.enc_eq, encTk_eq, Gn.enc_eq, ints_eq, rdC_eq, and_assoc] using h
theorem spBentF_md  : (spBentF).md = [true] := rfl
theorem spBentF_pre  (bs : List Int) (p : Int) : (spBentF).pre [.ref (rdC bs p)] = (byt bs ∧ 0 ≤ p ∧ p + 200000 ≤ 1099511627776) := Spec.ofR_pre spBentF_inj (bs, p)
theorem spBentF_ne0  (bs : List Int) (p : Int) : (spBentF).ne [.ref (rdC bs p)] = (∃ k : Int × Int × ByteArray × Int × Int × ByteArray × (List ByteArray) × (List T) × (List Pw.F) × Int, drFW 140010 (Pw.F.mk k.1 k.2.1 k.2.2.1 (.mk k.2.2.2.1 k.2.2.2.2.1 k.2.2.2.2.2.1 k.2.2.2.2.2.2.1 k.2.2.2.2.2.2.2.1) k.2.2.2.2.2.2.2.2.1) ∧ p ≤ k.2.2.2.2.2.2.2.2.2 ∧ k.2.2.2.2.2.2.2.2.2 ≤ p + 200000) := Spec.ofR_ne spBentF_inj (bs, p)
theorem spBentF_all  (bs : List Int) (p : Int) (F : List AV → List AV → Prop) : (spBentF).all [.ref (rdC bs p)] F = (∀ (k : Int) (n : Int) (s : ByteArray) (vk : Int) (vn : Int) (vs : ByteArray) (vks : List ByteArray) (vl : List T) (l : List Pw.F) (q : Int), (drFW 140010 (Pw.F.mk k n s (.mk vk vn vs vks vl) l) ∧ p ≤ q ∧ q ≤ p + 200000) → F [.d (.agg (Pw.F.mk k n s (.mk vk vn vs vks vl) l).enc)] [.ref (rdC bs q)]) := by
  refine (Spec.ofR_all spBentF_inj (bs, p) F).trans (propext ⟨fun h k n s vk vn vs vks vl l q hr => h (k, n, s, vk, vn, vs, vks, vl, l, q) hr, fun h k hr => ?_⟩)
  exact h k.1 k.2.1 k.2.2.1 k.2.2.2.1 k.2.2.2.2.1 k.2.2.2.2.2.1 k.2.2.2.2.2.2.1 k.2.2.2.2.2.2.2.1 k.2.2.2.2.2.2.2.2.1 k.2.2.2.2.2.2.2.2.2 hr
theorem spBentF_ne (bs : List Int) (p : Int) : spBentF.ne [.ref (rdC bs p)] = True := by
  rw [spBentF_ne0]
  exact eq_true ⟨(0, 0, ⟨#[]⟩, 0, 0, ⟨#[]⟩, [], [], [], p), ((leafZ (k := 0) (n := 0) (s := ⟨#[]⟩) (by unfold i64; omega) (by unfold i64; omega) (by decide)).mono (by omega)).w, Int.le_refl _, by show p ≤ p + 200000; omega⟩
set_option maxHeartbeats 4000000 in
theorem l4Bent_sound : Sound Go.Proofs.Tryd.prog 13 spBentF := by
  refine sound_famR (GOK.cons (l := [(26, spDof), (25, spDnum), (27, spBent), (23, spSomeF)]) call_pick pick_sound (GOK.cons (l := [(25, spDnum), (27, spBent), (23, spSomeF)]) call_dof dof_sound (GOK.cons (l := [(27, spBent), (23, spSomeF)]) call_dnum dnum_sound (GOK.cons call_l1Bent l1Bent_sound (GOK.cons call_l4Some l4Some_sound GOK.nil))))) Go.Proofs.Tryd.func13 (c := Go.Proofs.Tryd.f13.body.getD .skip) rfl (n := 42) rfl chk_l4Bent rs_l4Bent (fun _ => by simp) ?_
  · rintro ⟨bs, p⟩ ⟨hb, h1, h2⟩
    change byt bs at hb
    simp only at h1 h2
    simp only [x_l4Bent, rg, go_sem, seval, Prod.fst, strs3, ints3, ints5, strs_len, F.enc, T.enc, List.cons_append, List.nil_append, spPick_md, spPick_pre, spPick_ne, ↓spPick_all, spPick_all, spDof_md, spDof_pre, spDof_ne, ↓spDof_all, spDof_all, spDnum_md, spDnum_pre, spDnum_ne, ↓spDnum_all, spDnum_all, spBent_md, spBent_pre, spBent_ne, ↓spBent_all, spBent_all, spSomeF_md, spSomeF_pre, spSomeF_ne, ↓spSomeF_all, spSomeF_all]
    repeat' (first | with_reducible assumption | with_reducible refine And.intro ?_ ?_ | intro _)
    all_goals first | omega | skip
    · rename_i k n s vk vn vs vks vl l q hd m _ _ x hx
      simp only [List.mem_cons, List.not_mem_nil, or_false] at hx
      obtain ⟨z1, z2, z3, z4, z5⟩ := drFW_in hd.1.w
      exact drExW rfl rfl rfl (drFW_set hd.1.w (by unfold i64; omega) z2 z3 z4 z5) (by omega) (by omega)
    · rename_i k n s vk vn vs vks vl l q hd m _ _ _ x hx
      simp only [List.mem_cons, List.not_mem_nil, or_false] at hx
      obtain ⟨z1, z2, z3, z4, z5⟩ := drFW_in hd.1.w
      exact drExW rfl rfl rfl (drFW_set hd.1.w z1 (by unfold i64; omega) z3 z4 z5) (by omega) (by omega)
    · rename_i k n s vk vn vs vks vl l q hd m _ _ _ _ x hx
      simp only [List.mem_cons, List.not_mem_nil, or_false] at hx
      obtain ⟨z1, z2, z3, z4, z5⟩ := drFW_in hd.1.w
      exact drExW rfl rfl rfl (drFW_set hd.1.w z1 z2 (by rcases hx with rfl | rfl | rfl <;> decide) z4 z5) (by omega) (by omega)
    · rename_i k n s vk vn vs vks vl l q hd m _ _ _ _ _ k' n' s' ks' l' q' hw
      obtain ⟨z1, z2, z3, z4, z5⟩ := drFW_in hd.1.w
      exact drExW rfl rfl rfl (drFW_set hd.1.w z1 z2 z3 hw.1.1 (by have := hw.1.2.1; omega)) (by omega) (by omega)
    · rename_i k n s vk vn vs vks vl l q hd m _ _ _ _ _ _
      refine pw_loop (ι := Nat × Int × Int × ByteArray × Int × Int × ByteArray × List ByteArray × List T × List Pw.F) (fun i => 7 - i.1)
        (fun i => i.1 ≤ 7 ∧ drFW (140000 + i.1) (.mk i.2.1 i.2.2.1 i.2.2.2.1 (.mk i.2.2.2.2.1 i.2.2.2.2.2.1 i.2.2.2.2.2.2.1 i.2.2.2.2.2.2.2.1 i.2.2.2.2.2.2.2.2.1) i.2.2.2.2.2.2.2.2.2))
        (fun i => ⟨[(2, .q (.box 2 0)), (3, .q (.box 3 0)), (4, .q (.c (.int .i64 i.1)))],
          [(42, (rdC bs (q + 1)).map .c), (2, [.c (.int .i64 0), .c (.int .i64 0), .c (.str ⟨#[]⟩), .c (.int .i64 0), .c (.int .i64 0), .c (.str ⟨#[]⟩), .z 1, .z 5, .z 9]), (3, [.c (.int .i64 i.2.1), .c (.int .i64 i.2.2.1), .c (.str i.2.2.2.1), .c (.int .i64 i.2.2.2.2.1), .c (.int .i64 i.2.2.2.2.2.1), .c (.str i.2.2.2.2.2.2.1), .c (.row 1 (strs i.2.2.2.2.2.2.2.1)), .c (.row 5 (encL i.2.2.2.2.2.2.2.2.1)), .c (.row 9 (encF i.2.2.2.2.2.2.2.2.2))])],
          []⟩) (0, k, n, s, vk, vn, vs, vks, vl, l) ⟨by simp, hd.1.w.mono (by simp)⟩ (Le.of_eq (by simp)) ?_
      rintro ⟨i, k, n, s, vk, vn, vs, vks, vl, l⟩ ⟨g1, g2⟩
      simp only at g1 g2
      rcases Nat.lt_or_ge i 7 with hlt | hge
      · have b1 : ((i : Int) < 7) = True := eq_true (by omega)
        simp only [rg, go_sem, seval, Prod.fst, b1]
        repeat' (first | with_reducible assumption | with_reducible refine And.intro ?_ ?_ | intro _)
        all_goals first | omega | skip
        refine ⟨(i + 1, 17, 0, ⟨#[]⟩, 0, 0, ⟨#[]⟩, [], [], [.mk k n s (.mk vk vn vs vks vl) l]), ⟨by show i + 1 ≤ 7; omega, (drFW_wrap g2).mono (by simp only [Int.natCast_add]; omega)⟩, by show 7 - (i + 1) < 7 - i; omega, Le.bx ?_⟩
        intro p hp
        simp only [List.mem_cons, List.not_mem_nil, or_false] at hp
        rcases hp with rfl | rfl | rfl
        · exact ⟨_, by simp, All2.qrefl _⟩
        · exact ⟨_, by simp, All2.qrefl _⟩
        · refine ⟨_, List.mem_cons_of_mem _ (List.mem_cons_of_mem _ (List.mem_cons_self ..)), ?_⟩
          exact .cons (QLe.refl _) (.cons (QLe.refl _) (.cons (QLe.refl _) (.cons (QLe.refl _) (.cons (QLe.refl _) (.cons (QLe.refl _) (.cons (QLe.z 1) (.cons (QLe.z 5) (.cons (QLe.full _ _) .nil))))))))
      · have b1 : ((i : Int) < 7) = False := eq_false (by omega)
        simp only [rg, go_sem, seval, Prod.fst, b1]
        repeat' (first | with_reducible assumption | with_reducible refine And.intro ?_ ?_ | intro _)
        all_goals first | omega | skip
        exact drExW rfl rfl rfl g2 (by omega) (by omega)
    · rename_i k n s vk vn vs vks vl l q hd m _ _ _ _ _ _
      exact drExW rfl rfl rfl hd.1.w (by omega) (by omega)
def spDFilt  : Spec := Spec.ofR (ι := (List Int)) (κ := Int × Int × ByteArray × Int × Int × ByteArray × (List ByteArray) × (List T) × (List Pw.F)) [false] (fun i => [.d (.one (.row 1 (ints .u8 i)))]) (fun i => (∀ b ∈ i, 0 ≤ b ∧ b ≤ 255) ∧ lenB 140737488355328 i.length) (fun i k => drFW 140010 (Pw.F.mk k.1 k.2.1 k.2.2.1 (.mk k.2.2.2.1 k.2.2.2.2.1 k.2.2.2.2.2.1 k.2.2.2.2.2.2.1 k.2.2.2.2.2.2.2.1) k.2.2.2.2.2.2.2.2)) (fun i k => [.d (.agg (Pw.F.mk k.1 k.2.1 k.2.2.1 (.mk k.2.2.2.1 k.2.2.2.2.1 k.2.2.2.2.2.1 k.2.2.2.2.2.2.1 k.2.2.2.2.2.2.2.1) k.2.2.2.2.2.2.2.2).enc)]) (fun i k => [.gone])
theorem spDFilt_inj : ∀ i j : (List Int), (fun (i : (List Int)) => ([.d (.one (.row 1 (ints .u8 i)))] : List AV)) i = (fun (i : (List Int)) => ([.d (.one (.row 1 (ints .u8 i)))] : List AV)) j → i = j := by
  intro bs bs' h
  simpa [strs_eq, T.enc_eq, encL_eq, F.enc_eq, encF_eq, Tk.enc_eq, encTk_eq, Gn.enc_eq, ints_eq, rdC_eq, and_assoc] using h
theorem spDFilt_md  : (spDFilt).md = [false] := rfl
theorem spDFilt_pre  (bs : List Int) : (spDFilt).pre [.d (.one (.row 1 (ints .u8 bs)))] = ((∀ b ∈ bs, 0 ≤ b ∧ b ≤ 255) ∧ lenB 140737488355328 bs.length) := Spec.ofR_pre spDFilt_inj bs
theorem spDFilt_all  (bs : List Int) (F : List AV → List AV → Prop) : (spDFilt).all [.d (.one (.row 1 (ints .u8 bs)))] F = (∀ (k : Int) (n : Int) (s : ByteArray) (vk : Int) (vn : Int) (vs : ByteArray) (vks : List ByteArray) (vl : List T) (l : List Pw.F), (drFW 140010 (Pw.F.mk k n s (.mk vk vn vs vks vl) l)) → F [.d (.agg (Pw.F.mk k n s (.mk vk vn vs vks vl) l).enc)] [.gone]) := by
  refine (Spec.ofR_all spDFilt_inj bs F).trans (propext ⟨fun h k n s vk vn vs vks vl l hr => h (k, n, s, vk, vn, vs, vks, vl, l) hr, fun h k hr => ?_⟩)
  exact h k.1 k.2.1 k.2.2.1 k.2.2.2.1 k.2.2.2.2.1 k.2.2.2.2.2.1 k.2.2.2.2.2.2.1 k.2.2.2.2.2.2.2.1 k.2.2.2.2.2.2.2.2 hr
end Go.Proofs.Pw
/- What is a tree that is ok: the program's functions. -/
set_option linter.unusedSimpArgs false
set_option maxRecDepth 20000
namespace Go.Proofs.Pw
set_option linter.unusedSectionVars false
variable [Globs]
def x_within : X := (.seq (.reg [⟨some 6, none, .mv (.k (.c (.bool false)))⟩] none [0, 1, 2]) (.seq (.reg [⟨some 7, none, .mv (.t 0)⟩, ⟨some 8, none, .mv (.t 1)⟩, ⟨some 9, none, .bin false .geq (.t 7) (.t 8)⟩, ⟨some 10, none, .mv (.t 9)⟩, ⟨some 11, some (10, true), .mv (.t 0)⟩, ⟨some 12, some (10, true), .mv (.t 2)⟩, ⟨some 13, some (10, true), .bin false .leq (.t 11) (.t 12)⟩, ⟨some 14, none, .pick (.t 10) (.t 13) (.k (.c (.bool false)))⟩, ⟨some 6, none, .mv (.t 14)⟩] none [6]) .ret))
theorem chk_within : chkX Go.Proofs.Tryd.prog 15 (Go.Proofs.Tryd.f35.body.getD .skip) x_within = true := by kernel_rfl
theorem rs_within : okRs Go.Proofs.Tryd.prog Go.Proofs.Tryd.f35.results.toList [.tmp 6] = true := by kernel_rfl
theorem call_within : okCallee Go.Proofs.Tryd.prog 35 = true := by kernel_rfl
def x_textOk : X := (.seq (.reg [⟨some 2, none, .mv (.k (.c (.bool false)))⟩] none [0]) (.seq (.seq (.reg [⟨some 4, none, .mv (.t 0)⟩, ⟨some 5, none, .len (.t 4) true⟩, ⟨some 6, none, .mv (.k (.c (.int .i64 0)))⟩] none [0, 5, 6]) (.block 0 (.loop (.seq (.reg [⟨some 7, none, .bin false .lss (.t 6) (.t 5)⟩] none [0, 5, 6, 7]) (.seq (.cond (.t 7) .skip (.exit 0)) (.seq (.block 1 (.seq (.reg [⟨some 8, none, .mv (.t 6)⟩, ⟨some 3, none, .mv (.t 8)⟩] none [0, 3, 5, 6]) (.seq (.reg [⟨some 9, none, .mv (.t 0)⟩, ⟨some 10, none, .mv (.t 3)⟩, ⟨some 11, none, .idx (.t 9) (.t 10)⟩, ⟨some 12, none, .bin false .lss (.t 11) (.k (.c (.int .u8 97)))⟩, ⟨some 13, none, .mv (.t 12)⟩, ⟨some 14, some (13, false), .mv (.t 0)⟩, ⟨some 15, some (13, false), .mv (.t 3)⟩, ⟨some 16, some (13, false), .idx (.t 14) (.t 15)⟩, ⟨some 17, some (13, false), .bin false .gtr (.t 16) (.k (.c (.int .u8 122)))⟩, ⟨some 18, none, .pick (.t 13) (.k (.c (.bool true))) (.t 17)⟩] none [0, 5, 6, 18]) (.cond (.t 18) (.seq (.reg [⟨some 2, none, .mv (.k (.c (.bool false)))⟩] none [2]) .ret) .skip)))) (.reg [⟨some 19, none, .bin false .add (.t 6) (.k (.c (.int .i64 1)))⟩, ⟨some 6, none, .mv (.t 19)⟩] none [0, 5, 6]))))))) (.seq (.reg [⟨some 20, none, .mv (.t 0)⟩, ⟨some 21, none, .len (.t 20) true⟩, ⟨some 22, none, .bin false .leq (.t 21) (.k (.c (.int .i64 12)))⟩, ⟨some 2, none, .mv (.t 22)⟩] none [2]) .ret)))
theorem chk_textOk : chkX Go.Proofs.Tryd.prog 23 (Go.Proofs.Tryd.f37.body.getD .skip) x_textOk = true := by kernel_rfl
theorem rs_textOk : okRs Go.Proofs.Tryd.prog Go.Proofs.Tryd.f37.results.toList [.tmp 2] = true := by kernel_rfl
theorem call_textOk : okCallee Go.Proofs.Tryd.prog 37 = true := by kernel_rfl
def x_ok : X := (.seq (.reg [⟨some 3, none, .box (.t 0) (some 5)⟩, ⟨some 6, none, .mv (.k (.c (.bool false)))⟩] none [1, 2, 3]) (.seq (.reg [⟨some 11, none, .mv (.t 2)⟩, ⟨some 12, none, .nilc (.t 11)⟩, ⟨some 13, none, .load (.t 12) none⟩, ⟨some 14, none, .bin false .sub (.t 13) (.k (.c (.int .i64 1)))⟩, ⟨some 15, none, .nilc (.t 11)⟩, ⟨none, none, .st (.t 15) (.t 14) none⟩] none [1, 2, 3]) (.seq (.seq (.reg [⟨some 16, none, .mv (.t 2)⟩, ⟨some 17, none, .nilc (.t 16)⟩, ⟨some 18, none, .load (.t 17) none⟩, ⟨some 19, none, .bin false .lss (.t 18) (.k (.c (.int .i64 0)))⟩, ⟨some 20, none, .mv (.t 19)⟩, ⟨some 21, some (20, false), .mv (.t 1)⟩, ⟨some 22, some (20, false), .bin false .gtr (.t 21) (.k (.c (.int .i64 6)))⟩, ⟨some 23, none, .pick (.t 20) (.k (.c (.bool true))) (.t 22)⟩] none [1, 2, 3, 23]) (.cond (.t 23) (.seq (.reg [⟨some 6, none, .mv (.k (.c (.bool false)))⟩] none [6]) .ret) .skip)) (.seq (.seq (.reg [⟨some 24, none, .fa (.t 3) 0⟩, ⟨some 25, none, .load (.t 24) none⟩, ⟨some 26, none, .bin false .neq (.t 25) (.k (.c (.int .i64 3)))⟩, ⟨some 27, none, .mv (.t 26)⟩, ⟨some 28, some (27, true), .fa (.t 3) 1⟩, ⟨some 29, some (27, true), .load (.t 28) none⟩, ⟨some 30, some (27, true), .bin false .neq (.t 29) (.k (.c (.int .i64 0)))⟩, ⟨some 31, none, .pick (.t 27) (.t 30) (.k (.c (.bool false)))⟩, ⟨some 32, none, .mv (.t 31)⟩, ⟨some 33, some (32, false), .fa (.t 3) 0⟩, ⟨some 34, some (32, false), .load (.t 33) none⟩, ⟨some 35, some (32, false), .bin false .neq (.t 34) (.k (.c (.int .i64 4)))⟩, ⟨some 36, some (32, false), .mv (.t 35)⟩, ⟨some 37, some (36, true), .fa (.t 3) 2⟩, ⟨some 38, some (36, true), .load (.t 37) none⟩, ⟨some 39, some (36, true), .bin false .neq (.t 38) (.k (.c (.str ⟨#[]⟩)))⟩, ⟨some 40, some (32, false), .pick (.t 36) (.t 39) (.k (.c (.bool false)))⟩, ⟨some 41, none, .pick (.t 32) (.k (.c (.bool true))) (.t 40)⟩, ⟨some 42, none, .mv (.t 41)⟩, ⟨some 43, some (42, false), .fa (.t 3) 0⟩, ⟨some 44, some (42, false), .load (.t 43) none⟩, ⟨some 45, some (42, false), .bin false .neq (.t 44) (.k (.c (.int .i64 6)))⟩, ⟨some 46, some (42, false), .mv (.t 45)⟩, ⟨some 47, some (46, true), .fa (.t 3) 3⟩, ⟨some 48, some (46, true), .load (.t 47) none⟩, ⟨some 49, some (46, true), .len (.t 48) false⟩, ⟨some 50, some (46, true), .bin false .gtr (.t 49) (.k (.c (.int .i64 0)))⟩, ⟨some 51, some (42, false), .pick (.t 46) (.t 50) (.k (.c (.bool false)))⟩, ⟨some 52, none, .pick (.t 42) (.k (.c (.bool true))) (.t 51)⟩, ⟨some 53, none, .mv (.t 52)⟩, ⟨some 54, some (53, false), .fa (.t 3) 0⟩, ⟨some 55, some (53, false), .load (.t 54) none⟩, ⟨some 56, some (53, false), .bin false .lss (.t 55) (.k (.c (.int .i64 5)))⟩, ⟨some 57, some (53, false), .mv (.t 56)⟩, ⟨some 58, some (57, true), .fa (.t 3) 4⟩, ⟨some 59, some (57, true), .load (.t 58) none⟩, ⟨some 60, some (57, true), .len (.t 59) false⟩, ⟨some 61, some (57, true), .bin false .gtr (.t 60) (.k (.c (.int .i64 0)))⟩, ⟨some 62, some (53, false), .pick (.t 57) (.t 61) (.k (.c (.bool false)))⟩, ⟨some 63, none, .pick (.t 53) (.k (.c (.bool true))) (.t 62)⟩] none [1, 2, 3, 63]) (.cond (.t 63) (.seq (.reg [⟨some 6, none, .mv (.k (.c (.bool false)))⟩] none [6]) .ret) .skip)) (.seq (.seq (.reg [⟨some 64, none, .fa (.t 3) 0⟩, ⟨some 65, none, .load (.t 64) none⟩, ⟨some 66, none, .call 35 [(.t 65), (.k (.c (.int .i64 0))), (.k (.c (.int .i64 6)))]⟩, ⟨some 67, none, .not (.t 66)⟩, ⟨some 68, none, .mv (.t 67)⟩, ⟨some 69, some (68, false), .fa (.t 3) 1⟩, ⟨some 70, some (68, false), .load (.t 69) none⟩, ⟨some 71, some (68, false), .call 35 [(.t 70), (.k (.c (.int .i64 (-1000000)))), (.k (.c (.int .i64 1000000)))]⟩, ⟨some 72, some (68, false), .not (.t 71)⟩, ⟨some 73, none, .pick (.t 68) (.k (.c (.bool true))) (.t 72)⟩, ⟨some 74, none, .mv (.t 73)⟩, ⟨some 75, some (74, false), .fa (.t 3) 2⟩, ⟨some 76, some (74, false), .load (.t 75) none⟩, ⟨some 77, some (74, false), .call 37 [(.t 76)]⟩, ⟨some 78, some (74, false), .not (.t 77)⟩, ⟨some 79, none, .pick (.t 74) (.k (.c (.bool true))) (.t 78)⟩, ⟨some 80, none, .mv (.t 79)⟩, ⟨some 81, some (80, false), .fa (.t 3) 0⟩, ⟨some 82, some (80, false), .load (.t 81) none⟩, ⟨some 83, some (80, false), .bin false .eql (.t 82) (.k (.c (.int .i64 6)))⟩, ⟨some 84, some (80, false), .mv (.t 83)⟩, ⟨some 85, some (84, true), .fa (.t 3) 3⟩, ⟨some 86, some (84, true), .load (.t 85) none⟩, ⟨some 87, some (84, true), .len (.t 86) false⟩, ⟨some 88, some (84, true), .fa (.t 3) 4⟩, ⟨some 89, some (84, true), .load (.t 88) none⟩, ⟨some 90, some (84, true), .len (.t 89) false⟩, ⟨some 91, some (84, true), .bin false .neq (.t 87) (.t 90)⟩, ⟨some 92, some (80, false), .pick (.t 84) (.t 91) (.k (.c (.bool false)))⟩, ⟨some 93, none, .pick (.t 80) (.k (.c (.bool true))) (.t 92)⟩] none [1, 2, 3, 93]) (.cond (.t 93) (.seq (.reg [⟨some 6, none, .mv (.k (.c (.bool false)))⟩] none [6]) .ret) .skip)) (.seq (.seq (.reg [⟨some 94, none, .fa (.t 3) 3⟩, ⟨some 95, none, .load (.t 94) none⟩, ⟨some 96, none, .len (.t 95) false⟩, ⟨some 97, none, .mv (.k (.c (.int .i64 0)))⟩] none [1, 2, 3, 95, 96, 97]) (.block 0 (.loop (.seq (.reg [⟨some 98, none, .bin false .lss (.t 97) (.t 96)⟩] none [1, 2, 3, 95, 96, 97, 98]) (.seq (.cond (.t 98) .skip (.exit 0)) (.seq (.block 1 (.seq (.reg [⟨some 99, none, .mv (.t 97)⟩, ⟨some 100, none, .ia (.t 95) (.t 97) 1⟩, ⟨some 101, none, .load (.t 100) none⟩, ⟨some 7, none, .mv (.t 99)⟩, ⟨some 8, none, .mv (.t 101)⟩] none [1, 2, 3, 7, 8, 95, 96, 97]) (.seq (.reg [⟨some 102, none, .mv (.t 8)⟩, ⟨some 103, none, .call 37 [(.t 102)]⟩, ⟨some 104, none, .not (.t 103)⟩, ⟨some 105, none, .mv (.t 104)⟩, ⟨some 106, some (105, false), .mv (.t 7)⟩, ⟨some 107, some (105, false), .bin false .gtr (.t 106) (.k (.c (.int .i64 0)))⟩, ⟨some 108, some (105, false), .mv (.t 107)⟩, ⟨some 109, some (108, true), .fa (.t 3) 3⟩, ⟨some 110, some (108, true), .load (.t 109) none⟩, ⟨some 111, some (108, true), .mv (.t 7)⟩, ⟨some 112, some (108, true), .bin false .sub (.t 111) (.k (.c (.int .i64 1)))⟩, ⟨some 113, some (108, true), .ia (.t 110) (.t 112) 1⟩, ⟨some 114, some (108, true), .load (.t 113) none⟩, ⟨some 115, some (108, true), .mv (.t 8)⟩, ⟨some 116, some (108, true), .bin false .geq (.t 114) (.t 115)⟩, ⟨some 117, some (105, false), .pick (.t 108) (.t 116) (.k (.c (.bool false)))⟩, ⟨some 118, none, .pick (.t 105) (.k (.c (.bool true))) (.t 117)⟩] none [1, 2, 3, 95, 96, 97, 118]) (.cond (.t 118) (.seq (.reg [⟨some 6, none, .mv (.k (.c (.bool false)))⟩] none [6]) .ret) .skip)))) (.reg [⟨some 119, none, .bin false .add (.t 97) (.k (.c (.int .i64 1)))⟩, ⟨some 97, none, .mv (.t 119)⟩] none [1, 2, 3, 95, 96, 97]))))))) (.seq (.seq (.reg [⟨some 120, none, .fa (.t 3) 4⟩, ⟨some 121, none, .load (.t 120) none⟩, ⟨some 122, none, .len (.t 121) false⟩, ⟨some 123, none, .mv (.k (.c (.int .i64 0)))⟩] none [1, 2, 121, 122, 123]) (.block 2 (.loop (.seq (.reg [⟨some 124, none, .bin false .lss (.t 123) (.t 122)⟩] none [1, 2, 121, 122, 123, 124]) (.seq (.cond (.t 124) .skip (.exit 2)) (.seq (.block 3 (.seq (.reg [⟨some 125, none, .ia (.t 121) (.t 123) 5⟩, ⟨some 126, none, .load (.t 125) (some 5)⟩, ⟨some 10, none, .alloc [(.c (.int .i64 0)), (.c (.int .i64 0)), (.c (.str ⟨#[]⟩)), (.z 1), (.z 5)]⟩, ⟨none, none, .st (.t 10) (.t 126) (some 5)⟩] none [1, 2, 10, 121, 122, 123]) (.seq (.reg [⟨some 127, none, .load (.t 10) (some 5)⟩, ⟨some 128, none, .mv (.t 1)⟩, ⟨some 129, none, .bin false .add (.t 128) (.k (.c (.int .i64 1)))⟩, ⟨some 130, none, .mv (.t 2)⟩, ⟨some 131, none, .call 47 [(.t 127), (.t 129), (.t 130)]⟩, ⟨some 132, none, .not (.t 131)⟩] none [1, 2, 121, 122, 123, 132]) (.cond (.t 132) (.seq (.reg [⟨some 6, none, .mv (.k (.c (.bool false)))⟩] none [6]) .ret) .skip)))) (.reg [⟨some 133, none, .bin false .add (.t 123) (.k (.c (.int .i64 1)))⟩, ⟨some 123, none, .mv (.t 133)⟩] none [1, 2, 121, 122, 123]))))))) (.seq (.reg [⟨some 6, none, .mv (.k (.c (.bool true)))⟩] none [6]) .ret))))))))
theorem chk_ok : chkX Go.Proofs.Tryd.prog 134 (Go.Proofs.Tryd.f47.body.getD .skip) x_ok = true := by kernel_rfl
theorem rs_ok : okRs Go.Proofs.Tryd.prog Go.Proofs.Tryd.f47.results.toList [.tmp 6] = true := by kernel_rfl
theorem call_ok : okCallee Go.Proofs.Tryd.prog 47 = true := by kernel_rfl
def x_ValOkI : X := (.seq (.reg [⟨some 1, none, .box (.t 0) (some 5)⟩, ⟨some 2, none, .mv (.k (.c (.bool false)))⟩] none [1]) (.seq (.reg [⟨some 3, none, .alloc [(.c (.int .i64 0))]⟩, ⟨none, none, .st (.t 3) (.k (.c (.int .i64 60))) none⟩] none [1, 3]) (.seq (.reg [⟨some 4, none, .load (.t 1) (some 5)⟩, ⟨some 5, none, .call 47 [(.t 4), (.k (.c (.int .i64 1))), (.t 3)]⟩, ⟨some 2, none, .mv (.t 5)⟩] none [2]) .ret)))
theorem chk_ValOkI : chkX Go.Proofs.Tryd.prog 6 (Go.Proofs.Tryd.f38.body.getD .skip) x_ValOkI = true := by kernel_rfl
theorem rs_ValOkI : okRs Go.Proofs.Tryd.prog Go.Proofs.Tryd.f38.results.toList [.tmp 2] = true := by kernel_rfl
theorem call_ValOkI : okCallee Go.Proofs.Tryd.prog 38 = true := by kernel_rfl
noncomputable def spWithin  : Spec := Spec.of (ι := Int × Int × Int) [false, false, false] (fun i => [.d (.one (.int .i64 i.1)), .d (.one (.int .i64 i.2.1)), .d (.one (.int .i64 i.2.2))]) (fun _ => True) (fun i => [.d (.one (.bool (decide (i.2.1 ≤ i.1 ∧ i.1 ≤ i.2.2))))]) (fun _ => [.gone, .gone, .gone])
theorem spWithin_inj : ∀ i j : Int × Int × Int, (fun (i : Int × Int × Int) => ([.d (.one (.int .i64 i.1)), .d (.one (.int .i64 i.2.1)), .d (.one (.int .i64 i.2.2))] : List AV)) i = (fun (i : Int × Int × Int) => ([.d (.one (.int .i64 i.1)), .d (.one (.int .i64 i.2.1)), .d (.one (.int .i64 i.2.2))] : List AV)) j → i = j := by
  rintro ⟨n, a, b⟩ ⟨n', a', b'⟩ h
  simp only [Prod.mk.injEq]
  simpa [strs_eq, T.enc_eq, encL_eq, F.enc_eq, encF_eq, Tk.enc_eq, encTk_eq, Gn.enc_eq, ints_eq] using h
theorem spWithin_md  : (spWithin).md = [false, false, false] := rfl
theorem spWithin_pre  (n : Int) (a : Int) (b : Int) : (spWithin).pre [.d (.one (.int .i64 n)), .d (.one (.int .i64 a)), .d (.one (.int .i64 b))] = (True) := Spec.of_pre' spWithin_inj (n, a, b)
theorem spWithin_alts  : (spWithin).alts = none := rfl
theorem spWithin_res  (n : Int) (a : Int) (b : Int) : (spWithin).res [.d (.one (.int .i64 n)), .d (.one (.int .i64 a)), .d (.one (.int .i64 b))] = [.d (.one (.bool (decide (a ≤ n ∧ n ≤ b))))] := Spec.of_res spWithin_inj (n, a, b)
theorem spWithin_out  (n : Int) (a : Int) (b : Int) : (spWithin).out [.d (.one (.int .i64 n)), .d (.one (.int .i64 a)), .d (.one (.int .i64 b))] = [.gone, .gone, .gone] := Spec.of_out spWithin_inj (n, a, b)
theorem within_sound : Sound Go.Proofs.Tryd.prog 35 spWithin := by
  refine sound_fam GOK.nil Go.Proofs.Tryd.func35 (c := Go.Proofs.Tryd.f35.body.getD .skip) rfl (n := 15) rfl chk_within rs_within (fun _ => by simp) ?_ ?_
  · exact spWithin_inj
  · rintro ⟨n, a, b⟩ _
    simp only [x_within, go_sem, seval, rg]
    intro h; exact ⟨h, h⟩
noncomputable def spTextOk  : Spec := Spec.of (ι := ByteArray) [false] (fun i => [.d (.one (.str i))]) (fun i => lenB 140737488355328 i.size) (fun i => [.d (.one (.bool (decide (okS i))))]) (fun _ => [.gone])
theorem spTextOk_inj : ∀ i j : ByteArray, (fun (i : ByteArray) => ([.d (.one (.str i))] : List AV)) i = (fun (i : ByteArray) => ([.d (.one (.str i))] : List AV)) j → i = j := by
  intro s s' h
  simpa [strs_eq, T.enc_eq, encL_eq, F.enc_eq, encF_eq, Tk.enc_eq, encTk_eq, Gn.enc_eq, ints_eq] using h
theorem spTextOk_md  : (spTextOk).md = [false] := rfl
theorem spTextOk_pre  (s : ByteArray) : (spTextOk).pre [.d (.one (.str s))] = (lenB 140737488355328 s.size) := Spec.of_pre' spTextOk_inj s
theorem spTextOk_alts  : (spTextOk).alts = none := rfl
theorem spTextOk_res  (s : ByteArray) : (spTextOk).res [.d (.one (.str s))] = [.d (.one (.bool (decide (okS s))))] := Spec.of_res spTextOk_inj s
theorem spTextOk_out  (s : ByteArray) : (spTextOk).out [.d (.one (.str s))] = [.gone] := Spec.of_out spTextOk_inj s
theorem textOk_sound : Sound Go.Proofs.Tryd.prog 37 spTextOk := by
  refine sound_fam GOK.nil Go.Proofs.Tryd.func37 (c := Go.Proofs.Tryd.f37.body.getD .skip) rfl (n := 23) rfl chk_textOk rs_textOk (fun _ => by simp) ?_ ?_
  · exact spTextOk_inj
  · intro s h1
    simp only [lenB] at h1
    simp only [x_textOk, rg, go_sem, seval]
    refine pw_loop (ι := Nat) (fun i => s.size - i) (fun i => i ≤ s.size ∧ ∀ x ∈ s.data.toList.take i, letter x)
      (fun i => ⟨[(0, .q (.c (.str s))), (5, .q (.c (.int .i64 s.size))), (6, .q (.c (.int .i64 i)))], [], []⟩) 0 ⟨Nat.zero_le _, by simp⟩ (Le.refl _) ?_
    rintro i ⟨hi, hall⟩
    rcases Nat.lt_or_ge i s.size with hlt | hge
    · obtain ⟨x, hx, hb, hmem⟩ := byteAt_get hlt
      have a2 : ((i : Int) < (s.size : Int)) = True := by simp; omega
      simp only [go_sem, seval, rg, a2, hb]
      repeat' (first | with_reducible assumption | with_reducible refine And.intro ?_ ?_ | intro _)
      all_goals first | omega | skip
      · rename_i hc ho
        have := ho.1 x hmem
        unfold letter at this; omega
      · rename_i hc _
        refine ⟨i + 1, ⟨by omega, fun y hy => ?_⟩, by omega, Le.refl _⟩
        rw [List.take_add_one, hx] at hy
        rcases List.mem_append.1 hy with hy | hy
        · exact hall y hy
        · simp at hy; subst hy; unfold letter; omega
    · have a2 : ((i : Int) < (s.size : Int)) = False := by simp; omega
      simp only [go_sem, seval, a2]
      rw [decide_eq_decide]
      unfold okS
      rw [List.take_of_length_le (by simpa using hge)] at hall
      constructor
      · intro h; omega
      · intro h; exact ⟨hall, by omega⟩
noncomputable def spOkI (k:Nat) : Spec := Spec.of (ι := T × Int × Int) [false, false, true] (fun i => [.d (.agg i.1.enc), .d (.one (.int .i64 i.2.1)), .ref [.int .i64 i.2.2]]) (fun i => (i.1.fit 140737488355328 ∧ 0 ≤ i.2.1 ∧ i.2.1 ≤ 7 ∧ 0 ≤ i.2.2 ∧ i.2.2 ≤ 1000) ∧ SizeOf.sizeOf i.1 < k) (fun i => [.d (.one (.bool (decide ((okI i.1 i.2.1 i.2.2).1 = true))))]) (fun i => [.gone, .gone, .ref [.int .i64 (okI i.1 i.2.1 i.2.2).2]])
theorem spOkI_inj : ∀ i j : T × Int × Int, (fun (i : T × Int × Int) => ([.d (.agg i.1.enc), .d (.one (.int .i64 i.2.1)), .ref [.int .i64 i.2.2]] : List AV)) i = (fun (i : T × Int × Int) => ([.d (.agg i.1.enc), .d (.one (.int .i64 i.2.1)), .ref [.int .i64 i.2.2]] : List AV)) j → i = j := by
  rintro ⟨t, d, left⟩ ⟨t', d', left'⟩ h
  simp only [Prod.mk.injEq]
  simpa [strs_eq, T.enc_eq, encL_eq, F.enc_eq, encF_eq, Tk.enc_eq, encTk_eq, Gn.enc_eq, ints_eq] using h
theorem spOkI_md (k:Nat) : (spOkI k).md = [false, false, true] := rfl
theorem spOkI_pre (k:Nat) (t : T) (d : Int) (left : Int) : (spOkI k).pre [.d (.agg t.enc), .d (.one (.int .i64 d)), .ref [.int .i64 left]] = ((t.fit 140737488355328 ∧ 0 ≤ d ∧ d ≤ 7 ∧ 0 ≤ left ∧ left ≤ 1000) ∧ SizeOf.sizeOf t < k) := Spec.of_pre' spOkI_inj (t, d, left)
theorem spOkI_alts (k:Nat) : (spOkI k).alts = none := rfl
theorem spOkI_res (k:Nat) (t : T) (d : Int) (left : Int) : (spOkI k).res [.d (.agg t.enc), .d (.one (.int .i64 d)), .ref [.int .i64 left]] = [.d (.one (.bool (decide ((okI t d left).1 = true))))] := Spec.of_res spOkI_inj (t, d, left)
theorem spOkI_out (k:Nat) (t : T) (d : Int) (left : Int) : (spOkI k).out [.d (.agg t.enc), .d (.one (.int .i64 d)), .ref [.int .i64 left]] = [.gone, .gone, .ref [.int .i64 (okI t d left).2]] := Spec.of_out spOkI_inj (t, d, left)
set_option maxHeartbeats 1000000 in
theorem okI_sound (k : Nat) (hS : Sound Go.Proofs.Tryd.prog 47 (spOkI k)) : Sound Go.Proofs.Tryd.prog 47 (spOkI (k + 1)) := by
  refine sound_fam (GOK.cons (l := [(37, spTextOk), (47, spOkI k)]) call_within within_sound (GOK.cons call_textOk textOk_sound (GOK.cons call_ok hS GOK.nil))) Go.Proofs.Tryd.func47 (c := Go.Proofs.Tryd.f47.body.getD .skip) rfl (n := 134) rfl chk_ok rs_ok (fun _ => by simp) ?_ ?_
  · exact spOkI_inj
  · rintro ⟨t, d, left⟩ ⟨⟨h1, h2, h3, h3', h3''⟩, h4⟩
    obtain ⟨kk, n, s, ks, l⟩ := t
    simp only [T.fit, lenB, strsFit] at h1
    obtain ⟨_, _, f1, ⟨f2, f2'⟩, f3, f4⟩ := h1
    have e3 : SizeOf.sizeOf l < k := by have e : SizeOf.sizeOf (T.mk kk n s ks l) < k + 1 := h4
                                        rw [T.mk.sizeOf_spec] at e; omega
    simp only at h2 h3 h3' h3''
    have f1' : lenB 140737488355328 s.size := f1
    have hH : headOk kk n s ks l ↔ ((kk = 3 ∨ n = 0) ∧ (kk = 4 ∨ s = ⟨#[]⟩) ∧ (kk = 6 ∨ ks.length = 0) ∧ (5 ≤ kk ∨ l.length = 0) ∧ 0 ≤ kk ∧ kk ≤ 6 ∧ -1000000 ≤ n ∧ n ≤ 1000000 ∧ okS s ∧ (kk = 6 → ks.length = l.length) ∧ okKeys ks) := Iff.rfl
    have hneg : ¬ (1 ≤ left ∧ d ≤ 6 ∧ headOk kk n s ks l) → (okI (T.mk kk n s ks l) d left).1 = false ∧ left - 1 = (okI (T.mk kk n s ks l) d left).2 := fun h => by simp only [okI]; rw [if_neg h]; exact ⟨rfl, rfl⟩
    have hpos : (1 ≤ left ∧ d ≤ 6 ∧ headOk kk n s ks l) → okI (T.mk kk n s ks l) d left = okIL l (d + 1) (left - 1) := fun h => by simp only [okI]; rw [if_pos h]
    generalize hres : okI (T.mk kk n s ks l) d left = R at *
    clear hres
    simp only [x_ok, T.enc, go_sem, seval, rg, spWithin_md, spWithin_pre, spWithin_alts, spWithin_res, spWithin_out, spTextOk_md, spTextOk_pre, spTextOk_alts, spTextOk_res, spTextOk_out]
    repeat' (first | with_reducible assumption | with_reducible refine And.intro ?_ ?_ | intro _)
    all_goals first | omega | (grind; done) | skip
    have hb : okKeys ks → 1 ≤ left ∧ d ≤ 6 ∧ headOk kk n s ks l := by grind
    have hb' : ¬ okKeys ks → ¬ (1 ≤ left ∧ d ≤ 6 ∧ headOk kk n s ks l) := by grind
    have hd : 1 ≤ left ∧ d ≤ 6 := by omega
    clear hH
    repeat (rename_i hx; clear hx)
    refine pw_loop (ι := Nat) (fun i => ks.length - i) (fun i => i ≤ ks.length ∧ okKeysN ks i)
      (fun i => ⟨[(1, .q (.c (.int .i64 d))), (2, .q (.box 136 0)), (3, .q (.box 3 0)), (95, .q (.c (.row 1 (strs ks)))), (96, .q (.c (.int .i64 ks.length))), (97, .q (.c (.int .i64 i)))], [(136, [.c (.int .i64 (left - 1))]), (3, [.c (.int .i64 kk), .c (.int .i64 n), .c (.str s), .c (.row 1 (strs ks)), .c (.row 5 (encL l))])], []⟩) 0 ⟨Nat.zero_le _, okKeysN_zero ks⟩ (Le.refl _) ?_
    rintro i ⟨hi, hall⟩
    rcases Nat.lt_or_ge i ks.length with hlt | hge
    · obtain ⟨t, ht, _, hmem⟩ := drop_at hlt
      have a1 := strs_at ht
      have a2 : ((i : Int) < (ks.length : Int)) = True := by simp; omega
      have a3 : lenB 140737488355328 t.size := f2' t hmem
      have a5 : ((i : Int) - 1).toNat = i - 1 := by omega
      obtain ⟨s', a6, a7⟩ : ∃ s', (strs ks).getD (i - 1) [] = [C.str s'] ∧ ks[i - 1]? = some s' := by
        obtain ⟨s', hs', _, _⟩ := drop_at (l := ks) (i := i - 1) (by omega)
        exact ⟨s', strs_at hs', hs'⟩
      have hbad : ¬ okS t ∨ 0 < (i : Int) ∧ ¬ sl s' t → R.1 = false ∧ left - 1 = R.2 := fun h => hneg (hb' (fun ho => by
        rcases h with h | ⟨h, h'⟩
        · exact h (okKeys_at ho ht)
        · exact h' (okKeys_lt ho (by omega) a7 ht)))
      simp only [go_sem, seval, rg, a1, a2, a5, a6, spTextOk_md, spTextOk_pre, spTextOk_alts, spTextOk_res, spTextOk_out]
      repeat' (first | with_reducible assumption | with_reducible refine And.intro ?_ ?_ | intro _)
      all_goals first | omega | skip
      all_goals first | (rename_i hc; exact (hbad hc).2) | skip
      · rename_i hc hR
        rw [(hbad hc).1] at hR; cases hR
      · rename_i hc _
        refine ⟨i + 1, ⟨by omega, okKeysN_succ hall ht (Classical.byContradiction fun h => hc (.inl h)) (fun b hb hb' => ?_)⟩, by omega, Le.refl _⟩
        rw [a7] at hb'; cases hb'
        exact Classical.byContradiction fun h => hc (.inr ⟨by omega, h⟩)
    · have a2 : ((i : Int) < (ks.length : Int)) = False := by simp; omega
      have hie : i = ks.length := by omega
      subst hie
      have hpos' := hpos (hb hall)
      simp only [go_sem, seval, rg, a2]
      clear hneg hpos hb hb'
      refine pw_loop (ι := Nat × Int) (fun i => l.length - i.1) (fun i => i.1 ≤ l.length ∧ 0 ≤ i.2 ∧ i.2 ≤ left - 1 ∧ R = okIL (l.drop i.1) (d + 1) i.2)
        (fun i => ⟨[(1, .q (.c (.int .i64 d))), (2, .q (.box 136 0)), (121, .q (.c (.row 5 (encL l)))), (122, .q (.c (.int .i64 l.length))), (123, .q (.c (.int .i64 i.1)))], [(136, [.c (.int .i64 i.2)]), (3, [.c (.int .i64 kk), .c (.int .i64 n), .c (.str s), .c (.row 1 (strs ks)), .c (.row 5 (encL l))])], []⟩) (0, left - 1) ⟨Nat.zero_le _, by simp only; omega, by simp only; omega, by simpa using hpos'⟩ (Le.refl _) ?_
      rintro ⟨i, m⟩ ⟨hi, hm, hm', heq⟩
      simp only at hi hm hm' heq
      rcases Nat.lt_or_ge i l.length with hlt | hge
      · obtain ⟨t, ht, hdr, hmem⟩ := drop_at hlt
        have a1 := encL_at ht
        have a2 : ((i : Int) < (l.length : Int)) = True := by simp; omega
        have a3 := fitL_mem f4 t hmem
        have a4 := size_mem hmem
        have a6 := T.enc_len t
        have a7 := okI_le t (d + 1) m
        rw [hdr] at heq
        simp only [okIL] at heq
        simp only [go_sem, seval, rg, a1, a2, a6, spOkI_md, spOkI_pre, spOkI_alts, spOkI_res, spOkI_out]
        repeat' (first | with_reducible assumption | with_reducible refine And.intro ?_ ?_ | intro _)
        all_goals first | omega | skip
        · rename_i hc hR
          rw [if_neg hc] at heq
          rw [heq] at hR; cases hR
        · rename_i hc
          rw [if_neg hc] at heq
          rw [heq]
        · rename_i hc _
          rw [if_pos (Classical.not_not.1 hc)] at heq
          exact ⟨(i + 1, (okI t (d + 1) m).2), ⟨by simp only; omega, a7.2 (Classical.not_not.1 hc), by simp only; omega, heq⟩, by simp only; omega, Le.sub (fun _ h => h) (fun _ h => List.mem_append_left [_] h) (fun _ h => h)⟩
      · have a2 : ((i : Int) < (l.length : Int)) = False := by simp; omega
        rw [List.drop_eq_nil_of_le hge] at heq
        simp only [okIL] at heq
        subst heq
        simp only [go_sem, seval, rg, a2]
theorem okI_all : ∀ k, Sound Go.Proofs.Tryd.prog 47 (spOkI k) := fun k => Nat.rec Sound.none (fun k ih => okI_sound k ih) k
noncomputable def spOkIV  : Spec := Spec.of (ι := T × Int × Int) [false, false, true] (fun i => [.d (.agg i.1.enc), .d (.one (.int .i64 i.2.1)), .ref [.int .i64 i.2.2]]) (fun i => i.1.fit 140737488355328 ∧ 0 ≤ i.2.1 ∧ i.2.1 ≤ 7 ∧ 0 ≤ i.2.2 ∧ i.2.2 ≤ 1000) (fun i => [.d (.one (.bool (decide ((okI i.1 i.2.1 i.2.2).1 = true))))]) (fun i => [.gone, .gone, .ref [.int .i64 (okI i.1 i.2.1 i.2.2).2]])
theorem spOkIV_inj : ∀ i j : T × Int × Int, (fun (i : T × Int × Int) => ([.d (.agg i.1.enc), .d (.one (.int .i64 i.2.1)), .ref [.int .i64 i.2.2]] : List AV)) i = (fun (i : T × Int × Int) => ([.d (.agg i.1.enc), .d (.one (.int .i64 i.2.1)), .ref [.int .i64 i.2.2]] : List AV)) j → i = j := by
  rintro ⟨t, d, left⟩ ⟨t', d', left'⟩ h
  simp only [Prod.mk.injEq]
  simpa [strs_eq, T.enc_eq, encL_eq, F.enc_eq, encF_eq, Tk.enc_eq, encTk_eq, Gn.enc_eq, ints_eq] using h
theorem spOkIV_md  : (spOkIV).md = [false, false, true] := rfl
theorem spOkIV_pre  (t : T) (d : Int) (left : Int) : (spOkIV).pre [.d (.agg t.enc), .d (.one (.int .i64 d)), .ref [.int .i64 left]] = (t.fit 140737488355328 ∧ 0 ≤ d ∧ d ≤ 7 ∧ 0 ≤ left ∧ left ≤ 1000) := Spec.of_pre' spOkIV_inj (t, d, left)
theorem spOkIV_alts  : (spOkIV).alts = none := rfl
theorem spOkIV_res  (t : T) (d : Int) (left : Int) : (spOkIV).res [.d (.agg t.enc), .d (.one (.int .i64 d)), .ref [.int .i64 left]] = [.d (.one (.bool (decide ((okI t d left).1 = true))))] := Spec.of_res spOkIV_inj (t, d, left)
theorem spOkIV_out  (t : T) (d : Int) (left : Int) : (spOkIV).out [.d (.agg t.enc), .d (.one (.int .i64 d)), .ref [.int .i64 left]] = [.gone, .gone, .ref [.int .i64 (okI t d left).2]] := Spec.of_out spOkIV_inj (t, d, left)
theorem okIV_sound : Sound Go.Proofs.Tryd.prog 47 spOkIV := Sound.all (μ := fun i => SizeOf.sizeOf i.1) okI_all
noncomputable def spValOkI  : Spec := Spec.of (ι := T) [false] (fun i => [.d (.agg i.enc)]) (fun i => i.fit 140737488355328) (fun i => [.d (.one (.bool (decide ((okI i 1 60).1 = true))))]) (fun _ => [.gone])
theorem spValOkI_inj : ∀ i j : T, (fun (i : T) => ([.d (.agg i.enc)] : List AV)) i = (fun (i : T) => ([.d (.agg i.enc)] : List AV)) j → i = j := by
  intro t t' h
  simpa [strs_eq, T.enc_eq, encL_eq, F.enc_eq, encF_eq, Tk.enc_eq, encTk_eq, Gn.enc_eq, ints_eq] using h
theorem spValOkI_md  : (spValOkI).md = [false] := rfl
theorem spValOkI_pre  (t : T) : (spValOkI).pre [.d (.agg t.enc)] = (t.fit 140737488355328) := Spec.of_pre' spValOkI_inj t
theorem spValOkI_alts  : (spValOkI).alts = none := rfl
theorem spValOkI_res  (t : T) : (spValOkI).res [.d (.agg t.enc)] = [.d (.one (.bool (decide ((okI t 1 60).1 = true))))] := Spec.of_res spValOkI_inj t
theorem spValOkI_out  (t : T) : (spValOkI).out [.d (.agg t.enc)] = [.gone] := Spec.of_out spValOkI_inj t
theorem valOkI_sound : Sound Go.Proofs.Tryd.prog 38 spValOkI := by
  refine sound_fam (GOK.cons call_ok okIV_sound GOK.nil) Go.Proofs.Tryd.func38 (c := Go.Proofs.Tryd.f38.body.getD .skip) rfl (n := 6) rfl chk_ValOkI rs_ValOkI (fun _ => by simp) ?_ ?_
  · exact spValOkI_inj
  · intro t h1
    have a6 := T.enc_len t
    simp only [x_ValOkI, go_sem, seval, rg, a6, spOkIV_md, spOkIV_pre, spOkIV_alts, spOkIV_res, spOkIV_out]
    repeat' (first | with_reducible assumption | with_reducible refine And.intro ?_ ?_ | intro _)
    all_goals first | omega | skip
end Go.Proofs.Pw
/- What is a filter that is ok: the program's functions. -/
set_option linter.unusedSimpArgs false
set_option maxRecDepth 20000
namespace Go.Proofs.Pw
set_option linter.unusedSectionVars false
variable [Globs]
def x_looks : X := (.seq (.reg [⟨some 1, none, .box (.t 0) (some 9)⟩, ⟨some 2, none, .mv (.k (.c (.bool false)))⟩] none [1]) (.seq (.seq (.reg [⟨some 3, none, .fa (.t 1) 0⟩, ⟨some 4, none, .load (.t 3) none⟩] none [1, 4]) (.block 0 (.seq (.seq (.reg [⟨some 6, none, .bin false .eql (.t 4) (.k (.c (.int .i64 1)))⟩, ⟨some 5, none, .mv (.t 6)⟩] none [1, 4, 5]) (.cond (.t 5) .skip (.seq (.reg [⟨some 7, none, .bin false .eql (.t 4) (.k (.c (.int .i64 3)))⟩, ⟨some 5, none, .mv (.t 7)⟩] none [1, 4, 5]) (.cond (.t 5) .skip (.seq (.reg [⟨some 8, none, .bin false .eql (.t 4) (.k (.c (.int .i64 4)))⟩, ⟨some 5, none, .mv (.t 8)⟩] none [1, 4, 5]) (.cond (.t 5) .skip (.seq (.reg [⟨some 9, none, .bin false .eql (.t 4) (.k (.c (.int .i64 5)))⟩, ⟨some 5, none, .mv (.t 9)⟩] none [1, 4, 5]) (.cond (.t 5) .skip (.reg [⟨some 10, none, .bin false .eql (.t 4) (.k (.c (.int .i64 18)))⟩, ⟨some 5, none, .mv (.t 10)⟩] none [1, 4, 5]))))))))) (.cond (.t 5) (.seq (.reg [⟨some 2, none, .mv (.k (.c (.bool true)))⟩] none [2]) .ret) (.seq (.seq (.reg [⟨some 12, none, .bin false .eql (.t 4) (.k (.c (.int .i64 6)))⟩, ⟨some 11, none, .mv (.t 12)⟩] none [1, 4, 11]) (.cond (.t 11) .skip (.reg [⟨some 13, none, .bin false .eql (.t 4) (.k (.c (.int .i64 7)))⟩, ⟨some 11, none, .mv (.t 13)⟩] none [1, 4, 11]))) (.cond (.t 11) (.seq (.reg [⟨some 14, none, .fa (.t 1) 8⟩, ⟨some 15, none, .load (.t 14) none⟩, ⟨some 16, none, .ia (.t 15) (.k (.c (.int .i64 0))) 9⟩, ⟨some 17, none, .load (.t 16) (some 9)⟩, ⟨some 18, none, .call 39 [(.t 17)]⟩, ⟨some 19, none, .mv (.t 18)⟩, ⟨some 20, some (19, true), .fa (.t 1) 8⟩, ⟨some 21, some (19, true), .load (.t 20) none⟩, ⟨some 22, some (19, true), .ia (.t 21) (.k (.c (.int .i64 1))) 9⟩, ⟨some 23, some (19, true), .load (.t 22) (some 9)⟩, ⟨some 24, some (19, true), .call 39 [(.t 23)]⟩, ⟨some 25, none, .pick (.t 19) (.t 24) (.k (.c (.bool false)))⟩, ⟨some 2, none, .mv (.t 25)⟩] none [2]) .ret) (.seq (.reg [⟨some 27, none, .bin false .eql (.t 4) (.k (.c (.int .i64 8)))⟩, ⟨some 26, none, .mv (.t 27)⟩] none [1, 26]) (.cond (.t 26) (.seq (.reg [⟨some 28, none, .fa (.t 1) 8⟩, ⟨some 29, none, .load (.t 28) none⟩, ⟨some 30, none, .ia (.t 29) (.k (.c (.int .i64 1))) 9⟩, ⟨some 31, none, .load (.t 30) (some 9)⟩, ⟨some 32, none, .call 39 [(.t 31)]⟩, ⟨some 33, none, .mv (.t 32)⟩, ⟨some 34, some (33, true), .fa (.t 1) 8⟩, ⟨some 35, some (33, true), .load (.t 34) none⟩, ⟨some 36, some (33, true), .ia (.t 35) (.k (.c (.int .i64 2))) 9⟩, ⟨some 37, some (33, true), .load (.t 36) (some 9)⟩, ⟨some 38, some (33, true), .call 39 [(.t 37)]⟩, ⟨some 39, none, .pick (.t 33) (.t 38) (.k (.c (.bool false)))⟩, ⟨some 2, none, .mv (.t 39)⟩] none [2]) .ret) .skip)))))))) (.seq (.reg [⟨some 2, none, .mv (.k (.c (.bool false)))⟩] none [2]) .ret)))
theorem chk_looks : chkX Go.Proofs.Tryd.prog 40 (Go.Proofs.Tryd.f39.body.getD .skip) x_looks = true := by kernel_rfl
theorem rs_looks : okRs Go.Proofs.Tryd.prog Go.Proofs.Tryd.f39.results.toList [.tmp 2] = true := by kernel_rfl
theorem call_looks : okCallee Go.Proofs.Tryd.prog 39 = true := by kernel_rfl
def x_okF : X := (.seq (.reg [⟨some 3, none, .box (.t 0) (some 9)⟩, ⟨some 6, none, .mv (.k (.c (.bool false)))⟩] none [1, 2, 3]) (.seq (.reg [⟨some 10, none, .mv (.t 2)⟩, ⟨some 11, none, .nilc (.t 10)⟩, ⟨some 12, none, .load (.t 11) none⟩, ⟨some 13, none, .bin false .sub (.t 12) (.k (.c (.int .i64 1)))⟩, ⟨some 14, none, .nilc (.t 10)⟩, ⟨none, none, .st (.t 14) (.t 13) none⟩] none [1, 2, 3]) (.seq (.seq (.reg [⟨some 15, none, .mv (.t 2)⟩, ⟨some 16, none, .nilc (.t 15)⟩, ⟨some 17, none, .load (.t 16) none⟩, ⟨some 18, none, .bin false .lss (.t 17) (.k (.c (.int .i64 0)))⟩, ⟨some 19, none, .mv (.t 18)⟩, ⟨some 20, some (19, false), .mv (.t 1)⟩, ⟨some 21, some (19, false), .bin false .gtr (.t 20) (.k (.c (.int .i64 7)))⟩, ⟨some 22, none, .pick (.t 19) (.k (.c (.bool true))) (.t 21)⟩, ⟨some 23, none, .mv (.t 22)⟩, ⟨some 24, some (23, false), .fa (.t 3) 0⟩, ⟨some 25, some (23, false), .load (.t 24) none⟩, ⟨some 26, some (23, false), .call 35 [(.t 25), (.k (.c (.int .i64 1))), (.k (.c (.int .i64 21)))]⟩, ⟨some 27, some (23, false), .not (.t 26)⟩, ⟨some 28, none, .pick (.t 23) (.k (.c (.bool true))) (.t 27)⟩, ⟨some 29, none, .mv (.t 28)⟩, ⟨some 30, some (29, false), .fa (.t 3) 8⟩, ⟨some 31, some (29, false), .load (.t 30) none⟩, ⟨some 32, some (29, false), .len (.t 31) false⟩, ⟨some 33, some (29, false), .glb 0⟩, ⟨some 34, some (29, false), .fa (.t 3) 0⟩, ⟨some 35, some (29, false), .load (.t 34) none⟩, ⟨some 36, some (29, false), .ia (.t 33) (.t 35) 1⟩, ⟨some 37, some (29, false), .load (.t 36) none⟩, ⟨some 38, some (29, false), .bin false .neq (.t 32) (.t 37)⟩, ⟨some 39, none, .pick (.t 29) (.k (.c (.bool true))) (.t 38)⟩] (some 23) [1, 2, 3, 39]) (.cond (.t 39) (.seq (.reg [⟨some 6, none, .mv (.k (.c (.bool false)))⟩] none [6]) .ret) .skip)) (.seq (.reg [⟨some 40, none, .fa (.t 3) 0⟩, ⟨some 41, none, .load (.t 40) none⟩, ⟨some 42, none, .bin false .eql (.t 41) (.k (.c (.int .i64 3)))⟩, ⟨some 43, none, .mv (.t 42)⟩, ⟨some 44, some (43, false), .fa (.t 3) 0⟩, ⟨some 45, some (43, false), .load (.t 44) none⟩, ⟨some 46, some (43, false), .bin false .eql (.t 45) (.k (.c (.int .i64 21)))⟩, ⟨some 47, none, .pick (.t 43) (.k (.c (.bool true))) (.t 46)⟩, ⟨some 7, none, .mv (.t 47)⟩] none [1, 2, 3, 7]) (.seq (.seq (.reg [⟨some 48, none, .fa (.t 3) 0⟩, ⟨some 49, none, .load (.t 48) none⟩, ⟨some 50, none, .bin false .neq (.t 49) (.k (.c (.int .i64 4)))⟩, ⟨some 51, none, .mv (.t 50)⟩, ⟨some 52, some (51, true), .fa (.t 3) 1⟩, ⟨some 53, some (51, true), .load (.t 52) none⟩, ⟨some 54, some (51, true), .bin false .neq (.t 53) (.k (.c (.int .i64 0)))⟩, ⟨some 55, none, .pick (.t 51) (.t 54) (.k (.c (.bool false)))⟩, ⟨some 56, none, .mv (.t 55)⟩, ⟨some 57, some (56, false), .mv (.t 7)⟩, ⟨some 58, some (56, false), .not (.t 57)⟩, ⟨some 59, some (56, false), .mv (.t 58)⟩, ⟨some 60, some (59, true), .fa (.t 3) 2⟩, ⟨some 61, some (59, true), .load (.t 60) none⟩, ⟨some 62, some (59, true), .bin false .neq (.t 61) (.k (.c (.str ⟨#[]⟩)))⟩, ⟨some 63, some (56, false), .pick (.t 59) (.t 62) (.k (.c (.bool false)))⟩, ⟨some 64, none, .pick (.t 56) (.k (.c (.bool true))) (.t 63)⟩, ⟨some 65, none, .mv (.t 64)⟩, ⟨some 66, some (65, false), .fa (.t 3) 0⟩, ⟨some 67, some (65, false), .load (.t 66) none⟩, ⟨some 68, some (65, false), .bin false .neq (.t 67) (.k (.c (.int .i64 2)))⟩, ⟨some 69, some (65, false), .mv (.t 68)⟩, ⟨some 70, some (69, true), .fa (.t 3) 3⟩, ⟨some 71, some (69, true), .load (.t 70) (some 5)⟩, ⟨some 72, some (69, true), .call 36 [(.t 71)]⟩, ⟨some 73, some (69, true), .not (.t 72)⟩, ⟨some 74, some (65, false), .pick (.t 69) (.t 73) (.k (.c (.bool false)))⟩, ⟨some 75, none, .pick (.t 65) (.k (.c (.bool true))) (.t 74)⟩] none [1, 2, 3, 75]) (.cond (.t 75) (.seq (.reg [⟨some 6, none, .mv (.k (.c (.bool false)))⟩] none [6]) .ret) .skip)) (.seq (.seq (.reg [⟨some 76, none, .fa (.t 3) 1⟩, ⟨some 77, none, .load (.t 76) none⟩, ⟨some 78, none, .call 35 [(.t 77), (.k (.c (.int .i64 (-60)))), (.k (.c (.int .i64 59)))]⟩, ⟨some 79, none, .not (.t 78)⟩, ⟨some 80, none, .mv (.t 79)⟩, ⟨some 81, some (80, false), .fa (.t 3) 2⟩, ⟨some 82, some (80, false), .load (.t 81) none⟩, ⟨some 83, some (80, false), .call 37 [(.t 82)]⟩, ⟨some 84, some (80, false), .not (.t 83)⟩, ⟨some 85, none, .pick (.t 80) (.k (.c (.bool true))) (.t 84)⟩, ⟨some 86, none, .mv (.t 85)⟩, ⟨some 87, some (86, false), .fa (.t 3) 3⟩, ⟨some 88, some (86, false), .load (.t 87) (some 5)⟩, ⟨some 89, some (86, false), .call 38 [(.t 88)]⟩, ⟨some 90, some (86, false), .not (.t 89)⟩, ⟨some 91, none, .pick (.t 86) (.k (.c (.bool true))) (.t 90)⟩] none [1, 2, 3, 91]) (.cond (.t 91) (.seq (.reg [⟨some 6, none, .mv (.k (.c (.bool false)))⟩] none [6]) .ret) .skip)) (.seq (.seq (.reg [⟨some 92, none, .fa (.t 3) 8⟩, ⟨some 93, none, .load (.t 92) none⟩, ⟨some 94, none, .len (.t 93) false⟩, ⟨some 95, none, .mv (.k (.c (.int .i64 0)))⟩] none [1, 2, 3, 93, 94, 95]) (.block 0 (.loop (.seq (.reg [⟨some 96, none, .bin false .lss (.t 95) (.t 94)⟩] none [1, 2, 3, 93, 94, 95, 96]) (.seq (.cond (.t 96) .skip (.exit 0)) (.seq (.block 1 (.seq (.reg [⟨some 97, none, .ia (.t 93) (.t 95) 9⟩, ⟨some 98, none, .load (.t 97) (some 9)⟩, ⟨some 9, none, .alloc [(.c (.int .i64 0)), (.c (.int .i64 0)), (.c (.str ⟨#[]⟩)), (.c (.int .i64 0)), (.c (.int .i64 0)), (.c (.str ⟨#[]⟩)), (.z 1), (.z 5), (.z 9)]⟩, ⟨none, none, .st (.t 9) (.t 98) (some 9)⟩] none [1, 2, 3, 9, 93, 94, 95]) (.seq (.reg [⟨some 99, none, .load (.t 9) (some 9)⟩, ⟨some 100, none, .mv (.t 1)⟩, ⟨some 101, none, .bin false .add (.t 100) (.k (.c (.int .i64 1)))⟩, ⟨some 102, none, .mv (.t 2)⟩, ⟨some 103, none, .call 21 [(.t 99), (.t 101), (.t 102)]⟩, ⟨some 104, none, .not (.t 103)⟩] none [1, 2, 3, 93, 94, 95, 104]) (.cond (.t 104) (.seq (.reg [⟨some 6, none, .mv (.k (.c (.bool false)))⟩] none [6]) .ret) .skip)))) (.reg [⟨some 105, none, .bin false .add (.t 95) (.k (.c (.int .i64 1)))⟩, ⟨some 95, none, .mv (.t 105)⟩] none [1, 2, 3, 93, 94, 95]))))))) (.seq (.reg [⟨some 106, none, .fa (.t 3) 0⟩, ⟨some 107, none, .load (.t 106) none⟩, ⟨some 108, none, .bin false .neq (.t 107) (.k (.c (.int .i64 20)))⟩, ⟨some 109, none, .mv (.t 108)⟩, ⟨some 110, some (109, false), .fa (.t 3) 8⟩, ⟨some 111, some (109, false), .load (.t 110) none⟩, ⟨some 112, some (109, false), .ia (.t 111) (.k (.c (.int .i64 0))) 9⟩, ⟨some 113, some (109, false), .load (.t 112) (some 9)⟩, ⟨some 114, some (109, false), .call 39 [(.t 113)]⟩, ⟨some 115, none, .pick (.t 109) (.k (.c (.bool true))) (.t 114)⟩, ⟨some 6, none, .mv (.t 115)⟩] none [6]) .ret))))))))
theorem chk_okF : chkX Go.Proofs.Tryd.prog 116 (Go.Proofs.Tryd.f21.body.getD .skip) x_okF = true := by kernel_rfl
theorem rs_okF : okRs Go.Proofs.Tryd.prog Go.Proofs.Tryd.f21.results.toList [.tmp 6] = true := by kernel_rfl
theorem call_okF : okCallee Go.Proofs.Tryd.prog 21 = true := by kernel_rfl
def x_FiltOkI : X := (.seq (.reg [⟨some 1, none, .box (.t 0) (some 9)⟩, ⟨some 2, none, .mv (.k (.c (.bool false)))⟩] none [1]) (.seq (.reg [⟨some 3, none, .alloc [(.c (.int .i64 0))]⟩, ⟨none, none, .st (.t 3) (.k (.c (.int .i64 16))) none⟩] none [1, 3]) (.seq (.reg [⟨some 4, none, .load (.t 1) (some 9)⟩, ⟨some 5, none, .call 21 [(.t 4), (.k (.c (.int .i64 1))), (.t 3)]⟩, ⟨some 2, none, .mv (.t 5)⟩] none [2]) .ret)))
theorem chk_FiltOkI : chkX Go.Proofs.Tryd.prog 6 (Go.Proofs.Tryd.f11.body.getD .skip) x_FiltOkI = true := by kernel_rfl
theorem rs_FiltOkI : okRs Go.Proofs.Tryd.prog Go.Proofs.Tryd.f11.results.toList [.tmp 2] = true := by kernel_rfl
theorem call_FiltOkI : okCallee Go.Proofs.Tryd.prog 11 = true := by kernel_rfl
noncomputable def spLook (k:Nat) : Spec := Spec.of (ι := F) [false] (fun i => [.d (.agg i.enc)]) (fun i => (i.fit 140737488355328 ∧ kindedF i) ∧ SizeOf.sizeOf i < k) (fun i => [.d (.one (.bool (decide (wayF i))))]) (fun _ => [.gone])
theorem spLook_inj : ∀ i j : F, (fun (i : F) => ([.d (.agg i.enc)] : List AV)) i = (fun (i : F) => ([.d (.agg i.enc)] : List AV)) j → i = j := by
  intro t t' h
  simpa [strs_eq, T.enc_eq, encL_eq, F.enc_eq, encF_eq, Tk.enc_eq, encTk_eq, Gn.enc_eq, ints_eq] using h
theorem spLook_md (k:Nat) : (spLook k).md = [false] := rfl
theorem spLook_pre (k:Nat) (t : F) : (spLook k).pre [.d (.agg t.enc)] = ((t.fit 140737488355328 ∧ kindedF t) ∧ SizeOf.sizeOf t < k) := Spec.of_pre' spLook_inj t
theorem spLook_alts (k:Nat) : (spLook k).alts = none := rfl
theorem spLook_res (k:Nat) (t : F) : (spLook k).res [.d (.agg t.enc)] = [.d (.one (.bool (decide (wayF t))))] := Spec.of_res spLook_inj t
theorem spLook_out (k:Nat) (t : F) : (spLook k).out [.d (.agg t.enc)] = [.gone] := Spec.of_out spLook_inj t
theorem looks_sound (k : Nat) (hS : Sound Go.Proofs.Tryd.prog 39 (spLook k)) : Sound Go.Proofs.Tryd.prog 39 (spLook (k + 1)) := by
  refine sound_fam (GOK.cons call_looks hS GOK.nil) Go.Proofs.Tryd.func39 (c := Go.Proofs.Tryd.f39.body.getD .skip) rfl (n := 40) rfl chk_looks rs_looks (fun _ => by simp) ?_ ?_
  · exact spLook_inj
  · rintro t ⟨⟨h1, h2⟩, h4⟩
    obtain ⟨kk, n, s, v, l⟩ := t
    obtain ⟨vk, vn, vs, vks, vl⟩ := v
    simp only [F.fit, kindedF] at h1 h2
    obtain ⟨_, _, f1, f2, f3, f4⟩ := h1
    obtain ⟨g1, g2⟩ := h2
    generalize hv : T.mk vk vn vs vks vl = v at *
    have e3 : SizeOf.sizeOf l < k := by have e : SizeOf.sizeOf (F.mk kk n s v l) < k + 1 := h4
                                        rw [F.mk.sizeOf_spec] at e; omega
    clear h4
    have e6 : v.enc = [.int .i64 vk, .int .i64 vn, .str vs, .row 1 (strs vks), .row 5 (encL vl)] := by rw [← hv]; rfl
    have hF : wayF (F.mk kk n s v l) ↔ ((kk = 1 ∨ kk = 3 ∨ kk = 4 ∨ kk = 5 ∨ kk = 18) ∨ ((kk = 6 ∨ kk = 7) ∧ wayL l 0 ∧ wayL l 1) ∨ (kk = 8 ∧ wayL l 1 ∧ wayL l 2)) := by simp only [wayF]
    have hk2 : kk = 6 ∨ kk = 7 → l.length = 2 := fun h => by
      have : kidsOf kk = 2 := by rcases h with rfl | rfl <;> decide
      omega
    have hk3 : kk = 8 → l.length = 3 := fun h => by
      have : kidsOf kk = 3 := by subst h; decide
      omega
    by_cases hz : 2 ≤ l.length
    · obtain ⟨x0, i0, _, m0⟩ := drop_at (l := l) (i := 0) (by omega)
      obtain ⟨x1, i1, _, m1⟩ := drop_at (l := l) (i := 1) (by omega)
      have a0 := encF_at i0
      have a1 := encF_at i1
      have w0 := wayL_at i0
      have w1 := wayL_at i1
      have l0 := F.enc_len x0
      have l1 := F.enc_len x1
      have s0 := size_mem m0
      have s1 := size_mem m1
      have t0 := fitF_mem f4 x0 m0
      have t1 := fitF_mem f4 x1 m1
      have u0 := kindedL_mem.1 g2 x0 m0
      have u1 := kindedL_mem.1 g2 x1 m1
      have z0 : (0 : Int).toNat = 0 := rfl
      have z1 : (1 : Int).toNat = 1 := rfl
      have z2 : (2 : Int).toNat = 2 := rfl
      by_cases h3 : 3 ≤ l.length
      · obtain ⟨x2, i2, _, m2⟩ := drop_at (l := l) (i := 2) (by omega)
        have a2 := encF_at i2
        have w2 := wayL_at i2
        have l2 := F.enc_len x2
        have s2 := size_mem m2
        have t2 := fitF_mem f4 x2 m2
        have u2 := kindedL_mem.1 g2 x2 m2
        rw [w0, w1, w2] at hF
        simp only [x_looks, F.enc, e6, go_sem, seval, rg, z0, z1, z2, a0, a1, a2, l0, l1, l2, spLook_md, spLook_pre, spLook_alts, spLook_res, spLook_out]
        repeat' (first | with_reducible assumption | with_reducible refine And.intro ?_ ?_ | intro _)
        all_goals first | omega | (grind; done) | skip
      · have h8 : (kk = 8) = False := by simp; intro h; have := hk3 h; omega
        rw [w0, w1] at hF
        simp only [x_looks, F.enc, e6, go_sem, seval, rg, z0, z1, z2, a0, a1, l0, l1, h8, spLook_md, spLook_pre, spLook_alts, spLook_res, spLook_out]
        repeat' (first | with_reducible assumption | with_reducible refine And.intro ?_ ?_ | intro _)
        all_goals first | omega | (grind; done) | skip
    · have h6 : (kk = 6) = False := by simp; intro h; have := hk2 (.inl h); omega
      have h7 : (kk = 7) = False := by simp; intro h; have := hk2 (.inr h); omega
      have h8 : (kk = 8) = False := by simp; intro h; have := hk3 h; omega
      simp only [x_looks, F.enc, e6, go_sem, seval, rg, h6, h7, h8]
      repeat' (first | with_reducible assumption | with_reducible refine And.intro ?_ ?_ | intro _)
      all_goals first | omega | (grind; done) | skip
theorem look_all : ∀ k, Sound Go.Proofs.Tryd.prog 39 (spLook k) := fun k => Nat.rec Sound.none (fun k ih => looks_sound k ih) k
/-- As it is asked where there may be none. -/
noncomputable def spLookD : Spec := Spec.of (ι := Option F) [false] (fun i => match i with | some t => [.d (.agg t.enc)] | none => [.d (.agg [])]) (fun i => match i with | some t => t.fit 140737488355328 ∧ kindedF t | none => False) (fun i => match i with | some t => [.d (.one (.bool (decide (wayF t))))] | none => [.d (.one (.bool (decide False)))]) (fun _ => [.gone])
theorem spLookD_inj : ∀ i j : Option F, (fun i : Option F => (match i with | some t => [.d (.agg t.enc)] | none => [.d (.agg [])] : List AV)) i = (fun i : Option F => (match i with | some t => [.d (.agg t.enc)] | none => [.d (.agg [])] : List AV)) j → i = j := by
  intro i j h
  cases i with
  | none =>
    cases j with
    | none => rfl
    | some t => have := congrArg List.length (show [] = t.enc by simpa using h); rw [F.enc_len] at this; simp at this
  | some t =>
    cases j with
    | none => have := congrArg List.length (show t.enc = [] by simpa using h); rw [F.enc_len] at this; simp at this
    | some t' => simpa [F.enc_eq] using h
theorem spLookD_md : spLookD.md = [false] := rfl
theorem spLookD_alts : spLookD.alts = none := rfl
theorem spLookD_pre (t : F) : spLookD.pre [.d (.agg t.enc)] = (t.fit 140737488355328 ∧ kindedF t) := Spec.of_pre' spLookD_inj (some t)
theorem spLookD_res (t : F) : spLookD.res [.d (.agg t.enc)] = [.d (.one (.bool (decide (wayF t))))] := Spec.of_res spLookD_inj (some t)
theorem spLookD_out (t : F) : spLookD.out [.d (.agg t.enc)] = [.gone] := Spec.of_out spLookD_inj (some t)
theorem spLookD_pre0 : spLookD.pre [.d (.agg [])] = False := Spec.of_pre' spLookD_inj none
theorem spLookD_res0 : spLookD.res [.d (.agg [])] = [.d (.one (.bool (decide False)))] := Spec.of_res spLookD_inj none
theorem spLookD_out0 : spLookD.out [.d (.agg [])] = [.gone] := Spec.of_out spLookD_inj none
theorem lookD_sound : Sound Go.Proofs.Tryd.prog 39 spLookD := by
  rintro ds ⟨i, rfl, hi⟩ w S vs fps hG hS hF ha hA
  cases i with
  | none => exact hi.elim
  | some t =>
    have hp : (spLook (SizeOf.sizeOf t + 1)).pre [.d (.agg t.enc)] := by
      rw [spLook_pre]; exact ⟨hi, Nat.lt_succ_self _⟩
    refine (look_all (SizeOf.sizeOf t + 1) [.d (.agg t.enc)] hp w S vs fps hG hS hF ha hA).mono ?_
    rintro e w' ⟨r, o, hro, rest⟩
    obtain ⟨rfl, rfl⟩ := (Spec.may_none rfl).1 hro
    rw [spLook_res, spLook_out] at rest
    exact ⟨_, _, (Spec.may_none rfl).2 ⟨(spLookD_res t).symm, (spLookD_out t).symm⟩, rest⟩
noncomputable def spOkFI (k:Nat) : Spec := Spec.of (ι := F × Int × Int) [false, false, true] (fun i => [.d (.agg i.1.enc), .d (.one (.int .i64 i.2.1)), .ref [.int .i64 i.2.2]]) (fun i => (i.1.fit 140737488355328 ∧ 0 ≤ i.2.1 ∧ i.2.1 ≤ 8 ∧ 0 ≤ i.2.2 ∧ i.2.2 ≤ 1000) ∧ SizeOf.sizeOf i.1 < k) (fun i => [.d (.one (.bool (decide ((okFI i.1 i.2.1 i.2.2).1 = true))))]) (fun i => [.gone, .gone, .ref [.int .i64 (okFI i.1 i.2.1 i.2.2).2]])
theorem spOkFI_inj : ∀ i j : F × Int × Int, (fun (i : F × Int × Int) => ([.d (.agg i.1.enc), .d (.one (.int .i64 i.2.1)), .ref [.int .i64 i.2.2]] : List AV)) i = (fun (i : F × Int × Int) => ([.d (.agg i.1.enc), .d (.one (.int .i64 i.2.1)), .ref [.int .i64 i.2.2]] : List AV)) j → i = j := by
  rintro ⟨t, d, left⟩ ⟨t', d', left'⟩ h
  simp only [Prod.mk.injEq]
  simpa [strs_eq, T.enc_eq, encL_eq, F.enc_eq, encF_eq, Tk.enc_eq, encTk_eq, Gn.enc_eq, ints_eq] using h
theorem spOkFI_md (k:Nat) : (spOkFI k).md = [false, false, true] := rfl
theorem spOkFI_pre (k:Nat) (t : F) (d : Int) (left : Int) : (spOkFI k).pre [.d (.agg t.enc), .d (.one (.int .i64 d)), .ref [.int .i64 left]] = ((t.fit 140737488355328 ∧ 0 ≤ d ∧ d ≤ 8 ∧ 0 ≤ left ∧ left ≤ 1000) ∧ SizeOf.sizeOf t < k) := Spec.of_pre' spOkFI_inj (t, d, left)
theorem spOkFI_alts (k:Nat) : (spOkFI k).alts = none := rfl
theorem spOkFI_res (k:Nat) (t : F) (d : Int) (left : Int) : (spOkFI k).res [.d (.agg t.enc), .d (.one (.int .i64 d)), .ref [.int .i64 left]] = [.d (.one (.bool (decide ((okFI t d left).1 = true))))] := Spec.of_res spOkFI_inj (t, d, left)
theorem spOkFI_out (k:Nat) (t : F) (d : Int) (left : Int) : (spOkFI k).out [.d (.agg t.enc), .d (.one (.int .i64 d)), .ref [.int .i64 left]] = [.gone, .gone, .ref [.int .i64 (okFI t d left).2]] := Spec.of_out spOkFI_inj (t, d, left)
set_option maxHeartbeats 2000000 in
theorem okFI_sound (hG : get? 0 Globs.G = some ktabC) (k : Nat) (hS : Sound Go.Proofs.Tryd.prog 21 (spOkFI k)) : Sound Go.Proofs.Tryd.prog 21 (spOkFI (k + 1)) := by
  refine sound_fam (GOK.cons (l := [(37, spTextOk), (38, spValOkI), (36, spNone), (39, spLookD), (21, spOkFI k)]) call_within within_sound (GOK.cons call_textOk textOk_sound (GOK.cons call_ValOkI valOkI_sound (GOK.cons call_noneI none_sound (GOK.cons call_looks lookD_sound (GOK.cons call_okF hS GOK.nil)))))) Go.Proofs.Tryd.func21 (c := Go.Proofs.Tryd.f21.body.getD .skip) rfl (n := 116) rfl chk_okF rs_okF (fun _ => by simp) ?_ ?_
  · exact spOkFI_inj
  · rintro ⟨t, d, left⟩ ⟨⟨h1, h2, h3, h3', h3''⟩, h4⟩
    obtain ⟨kk, n, s, v, l⟩ := t
    obtain ⟨vk, vn, vs, vks, vl⟩ := v
    simp only [F.fit] at h1
    obtain ⟨_, _, f1, f2, f3, f4⟩ := h1
    simp only at h2 h3 h3' h3''
    generalize hv : T.mk vk vn vs vks vl = v at *
    have e3 : SizeOf.sizeOf l < k := by have e : SizeOf.sizeOf (F.mk kk n s v l) < k + 1 := h4
                                        rw [F.mk.sizeOf_spec] at e; omega
    clear h4
    have e6 : v.enc = [.int .i64 vk, .int .i64 vn, .str vs, .row 1 (strs vks), .row 5 (encL vl)] := by rw [← hv]; rfl
    have hH : headF kk n s v l ↔ (1 ≤ kk ∧ kk ≤ 21 ∧ kidsOf kk = l.length ∧ ((kk = 4 ∨ n = 0) ∧ ((kk = 3 ∨ kk = 21) ∨ s = ⟨#[]⟩) ∧ (kk = 2 ∨ v = T.zero)) ∧ -60 ≤ n ∧ n ≤ 59 ∧ okS s ∧ (okI v 1 60).1 = true) := Iff.rfl
    have hneg : ¬ (1 ≤ left ∧ d ≤ 7 ∧ headF kk n s v l) → (okFI (F.mk kk n s v l) d left).1 = false ∧ left - 1 = (okFI (F.mk kk n s v l) d left).2 := fun h => by simp only [okFI]; rw [if_neg h]; exact ⟨rfl, rfl⟩
    have hpos : (1 ≤ left ∧ d ≤ 7 ∧ headF kk n s v l) → okFI (F.mk kk n s v l) d left = (if (okFIL l (d + 1) (left - 1)).1 = true then (decide (kk = 20 → wayL l 0), (okFIL l (d + 1) (left - 1)).2) else (false, (okFIL l (d + 1) (left - 1)).2)) := fun h => by simp only [okFI]; rw [if_pos h]
    generalize hres : okFI (F.mk kk n s v l) d left = R at *
    clear hres
    have p1 := spNone_pre v
    have p2 := spNone_res v
    have p3 := spNone_out v
    have q1 := spValOkI_pre v
    have q2 := spValOkI_res v
    have q3 := spValOkI_out v
    rw [e6] at p1 p2 p3 q1 q2 q3
    obtain ⟨m, hm, hmk⟩ : ∃ m, ((ktab.map fun m => [C.int .i64 m]).getD kk.toNat []).getD 0 (.int .i64 0) = C.int .i64 m ∧ (1 ≤ kk ∧ kk ≤ 21 → m = kidsOf kk ∧ 0 < ((ktab.map fun m => [C.int .i64 m]).getD kk.toNat []).length ∧ kk.toNat < 22) := by
      by_cases h : kk.toNat < 22
      · rw [ktab_at h]
        refine ⟨_, rfl, fun h' => ⟨?_, by simp, h⟩⟩
        have := ktab_kids ⟨kk.toNat, h⟩ (by simp only; omega)
        simp only at this
        rw [this]; congr 1; omega
      · rw [ktab_out h]
        exact ⟨0, rfl, fun h' => by omega⟩
    have hm' := hm
    have hlen := ktab_len
    simp only [x_okF, F.enc, e6, go_sem, seval, rg, hG, ktabC, hm', hlen, spWithin_md, spWithin_pre, spWithin_alts, spWithin_res, spWithin_out, spTextOk_md, spTextOk_pre, spTextOk_alts, spTextOk_res, spTextOk_out, spNone_md, spNone_alts, p1, p2, p3, spValOkI_md, spValOkI_alts, q1, q2, q3]
    repeat' (first | with_reducible assumption | with_reducible refine And.intro ?_ ?_ | intro _)
    all_goals first | omega | (grind; done) | skip
    have hh : 1 ≤ left ∧ d ≤ 7 ∧ headF kk n s v l := by grind
    have hpos' := hpos hh
    have hk : kk = 20 → l.length = 2 := fun h => by
      have e : kidsOf kk = 2 := by subst h; decide
      have := hh.2.2.2.2.1
      omega
    have hd : 1 ≤ left ∧ d ≤ 7 := ⟨hh.1, hh.2.1⟩
    clear hH hneg hpos p1 p2 p3 q1 q2 q3 hm hm' hmk hlen hh
    repeat (rename_i hx; clear hx)
    refine pw_loop (ι := Nat × Int) (fun i => l.length - i.1) (fun i => i.1 ≤ l.length ∧ 0 ≤ i.2 ∧ i.2 ≤ left - 1 ∧ okFIL l (d + 1) (left - 1) = okFIL (l.drop i.1) (d + 1) i.2 ∧ kindedL (l.take i.1))
      (fun i => ⟨[(1, .q (.c (.int .i64 d))), (2, .q (.box 118 0)), (3, .q (.box 3 0)), (93, .q (.c (.row 9 (encF l)))), (94, .q (.c (.int .i64 l.length))), (95, .q (.c (.int .i64 i.1)))], [(118, [.c (.int .i64 i.2)]), (3, [.c (.int .i64 kk), .c (.int .i64 n), .c (.str s), .c (.int .i64 vk), .c (.int .i64 vn), .c (.str vs), .c (.row 1 (strs vks)), .c (.row 5 (encL vl)), .c (.row 9 (encF l))])], []⟩) (0, left - 1) ⟨Nat.zero_le _, by simp only; omega, by simp only; omega, by simp only [List.drop_zero], by simp [kindedL]⟩ (Le.refl _) ?_
    rintro ⟨i, m⟩ ⟨hi, hm, hm', heq, hkd⟩
    simp only at hi hm hm' heq hkd
    have hln : (l.length : Int) ≤ 140737488355328 := f3
    rcases Nat.lt_or_ge i l.length with hlt | hge
    · obtain ⟨t, ht, hdr, hmem⟩ := drop_at hlt
      have a1 := encF_at ht
      have a2 : ((i : Int) < (l.length : Int)) = True := by simp; omega
      have a3 := fitF_mem f4 t hmem
      have a4 := size_mem hmem
      have a6 := F.enc_len t
      have a7 := okFI_le t (d + 1) m
      rw [hdr] at heq
      simp only [okFIL] at heq
      have hfalse : ¬ (okFI t (d + 1) m).1 = true → R.1 = false ∧ R.2 = (okFI t (d + 1) m).2 := fun hc => by
        rw [if_neg hc] at heq
        rw [heq] at hpos'
        rw [hpos']; simp
      simp only [go_sem, seval, rg, a1, a2, a6, spOkFI_md, spOkFI_pre, spOkFI_alts, spOkFI_res, spOkFI_out]
      repeat' (first | with_reducible assumption | with_reducible refine And.intro ?_ ?_ | intro _)
      all_goals first | omega | skip
      · rename_i hc hR
        rw [(hfalse hc).1] at hR; cases hR
      · rename_i hc
        exact (hfalse hc).2.symm
      · have hc' : (okFI t (d + 1) m).1 = true := Classical.byContradiction (by assumption)
        rw [if_pos hc'] at heq
        refine ⟨(i + 1, (okFI t (d + 1) m).2), ⟨by simp only; omega, (a7.2 hc').1, by simp only; omega, heq, ?_⟩, by simp only; omega, Le.sub (fun _ h => h) (fun _ h => List.mem_append_left [_] h) (fun _ h => h)⟩
        rw [kindedL_mem]
        intro y hy
        simp only at hy
        rw [List.take_add_one, ht] at hy
        rcases List.mem_append.1 hy with hy | hy
        · exact kindedL_mem.1 hkd y hy
        · simp at hy; subst hy; exact (a7.2 hc').2
    · have a2 : ((i : Int) < (l.length : Int)) = False := by simp; omega
      rw [List.drop_eq_nil_of_le hge] at heq
      rw [List.take_of_length_le hge] at hkd
      simp only [okFIL] at heq
      rw [heq] at hpos'
      simp only [if_true] at hpos'
      have z0 : (0 : Int).toNat = 0 := rfl
      cases l with
      | nil =>
        have h20 : (kk = 20) = False := by simp; intro h; have := hk h; simp at this
        simp only [go_sem, seval, rg, a2, z0, encF, h20, spLookD_md, spLookD_alts, spLookD_pre0, spLookD_res0, spLookD_out0, hpos']
        repeat' (first | with_reducible assumption | with_reducible refine And.intro ?_ ?_ | intro _)
        all_goals first | omega | (grind; done) | skip
      | cons x r =>
        have a6 := F.enc_len x
        have a7 := fitF_mem f4 x (by simp)
        have a8 := kindedL_mem.1 hkd x (by simp)
        have a9 : wayL (x :: r) 0 = wayF x := by simp [wayL]
        simp only [go_sem, seval, rg, a2, z0, encF, a6, spLookD_md, spLookD_pre, spLookD_alts, spLookD_res, spLookD_out, hpos', a9]
        repeat' (first | with_reducible assumption | with_reducible refine And.intro ?_ ?_ | intro _)
        all_goals first | omega | (grind; done) | skip
theorem okFI_all (hG : get? 0 Globs.G = some ktabC) : ∀ k, Sound Go.Proofs.Tryd.prog 21 (spOkFI k) := fun k => Nat.rec Sound.none (fun k ih => okFI_sound hG k ih) k
noncomputable def spOkFIV  : Spec := Spec.of (ι := F × Int × Int) [false, false, true] (fun i => [.d (.agg i.1.enc), .d (.one (.int .i64 i.2.1)), .ref [.int .i64 i.2.2]]) (fun i => i.1.fit 140737488355328 ∧ 0 ≤ i.2.1 ∧ i.2.1 ≤ 8 ∧ 0 ≤ i.2.2 ∧ i.2.2 ≤ 1000) (fun i => [.d (.one (.bool (decide ((okFI i.1 i.2.1 i.2.2).1 = true))))]) (fun i => [.gone, .gone, .ref [.int .i64 (okFI i.1 i.2.1 i.2.2).2]])
theorem spOkFIV_inj : ∀ i j : F × Int × Int, (fun (i : F × Int × Int) => ([.d (.agg i.1.enc), .d (.one (.int .i64 i.2.1)), .ref [.int .i64 i.2.2]] : List AV)) i = (fun (i : F × Int × Int) => ([.d (.agg i.1.enc), .d (.one (.int .i64 i.2.1)), .ref [.int .i64 i.2.2]] : List AV)) j → i = j := by
  rintro ⟨t, d, left⟩ ⟨t', d', left'⟩ h
  simp only [Prod.mk.injEq]
  simpa [strs_eq, T.enc_eq, encL_eq, F.enc_eq, encF_eq, Tk.enc_eq, encTk_eq, Gn.enc_eq, ints_eq] using h
theorem spOkFIV_md  : (spOkFIV).md = [false, false, true] := rfl
theorem spOkFIV_pre  (t : F) (d : Int) (left : Int) : (spOkFIV).pre [.d (.agg t.enc), .d (.one (.int .i64 d)), .ref [.int .i64 left]] = (t.fit 140737488355328 ∧ 0 ≤ d ∧ d ≤ 8 ∧ 0 ≤ left ∧ left ≤ 1000) := Spec.of_pre' spOkFIV_inj (t, d, left)
theorem spOkFIV_alts  : (spOkFIV).alts = none := rfl
theorem spOkFIV_res  (t : F) (d : Int) (left : Int) : (spOkFIV).res [.d (.agg t.enc), .d (.one (.int .i64 d)), .ref [.int .i64 left]] = [.d (.one (.bool (decide ((okFI t d left).1 = true))))] := Spec.of_res spOkFIV_inj (t, d, left)
theorem spOkFIV_out  (t : F) (d : Int) (left : Int) : (spOkFIV).out [.d (.agg t.enc), .d (.one (.int .i64 d)), .ref [.int .i64 left]] = [.gone, .gone, .ref [.int .i64 (okFI t d left).2]] := Spec.of_out spOkFIV_inj (t, d, left)
theorem okFIV_sound (hG : get? 0 Globs.G = some ktabC) : Sound Go.Proofs.Tryd.prog 21 spOkFIV := Sound.all (μ := fun i => SizeOf.sizeOf i.1) (okFI_all hG)
noncomputable def spFiltOkI  : Spec := Spec.of (ι := F) [false] (fun i => [.d (.agg i.enc)]) (fun i => i.fit 140737488355328) (fun i => [.d (.one (.bool (decide ((okFI i 1 16).1 = true))))]) (fun _ => [.gone])
theorem spFiltOkI_inj : ∀ i j : F, (fun (i : F) => ([.d (.agg i.enc)] : List AV)) i = (fun (i : F) => ([.d (.agg i.enc)] : List AV)) j → i = j := by
  intro t t' h
  simpa [strs_eq, T.enc_eq, encL_eq, F.enc_eq, encF_eq, Tk.enc_eq, encTk_eq, Gn.enc_eq, ints_eq] using h
theorem spFiltOkI_md  : (spFiltOkI).md = [false] := rfl
theorem spFiltOkI_pre  (t : F) : (spFiltOkI).pre [.d (.agg t.enc)] = (t.fit 140737488355328) := Spec.of_pre' spFiltOkI_inj t
theorem spFiltOkI_alts  : (spFiltOkI).alts = none := rfl
theorem spFiltOkI_res  (t : F) : (spFiltOkI).res [.d (.agg t.enc)] = [.d (.one (.bool (decide ((okFI t 1 16).1 = true))))] := Spec.of_res spFiltOkI_inj t
theorem spFiltOkI_out  (t : F) : (spFiltOkI).out [.d (.agg t.enc)] = [.gone] := Spec.of_out spFiltOkI_inj t
theorem filtOkI_sound (hG : get? 0 Globs.G = some ktabC) : Sound Go.Proofs.Tryd.prog 11 spFiltOkI := by
  refine sound_fam (GOK.cons call_okF (okFIV_sound hG) GOK.nil) Go.Proofs.Tryd.func11 (c := Go.Proofs.Tryd.f11.body.getD .skip) rfl (n := 6) rfl chk_FiltOkI rs_FiltOkI (fun _ => by simp) ?_ ?_
  · exact spFiltOkI_inj
  · intro t h1
    have a6 := F.enc_len t
    simp only [x_FiltOkI, go_sem, seval, rg, a6, spOkFIV_md, spOkFIV_pre, spOkFIV_alts, spOkFIV_res, spOkFIV_out]
    repeat' (first | with_reducible assumption | with_reducible refine And.intro ?_ ?_ | intro _)
    all_goals first | omega | skip
end Go.Proofs.Pw
/- Trees in new memory: the program's and the specification's functions. -/
set_option linter.unusedSimpArgs false
set_option maxRecDepth 20000
namespace Go.Proofs.Pw
set_option linter.unusedSectionVars false
variable [Globs]
end Go.Proofs.Pw
/- Trees in new memory: what is told. -/
set_option linter.unusedSimpArgs false
set_option maxRecDepth 20000
namespace Go.Proofs.Pw
set_option linter.unusedSectionVars false
variable [Globs]
def T.kind : T → Int | .mk k _ _ _ _ => k
def T.n : T → Int | .mk _ n _ _ _ => n
def T.s : T → ByteArray | .mk _ _ s _ _ => s
def T.keys : T → List ByteArray | .mk _ _ _ ks _ => ks
def T.list : T → List T | .mk _ _ _ _ l => l
def rowT (t : T) : Prop := okT t ∧ t.kind = 5
noncomputable instance (t : T) : Decidable (rowT t) := Classical.propDecidable _
end Go.Proofs.Pw
