/- Texts of trees: both programs. -/
import Derived.Test.YtgpjodcopajlkaaDoorPwT14
import Derived.Test.YtgpjodcopajlkaaDoorPwT11
import Derived.Test.YtgpjodcopajlkaaDoorPwT12
import Derived.Test.YtgpjodcopajlkaaDoorPwT10
import Derived.Test.YtgpjodcopajlkaaDoorProg
import Derived.KernelRfl
set_option linter.unusedSimpArgs false
set_option linter.unusedVariables false
set_option linter.unusedSectionVars false
set_option maxRecDepth 20000
namespace Go.Proofs.Pw
variable [Globs]
def x_textI : X := (.seq (.reg [⟨some 1, none, .box (.t 0) (some 5)⟩, ⟨some 2, none, .mv (.k (.c (.str ⟨#[]⟩)))⟩] none [1]) (.seq (.seq (.reg [⟨some 7, none, .fa (.t 1) 0⟩, ⟨some 8, none, .load (.t 7) none⟩] none [1, 8]) (.block 0 (.seq (.reg [⟨some 10, none, .bin false .eql (.t 8) (.k (.c (.int .i64 0)))⟩, ⟨some 9, none, .mv (.t 10)⟩] none [1, 8, 9]) (.cond (.t 9) (.seq (.reg [⟨some 2, none, .mv (.k (.c (.str ⟨#[110, 117, 108, 108]⟩)))⟩] none [2]) .ret) (.seq (.reg [⟨some 12, none, .bin false .eql (.t 8) (.k (.c (.int .i64 1)))⟩, ⟨some 11, none, .mv (.t 12)⟩] none [1, 8, 11]) (.cond (.t 11) (.seq (.reg [⟨some 2, none, .mv (.k (.c (.str ⟨#[102, 97, 108, 115, 101]⟩)))⟩] none [2]) .ret) (.seq (.reg [⟨some 14, none, .bin false .eql (.t 8) (.k (.c (.int .i64 2)))⟩, ⟨some 13, none, .mv (.t 14)⟩] none [1, 8, 13]) (.cond (.t 13) (.seq (.reg [⟨some 2, none, .mv (.k (.c (.str ⟨#[116, 114, 117, 101]⟩)))⟩] none [2]) .ret) (.seq (.reg [⟨some 16, none, .bin false .eql (.t 8) (.k (.c (.int .i64 3)))⟩, ⟨some 15, none, .mv (.t 16)⟩] none [1, 8, 15]) (.cond (.t 15) (.seq (.reg [⟨some 17, none, .fa (.t 1) 1⟩, ⟨some 18, none, .load (.t 17) none⟩, ⟨some 19, none, .call 51 [(.t 18)]⟩, ⟨some 2, none, .mv (.t 19)⟩] none [2]) .ret) (.seq (.reg [⟨some 21, none, .bin false .eql (.t 8) (.k (.c (.int .i64 4)))⟩, ⟨some 20, none, .mv (.t 21)⟩] none [1, 20]) (.cond (.t 20) (.seq (.reg [⟨some 22, none, .fa (.t 1) 2⟩, ⟨some 23, none, .load (.t 22) none⟩, ⟨some 24, none, .bin false .add (.k (.c (.str ⟨#[39]⟩))) (.t 23)⟩, ⟨some 25, none, .bin false .add (.t 24) (.k (.c (.str ⟨#[39]⟩)))⟩, ⟨some 2, none, .mv (.t 25)⟩] none [2]) .ret) .skip)))))))))))) (.seq (.reg [⟨some 26, none, .bsl 1 []⟩, ⟨some 3, none, .mv (.t 26)⟩] none [1, 3]) (.seq (.seq (.reg [⟨some 27, none, .fa (.t 1) 4⟩, ⟨some 28, none, .load (.t 27) none⟩, ⟨some 29, none, .len (.t 28) false⟩, ⟨some 30, none, .mv (.k (.c (.int .i64 0)))⟩] none [1, 3, 28, 29, 30]) (.block 1 (.loop (.seq (.reg [⟨some 31, none, .bin false .lss (.t 30) (.t 29)⟩] none [1, 3, 28, 29, 30, 31]) (.seq (.cond (.t 31) .skip (.exit 1)) (.seq (.block 2 (.seq (.reg [⟨some 32, none, .mv (.t 30)⟩, ⟨some 33, none, .ia (.t 28) (.t 30) 5⟩, ⟨some 34, none, .load (.t 33) (some 5)⟩, ⟨some 5, none, .alloc [(.c (.int .i64 0)), (.c (.int .i64 0)), (.c (.str ⟨#[]⟩)), (.z 1), (.z 5)]⟩, ⟨some 4, none, .mv (.t 32)⟩, ⟨none, none, .st (.t 5) (.t 34) (some 5)⟩] none [1, 3, 4, 5, 28, 29, 30]) (.seq (.reg [⟨some 35, none, .load (.t 5) (some 5)⟩, ⟨some 36, none, .call 32 [(.t 35)]⟩, ⟨some 6, none, .mv (.t 36)⟩] none [1, 3, 4, 6, 28, 29, 30]) (.seq (.seq (.reg [⟨some 37, none, .fa (.t 1) 0⟩, ⟨some 38, none, .load (.t 37) none⟩, ⟨some 39, none, .bin false .eql (.t 38) (.k (.c (.int .i64 6)))⟩] none [1, 3, 4, 6, 28, 29, 30, 39]) (.cond (.t 39) (.reg [⟨some 40, none, .fa (.t 1) 3⟩, ⟨some 41, none, .load (.t 40) none⟩, ⟨some 42, none, .mv (.t 4)⟩, ⟨some 43, none, .ia (.t 41) (.t 42) 1⟩, ⟨some 44, none, .load (.t 43) none⟩, ⟨some 45, none, .bin false .add (.t 44) (.k (.c (.str ⟨#[58]⟩)))⟩, ⟨some 46, none, .mv (.t 6)⟩, ⟨some 47, none, .bin false .add (.t 45) (.t 46)⟩, ⟨some 6, none, .mv (.t 47)⟩] none [1, 3, 6, 28, 29, 30]) .skip)) (.reg [⟨some 48, none, .mv (.t 3)⟩, ⟨some 49, none, .mv (.t 6)⟩, ⟨some 50, none, .bsl 1 [((.t 49), none)]⟩, ⟨some 51, none, .app (.t 48) (.t 50) 1 16 []⟩, ⟨some 3, none, .mv (.t 51)⟩] none [1, 3, 28, 29, 30]))))) (.reg [⟨some 52, none, .bin false .add (.t 30) (.k (.c (.int .i64 1)))⟩, ⟨some 30, none, .mv (.t 52)⟩] none [1, 3, 28, 29, 30]))))))) (.seq (.seq (.reg [⟨some 53, none, .fa (.t 1) 0⟩, ⟨some 54, none, .load (.t 53) none⟩, ⟨some 55, none, .bin false .eql (.t 54) (.k (.c (.int .i64 6)))⟩] none [3, 55]) (.cond (.t 55) (.seq (.reg [⟨some 56, none, .mv (.t 3)⟩, ⟨some 57, none, .call 68 [(.t 56), (.k (.c (.str ⟨#[44]⟩)))]⟩, ⟨some 58, none, .bin false .add (.k (.c (.str ⟨#[123]⟩))) (.t 57)⟩, ⟨some 59, none, .bin false .add (.t 58) (.k (.c (.str ⟨#[125]⟩)))⟩, ⟨some 2, none, .mv (.t 59)⟩] none [2]) .ret) .skip)) (.seq (.reg [⟨some 60, none, .mv (.t 3)⟩, ⟨some 61, none, .call 68 [(.t 60), (.k (.c (.str ⟨#[44]⟩)))]⟩, ⟨some 62, none, .bin false .add (.k (.c (.str ⟨#[91]⟩))) (.t 61)⟩, ⟨some 63, none, .bin false .add (.t 62) (.k (.c (.str ⟨#[93]⟩)))⟩, ⟨some 2, none, .mv (.t 63)⟩] none [2]) .ret))))))
theorem chk_textI : chkX Tryd.prog 64 (Tryd.f32.body.getD .skip) x_textI = true := by kernel_rfl
theorem rs_textI : okRs Tryd.prog Tryd.f32.results.toList [.tmp 2] = true := by kernel_rfl
theorem call_textI : okCallee Tryd.prog 32 = true := by kernel_rfl
attribute [go_sem] bytesL flatC
def okTx (t : T) : Prop := (∃ d, formT t d) /\ sizeT t <= 60
theorem okTx_of {t : T} (h : okT t) : okTx t := ⟨⟨_, h.1⟩, okT_size h⟩
theorem okTx_kid {k n : Int} {s : ByteArray} {ks : List ByteArray} {l : List T} (h : okTx (.mk k n s ks l)) {t : T} (ht : t ∈ l) : okTx t := by
 obtain ⟨⟨d, h1⟩, h2⟩ := h
 simp only [formT] at h1
 simp only [sizeT] at h2
 exact ⟨⟨_, formL_mem.1 h1.2.2.2.2.2.2.2.2.2.2.2 t ht⟩, by have := sizeL_mem' ht; omega⟩
theorem okTx_size {t : T} (h : okTx t) : (textT t).size <= 2400 := by
 obtain ⟨⟨d, h1⟩, h2⟩ := h
 have := textT_size h1; omega
noncomputable def spTxt (k:Nat) : Spec := Spec.of (ι := T) [false] (fun i => [.d (.agg i.enc)]) (fun i => (okTx i) /\ SizeOf.sizeOf i < k) (fun i => [.d (.one (.str (textT i)))]) (fun _ => [.gone])
theorem spTxt_inj : ∀ i j : T, (fun (i : T) => ([.d (.agg i.enc)] : List AV)) i = (fun (i : T) => ([.d (.agg i.enc)] : List AV)) j -> i = j := by
 intro t t' h
 simpa [strs_eq, T.enc_eq, encL_eq, F.enc_eq, encF_eq, Tk.enc_eq, encTk_eq, Gn.enc_eq, ints_eq] using h
theorem spTxt_md (k:Nat) : (spTxt k).md = [false] := rfl
theorem spTxt_pre (k:Nat) (t : T) : (spTxt k).pre [.d (.agg t.enc)] = ((okTx t) /\ SizeOf.sizeOf t < k) := Spec.of_pre' spTxt_inj t
theorem spTxt_alts (k:Nat) : (spTxt k).alts = none := rfl
theorem spTxt_res (k:Nat) (t : T) : (spTxt k).res [.d (.agg t.enc)] = [.d (.one (.str (textT t)))] := Spec.of_res spTxt_inj t
theorem spTxt_out (k:Nat) (t : T) : (spTxt k).out [.d (.agg t.enc)] = [.gone] := Spec.of_out spTxt_inj t
noncomputable def spTxtV  : Spec := Spec.of (ι := T) [false] (fun i => [.d (.agg i.enc)]) (fun i => okTx i) (fun i => [.d (.one (.str (textT i)))]) (fun _ => [.gone])
theorem spTxtV_inj : ∀ i j : T, (fun (i : T) => ([.d (.agg i.enc)] : List AV)) i = (fun (i : T) => ([.d (.agg i.enc)] : List AV)) j -> i = j := by
 intro t t' h
 simpa [strs_eq, T.enc_eq, encL_eq, F.enc_eq, encF_eq, Tk.enc_eq, encTk_eq, Gn.enc_eq, ints_eq] using h
theorem spTxtV_md  : (spTxtV).md = [false] := rfl
theorem spTxtV_pre  (t : T) : (spTxtV).pre [.d (.agg t.enc)] = (okTx t) := Spec.of_pre' spTxtV_inj t
theorem spTxtV_alts  : (spTxtV).alts = none := rfl
theorem spTxtV_res  (t : T) : (spTxtV).res [.d (.agg t.enc)] = [.d (.one (.str (textT t)))] := Spec.of_res spTxtV_inj t
theorem spTxtV_out  (t : T) : (spTxtV).out [.d (.agg t.enc)] = [.gone] := Spec.of_out spTxtV_inj t
set_option maxHeartbeats 2000000 in
theorem txtI_sound (hK : tabK) (k : Nat) (hS : Sound Tryd.prog 32 (spTxt k)) : Sound Tryd.prog 32 (spTxt (k + 1)) := by
 refine sound_fam (GOK.cons (l := [(32, spTxt k), (68, spJoin)]) call_Itoa (itoa_sound hK) (GOK.cons (l := [(68, spJoin)]) call_textI hS (GOK.cons call_Join join_sound GOK.nil))) Tryd.func32 (c := Tryd.f32.body.getD .skip) rfl (n := 64) rfl chk_textI rs_textI (fun _ => by simp) ?_ ?_
 ·exact spTxt_inj
 ·rintro t ⟨h1, h4⟩
  obtain ⟨kk, n, s, ks, l⟩ := t
  have hkid := fun t ht => okTx_kid h1 (t := t) ht
  have hT := okTx_size h1
  obtain ⟨⟨d, h1⟩, h2⟩ := h1
  have hks := keys_small h1
  have e3 : SizeOf.sizeOf l < k := by have e : SizeOf.sizeOf (T.mk kk n s ks l) < k + 1 := h4
                                      rw [T.mk.sizeOf_spec] at e; omega
  clear h4
  simp only [formT] at h1
  obtain ⟨f1, f2, f3, f4, f5, f6, f7, f8, f9, f10, f11, f12⟩ := h1
  have f13 := f10.2
  simp only [sizeT] at h2
  have f14 := len_sizeL l
  have hz := fun i => join_take (k := kk) hks f12 (by omega) i
  have q1 : (ByteArray.mk #[39]).size = 1 := rfl
  have q2 : (ByteArray.mk #[123]).size = 1 := rfl
  have q3 : (ByteArray.mk #[125]).size = 1 := rfl
  have q4 : (ByteArray.mk #[91]).size = 1 := rfl
  have q5 : (ByteArray.mk #[93]).size = 1 := rfl
  have q6 : (ByteArray.mk #[58]).size = 1 := rfl
  have hkk : kk = 0 \/ kk = 1 \/ kk = 2 \/ kk = 3 \/ kk = 4 \/ kk = 5 \/ kk = 6 := by omega
  rcases hkk with rfl | rfl | rfl | rfl | rfl | hkk
  ·simp only [x_textI, T.enc, rg, go_sem, seval, Prod.fst, textT]
   repeat' (first | with_reducible assumption | with_reducible refine And.intro ?_ ?_ | intro _)
  ·simp only [x_textI, T.enc, rg, go_sem, seval, Prod.fst, textT]
   repeat' (first | with_reducible assumption | with_reducible refine And.intro ?_ ?_ | intro _)
   all_goals first | omega | simp
  ·simp only [x_textI, T.enc, rg, go_sem, seval, Prod.fst, textT]
   repeat' (first | with_reducible assumption | with_reducible refine And.intro ?_ ?_ | intro _)
   all_goals first | omega | simp
  ·simp only [x_textI, T.enc, rg, go_sem, seval, Prod.fst, textT, spItoa_md, spItoa_pre, spItoa_alts, spItoa_res, spItoa_out]
   repeat' (first | with_reducible assumption | with_reducible refine And.intro ?_ ?_ | intro _)
   all_goals first | omega | (unfold i64; omega) | simp
  ·simp only [x_textI, T.enc, rg, go_sem, seval, Prod.fst, textT, q1]
   repeat' (first | with_reducible assumption | with_reducible refine And.intro ?_ ?_ | intro _)
   all_goals first | omega | simp
  have b0 : (kk = 0) = False := eq_false (by omega)
  have b1 : (kk = 1) = False := eq_false (by omega)
  have b2 : (kk = 2) = False := eq_false (by omega)
  have b3 : (kk = 3) = False := eq_false (by omega)
  have b4 : (kk = 4) = False := eq_false (by omega)
  simp only [x_textI, T.enc, rg, go_sem, seval, Prod.fst, b0, b1, b2, b3, b4, encL_len]
  repeat' (first | with_reducible assumption | with_reducible refine And.intro ?_ ?_ | intro _)
  all_goals first | omega | skip
  have hA : (l.length : Int) = l.length := rfl
  refine pw_loop (ι := Nat) (fun i => l.length - i) (fun i => i <= l.length)
   (fun i => ⟨[(1, .q (.box 1 0)), (3, .q (.own 51)), (28, .q (.c (.row 5 (encL l)))), (29, .q (.c (.int .i64 l.length))), (30, .q (.c (.int .i64 i)))],
    [(1, [.c (.int .i64 kk), .c (.int .i64 n), .c (.str s), .c (.row 1 (strs ks)), .c (.row 5 (encL l))])], [(51, 1, strs ((textLs kk ks l).take i))]⟩) 0 (Nat.zero_le _) ?_ ?_
  ·refine Le.own (t := 3) (d := 51) (sz := 1) (by decide) (by simp) (by simp [Q.killO]) ?_
   simp [PV.map, Q.killO, strs]
  intro i hi
  rcases Nat.lt_or_ge i l.length with hlt | hge
  ·obtain ⟨t, ht, _, hmem⟩ := drop_at hlt
   have a1 := encL_at ht
   have a2 : ((i : Int) < (l.length : Int)) = True := by simp; omega
   have a4 := size_mem hmem
   have a5 := hkid t hmem
   have a6 := T.enc_len t
   have a7 := okTx_size a5
   have a9 := textLs_take kk l ks i t ht
   have a10 : ((textLs kk ks l).take i).length = i := by rw [List.length_take, textLs_len]; omega
   rcases hkk with hkk | hkk
   ·have b5 : (kk = 6) = False := eq_false (by omega)
    simp only [b5, if_false] at a9
    simp only [rg, go_sem, seval, Prod.fst, a1, a2, a6, a10, b5, encL_len, strs_len, spTxt_md, spTxt_pre, spTxt_alts, spTxt_res, spTxt_out]
    repeat' (first | with_reducible assumption | with_reducible refine And.intro ?_ ?_ | intro _)
    all_goals first | omega | with_reducible assumption | skip
    refine ⟨i + 1, hlt, by omega, ?_⟩
    rw [a9, strs_app]
    exact Le.sub (by simp) (by simp) (by simp [strs])
   ·have b5 : (kk = 6) = True := eq_true (by omega)
    obtain ⟨key, hkey⟩ : ∃ y, ks[i]? = some y := ⟨ks[i]'(by have := (f11 hkk).1; omega), List.getElem?_eq_getElem _⟩
    have b6 := strs_at hkey
    have b7 : ks.getD i ⟨#[]⟩ = key := by simp [List.getD, hkey]
    have b8 := hks key (List.mem_of_getElem? hkey)
    have b9 := (f11 hkk).1
    simp only [b5, if_true, b7] at a9
    simp only [rg, go_sem, seval, Prod.fst, a1, a2, a6, a10, b5, b6, q6, encL_len, strs_len, ByteArray.size_append, spTxt_md, spTxt_pre, spTxt_alts, spTxt_res, spTxt_out]
    repeat' (first | with_reducible assumption | with_reducible refine And.intro ?_ ?_ | intro _)
    all_goals first | omega | with_reducible assumption | skip
    refine ⟨i + 1, hlt, by omega, ?_⟩
    rw [a9, strs_app]
    exact Le.sub (by simp) (by simp) (by simp [strs])
  ·have a2 : ((i : Int) < (l.length : Int)) = False := by simp; omega
   have a3 : (textLs kk ks l).take i = textLs kk ks l := List.take_of_length_le (by rw [textLs_len]; exact hge)
   have a4 := hz i
   have a5 := textLs_len kk ks l
   rw [a3] at a4
   rcases hkk with hkk | hkk
   ·have b5 : (kk = 6) = False := eq_false (by omega)
    simp only [rg, go_sem, seval, Prod.fst, a2, a3, a5, b5, encL_len, q4, q5, ByteArray.size_append, lenB, spJoin_md, spJoin_pre, spJoin_alts, spJoin_res, spJoin_out]
    repeat' (first | with_reducible assumption | with_reducible refine And.intro ?_ ?_ | intro _)
    all_goals first | omega | with_reducible assumption | skip
    all_goals (simp only [textT, b0, b1, b2, b3, b4, b5, if_false])
   ·have b5 : (kk = 6) = True := eq_true (by omega)
    simp only [rg, go_sem, seval, Prod.fst, a2, a3, a5, b5, encL_len, q2, q3, ByteArray.size_append, lenB, spJoin_md, spJoin_pre, spJoin_alts, spJoin_res, spJoin_out]
    repeat' (first | with_reducible assumption | with_reducible refine And.intro ?_ ?_ | intro _)
    all_goals first | omega | with_reducible assumption | skip
    all_goals (simp only [textT, b0, b1, b2, b3, b4, b5, if_false, if_true])
theorem txtI_all (hK : tabK) (k : Nat) : Sound Tryd.prog 32 (spTxt k) := by
 induction k with
 | zero => exact Sound.none
 | succ k ih => exact txtI_sound hK k ih
theorem txtIV_sound (hK : tabK) : Sound Tryd.prog 32 spTxtV := Sound.all (μ := fun t => SizeOf.sizeOf t) (txtI_all hK)
end Go.Proofs.Pw
namespace Go.Proofs.Pw
variable [Globs]
end Go.Proofs.Pw
namespace Go.Proofs.Pw
variable [Globs]
end Go.Proofs.Pw
