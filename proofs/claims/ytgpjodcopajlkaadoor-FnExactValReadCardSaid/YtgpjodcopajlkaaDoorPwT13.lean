/- Rows in order: the stable sort of short rows; the specification's. -/
import Derived.Test.YtgpjodcopajlkaaDoorPwT12
import Derived.Test.YtgpjodcopajlkaaDoorPwT10
import Derived.Test.YtgpjodcopajlkaaDoorPwT11
import Derived.Lib.ItoaLen
import Derived.Lib.Join
set_option linter.unusedSimpArgs false
set_option linter.unusedVariables false
set_option linter.unusedSectionVars false
set_option maxRecDepth 20000
namespace Go.Proofs.Pw
variable [Globs]
end Go.Proofs.Pw
namespace Go.Proofs.Pw
variable [Globs]
def leastOk (v : T) : Prop := rowT v /\ okT ((sortC cmpT v.list).headD T.zero)
noncomputable instance (t : T) : Decidable (leastOk t) := Classical.propDecidable _
end Go.Proofs.Pw
namespace Go.Proofs.Pw
variable [Globs]
mutual
theorem formT_mono {d e : Int} (h : d <= e) : ∀ {t : T}, formT t d -> formT t e
 | .mk k n s ks l, hf => by
   simp only [formT] at hf ⊢
   obtain ⟨h1, h2, h3, h4, h5, h6, h7, h8, h9, h10, h11, h12⟩ := hf
   exact ⟨by omega, h2, h3, h4, h5, h6, h7, h8, h9, h10, h11, formL_mono (by omega) h12⟩
theorem formL_mono {d e : Int} (h : d <= e) : ∀ {l : List T}, formL l d -> formL l e
 | [], _ => trivial
 | _ :: _, hf => ⟨formT_mono h hf.1, formL_mono h hf.2⟩
end
mutual
theorem manyT_deep {d e : Int} (h : d <= e) : ∀ {t : T}, formT t d -> manyT t e = manyT t d
 | .mk k n s ks l, hf => by
   simp only [formT] at hf
   simp only [manyT]
   rw [manyL_deep (d := d) (e := e) h hf.1 hf.2.2.2.2.2.2.2.2.2.2.2]
theorem manyL_deep {d e : Int} (h : d <= e) (h1 : 1 <= d) : ∀ {l : List T}, formL l (d - 1) -> manyL l e = manyL l d
 | [], _ => by simp [manyL]
 | t :: l, hf => by
   simp only [manyL]
   rw [if_pos (by omega), if_pos (by omega), manyT_deep (d := d - 1) (e := e - 1) (by omega) hf.1, manyL_deep h h1 hf.2]
end
end Go.Proofs.Pw
namespace Go.Proofs.Pw
end Go.Proofs.Pw
namespace Go.Proofs.Pw
variable [Globs]
def idxS (x : ByteArray) : Nat -> List ByteArray -> Int
 | _, [] => -1
 | i, y :: r => if x = y then i else idxS x (i + 1) r
open Classical in
noncomputable def getT (key : ByteArray) (v : T) : T := if v.kind = 6 /\ 0 <= idxS key 0 v.keys then v.list.getD (idxS key 0 v.keys).toNat T.zero else T.zero
def getOk (v : T) : Prop := v.kind = 6 \/ v.kind = 0
noncomputable instance (v : T) : Decidable (getOk v) := Classical.propDecidable _
theorem okT_zero' : okT T.zero := ⟨by simp [T.zero, formT, formL, okS_nil], by simp [T.zero, manyT, manyL]⟩
noncomputable def marks (key : ByteArray) (l : List T) : List T := l.map (getT key)
def byOk (v : T) (key : ByteArray) : Prop := rowT v /\ okS key /\ ∀ x ∈ v.list, getOk x
noncomputable instance (v : T) (key : ByteArray) : Decidable (byOk v key) := Classical.propDecidable _
end Go.Proofs.Pw
namespace Go.Proofs.Pw
def Asc (ks : List ByteArray) : Prop := ks.Pairwise sl
theorem Asc.tail {k : ByteArray} {ks : List ByteArray} (h : Asc (k :: ks)) : Asc ks := (List.pairwise_cons.1 h).2
theorem Asc.head {k : ByteArray} {ks : List ByteArray} (h : Asc (k :: ks)) : ∀ s ∈ ks, sl k s := (List.pairwise_cons.1 h).1
end Go.Proofs.Pw
namespace Go.Proofs.Pw
mutual
theorem form_many : ∀ (t : T) (d : Int), formT t d -> manyT t d = sizeT t
 | .mk k n s ks l, d, h => by
   simp only [formT] at h
   simp only [manyT, sizeT]
   rw [formL_many l d h.1 h.2.2.2.2.2.2.2.2.2.2.2]
theorem formL_many : ∀ (l : List T) (d : Int), 1 <= d -> formL l (d - 1) -> manyL l d = sizeL l
 | [], d, _, _ => by simp [manyL, sizeL]
 | t :: l, d, hd, h => by
   simp only [formL] at h
   simp only [manyL, sizeL]
   rw [if_pos (by omega), form_many t (d - 1) h.1, formL_many l d hd h.2]
end
theorem okT_size {t : T} (h : okT t) : sizeT t <= 60 := by rw [<- form_many t 6 h.1]; exact h.2
theorem sizeL_len : ∀ l : List T, (l.length : Int) <= sizeL l
 | [] => by simp [sizeL]
 | t :: l => by
   have h1 := sizeL_len l
   have h2 : 1 <= sizeT t := by obtain ⟨k, n, s, ks, r⟩ := t; have := manyL_le r 0; simp only [sizeT]; omega
   simp only [sizeL, List.length_cons]; omega
theorem sizeT_pos (t : T) : 1 <= sizeT t := by obtain ⟨k, n, s, ks, r⟩ := t; have := manyL_le r 0; simp only [sizeT]; omega
theorem sizeL_nn (l : List T) : 0 <= sizeL l := by have := manyL_le l 0; omega
mutual
theorem form_fit : ∀ (t : T) (d : Int), formT t d -> sizeT t <= 60 -> t.fit 60
 | .mk k n s ks l, d, h, hs => by
   simp only [formT] at h
   obtain ⟨h1, h2, h3, h4, h5, h6, h7, h8, h9, h10, h11, h12⟩ := h
   simp only [sizeT] at hs
   have hl := sizeL_len l
   have h13 := h10.2
   refine ⟨by unfold i64; omega, by unfold i64; omega, by unfold lenB; omega, ⟨?_, ?_⟩, by unfold lenB; omega, formL_fit l (d - 1) h12 (by omega)⟩
   ·rcases h4 with rfl | rfl
    ·have := (h11 rfl).1
     unfold lenB; omega
    ·simp [lenB]
   ·intro x hx
    rcases h4 with rfl | rfl
    ·obtain ⟨i, hi⟩ := List.getElem?_of_mem hx
     have := (okKeys_at (h11 rfl).2 hi).2
     unfold lenB; omega
    ·simp at hx
theorem formL_fit : ∀ (l : List T) (d : Int), formL l d -> sizeL l <= 59 -> fitL 60 l
 | [], _, _, _ => trivial
 | t :: l, d, h, hs => by
   simp only [formL] at h
   simp only [sizeL] at hs
   have h1 := sizeT_pos t
   have h2 := sizeL_nn l
   exact ⟨form_fit t d h.1 (by omega), formL_fit l d h.2 (by omega)⟩
end
theorem okT_fit {t : T} (h : okT t) : t.fit 60 := form_fit t 6 h.1 (okT_size h)
end Go.Proofs.Pw
namespace Go.Proofs.Pw
theorem digF_size : ∀ {f : Nat} {k : Int} {out : ByteArray}, (digF f k out).size <= out.size + f := by
 intro f
 induction f with
 | zero => intro k out; exact Nat.le_refl _
 | succ f ih =>
   intro k out
   simp only [digF]
   split
   ·have := ih (k := k.tdiv 10) (out := bytesS [48 + k.tmod 10] ++ out)
    rw [ByteArray.size_append, show (bytesS [48 + k.tmod 10]).size = 1 from rfl] at this
    omega
   ·omega
theorem mkS_size {k : Int} (h : 0 <= k) : ((mkS k).size : Int) <= k + 2 := by
 unfold mkS
 split
 ·show ((2 : Nat) : Int) <= _; omega
 ·have := digF_size (f := k.toNat) (k := k) (out := ⟨#[]⟩)
  rw [ByteArray.size_append]
  have e1 : (ByteArray.mk #[109]).size = 1 := rfl
  have e2 : (ByteArray.mk #[]).size = 0 := rfl
  rw [e1]; rw [e2] at this; omega
theorem mkKs_fit {B : Int} : ∀ {ks : List ByteArray} {k : Int}, 0 <= k -> k + ks.length + 2 <= B -> ∀ s ∈ mkKs ks k, lenB B s.size
 | [], _, _, _ => by simp [mkKs]
 | _ :: r, k, h, hb => by
   intro s hs
   simp only [List.length_cons] at hb
   simp only [mkKs, List.mem_cons] at hs
   rcases hs with rfl | hs
   ·have := mkS_size h; unfold lenB; omega
   ·exact mkKs_fit (by omega) (by omega) s hs
mutual
theorem mkT_fit {B : Int} (hB : B <= 4611686018427387904) : ∀ {t : T} {k : Int}, t.fit B -> 0 <= k -> k + nmT t + 2 <= B -> (mkT t k).fit B
 | .mk _ _ _ ks l, k, h, h0, hb => by
   simp only [T.fit] at h
   obtain ⟨_, _, f1, f2, f3, f4⟩ := h
   have c1 := nmL_nn l
   simp only [nmT] at hb
   have := mkS_size (k := k + 2) (by omega)
   refine ⟨by unfold i64; omega, by unfold i64; omega, by unfold lenB; omega, ⟨by rw [mkKs_len]; exact f2.1, mkKs_fit (by omega) (by omega)⟩, by rw [mkL_len]; exact f3, mkL_fit hB f4 (by omega) (by omega)⟩
theorem mkL_fit {B : Int} (hB : B <= 4611686018427387904) : ∀ {l : List T} {k : Int}, fitL B l -> 0 <= k -> k + nmL l + 2 <= B -> fitL B (mkL l k)
 | [], _, _, _, _ => trivial
 | t :: r, k, h, h0, hb => by
   simp only [fitL] at h
   have c1 := nmL_nn r
   have c2 := nmT_nn t
   simp only [nmL] at hb
   exact ⟨mkT_fit hB h.1 h0 (by omega), mkL_fit hB h.2 (by omega) (by omega)⟩
end
theorem mkV_fit {B : Int} (hB : B <= 4611686018427387904) {t : T} {k : Int} (h : t.fit B) (h0 : 0 <= k) (hb : k + nmV t + 2 <= B) : (mkV t k).fit B := by
 obtain ⟨kk, n, s, ks, l⟩ := t
 simp only [T.fit] at h
 obtain ⟨f5, f6, f1, f2, f3, f4⟩ := h
 have c1 := nmL_nn l
 simp only [nmV] at hb
 exact ⟨f5, f6, f1, ⟨by rw [mkKs_len]; exact f2.1, mkKs_fit (by omega) (by omega)⟩, by rw [mkL_len]; exact f3, mkL_fit hB f4 (by omega) (by omega)⟩
mutual
theorem nmT_size : ∀ {t : T}, t.fit 60 -> nmT t <= 63 * sizeT t
 | .mk _ _ _ ks l, h => by
   simp only [T.fit, strsFit, lenB] at h
   obtain ⟨_, _, _, ⟨f1, _⟩, _, f4⟩ := h
   have := nmL_size f4
   simp only [nmT, sizeT]; omega
theorem nmL_size : ∀ {l : List T}, fitL 60 l -> nmL l <= 63 * sizeL l
 | [], _ => by simp [nmL, sizeL]
 | t :: r, h => by
   simp only [fitL] at h
   have := nmT_size h.1
   have := nmL_size h.2
   simp only [nmL, sizeL]; omega
end
theorem nmV_nn (t : T) : 0 <= nmV t := by cases t with | mk _ _ _ ks l => have := nmL_nn l; simp only [nmV]; omega
theorem nmV_le (t : T) : nmV t <= nmT t := by cases t with | mk _ _ _ ks l => simp only [nmV, nmT]; omega
theorem nmV_ok {t : T} (h : okT t) : nmV t <= 4000 := by
 have h1 := nmT_size (okT_fit h)
 have h2 := okT_size h
 have h3 := nmV_le t
 omega
theorem mkV_ok {t : T} (h : okT t) : (mkV t 1).fit 140737488355328 :=
 mkV_fit (by omega) (T.fit_mono (by decide) (okT_fit h)) (by omega) (by have := nmV_ok h; omega)
end Go.Proofs.Pw
namespace Go.Proofs.Pw
variable [Globs]
def x_cloneX : X := (.seq (.reg [⟨some 1, none, .box (.t 0) (some 5)⟩, ⟨some 2, none, .alloc [(.c (.int .i64 0)), (.c (.int .i64 0)), (.c (.str ⟨#[]⟩)), (.z 1), (.z 5)]⟩] none [1, 2]) (.seq (.reg [⟨some 6, none, .bsl 1 []⟩, ⟨some 7, none, .fa (.t 1) 3⟩, ⟨some 8, none, .load (.t 7) none⟩, ⟨some 9, none, .app (.t 6) (.t 8) 1 16 []⟩, ⟨some 10, none, .fa (.t 1) 3⟩, ⟨none, none, .st (.t 10) (.t 9) none⟩] none [1, 2]) (.seq (.reg [⟨some 11, none, .bsl 5 []⟩, ⟨some 3, none, .mv (.t 11)⟩] none [1, 2, 3]) (.seq (.seq (.reg [⟨some 12, none, .fa (.t 1) 4⟩, ⟨some 13, none, .load (.t 12) none⟩, ⟨some 14, none, .len (.t 13) false⟩, ⟨some 15, none, .mv (.k (.c (.int .i64 0)))⟩] none [1, 2, 3, 13, 14, 15]) (.block 0 (.loop (.seq (.reg [⟨some 16, none, .bin false .lss (.t 15) (.t 14)⟩] none [1, 2, 3, 13, 14, 15, 16]) (.seq (.cond (.t 16) .skip (.exit 0)) (.seq (.block 1 (.seq (.reg [⟨some 17, none, .ia (.t 13) (.t 15) 5⟩, ⟨some 18, none, .load (.t 17) (some 5)⟩, ⟨some 5, none, .alloc [(.c (.int .i64 0)), (.c (.int .i64 0)), (.c (.str ⟨#[]⟩)), (.z 1), (.z 5)]⟩, ⟨none, none, .st (.t 5) (.t 18) (some 5)⟩] none [1, 2, 3, 5, 13, 14, 15]) (.reg [⟨some 19, none, .mv (.t 3)⟩, ⟨some 20, none, .load (.t 5) (some 5)⟩, ⟨some 21, none, .call 37 [(.t 20)]⟩, ⟨some 22, none, .bslx 5 [((.t 21), (some 5))]⟩, ⟨some 23, none, .appx (.t 19) (.t 22) 5 80⟩, ⟨some 3, none, .mv (.t 23)⟩] none [1, 2, 3, 13, 14, 15]))) (.reg [⟨some 24, none, .bin false .add (.t 15) (.k (.c (.int .i64 1)))⟩, ⟨some 15, none, .mv (.t 24)⟩] none [1, 2, 3, 13, 14, 15]))))))) (.seq (.reg [⟨some 25, none, .mv (.t 3)⟩, ⟨some 26, none, .fa (.t 1) 4⟩, ⟨none, none, .st (.t 26) (.t 25) none⟩] none [1, 2]) (.seq (.reg [⟨some 27, none, .load (.t 1) (some 5)⟩, ⟨none, none, .st (.t 2) (.t 27) (some 5)⟩] none [2]) .ret))))))
theorem chk_cloneX : chkX Tryd.prog 28 (Tryd.f37.body.getD .skip) x_cloneX = true := by kernel_rfl
theorem rs_cloneX : okRs Tryd.prog Tryd.f37.results.toList [.cell 2 (some 5)] = true := by kernel_rfl
theorem call_cloneX : okCallee Tryd.prog 37 = true := by kernel_rfl
noncomputable def spCloneX (k:Nat) : Spec := Spec.of (ι := T) [false] (fun i => [.d (.agg i.enc)]) (fun i => (i.fit 2000000) /\ SizeOf.sizeOf i < k) (fun i => [.ag (agX i)]) (fun _ => [.gone])
theorem spCloneX_inj : ∀ i j : T, (fun (i : T) => ([.d (.agg i.enc)] : List AV)) i = (fun (i : T) => ([.d (.agg i.enc)] : List AV)) j -> i = j := by
 intro t t' h
 simpa [strs_eq, T.enc_eq, encL_eq, F.enc_eq, encF_eq, Tk.enc_eq, encTk_eq, Gn.enc_eq, ints_eq] using h
theorem spCloneX_md (k:Nat) : (spCloneX k).md = [false] := rfl
theorem spCloneX_pre (k:Nat) (t : T) : (spCloneX k).pre [.d (.agg t.enc)] = ((t.fit 2000000) /\ SizeOf.sizeOf t < k) := Spec.of_pre' spCloneX_inj t
theorem spCloneX_alts (k:Nat) : (spCloneX k).alts = none := rfl
theorem spCloneX_res (k:Nat) (t : T) : (spCloneX k).res [.d (.agg t.enc)] = [.ag (agX t)] := Spec.of_res spCloneX_inj t
theorem spCloneX_out (k:Nat) (t : T) : (spCloneX k).out [.d (.agg t.enc)] = [.gone] := Spec.of_out spCloneX_inj t
set_option maxHeartbeats 1000000 in
theorem cloneX_sound (k : Nat) (hS : Sound Tryd.prog 37 (spCloneX k)) : Sound Tryd.prog 37 (spCloneX (k + 1)) := by
 refine sound_fam (GOK.cons call_cloneX hS GOK.nil) Tryd.func37 (c := Tryd.f37.body.getD .skip) rfl (n := 28) rfl chk_cloneX rs_cloneX (fun _ => by simp) ?_ ?_
 ·exact spCloneX_inj
 ·rintro t ⟨h1, h4⟩
  obtain ⟨kk, n, s, ks, l⟩ := t
  simp only [T.fit, lenB, strsFit] at h1
  obtain ⟨_, _, f1, ⟨f2, _⟩, f3, f4⟩ := h1
  have e3 : SizeOf.sizeOf l < k := by have e : SizeOf.sizeOf (T.mk kk n s ks l) < k + 1 := h4
                                      rw [T.mk.sizeOf_spec] at e; omega
  simp only [x_cloneX, T.enc, agX, go_sem, seval, Prod.fst, rg, strs_len, encL_len]
  repeat' (first | with_reducible assumption | with_reducible refine And.intro ?_ ?_ | intro _)
  all_goals first | omega | skip
  refine pw_loop (ι := Nat) (fun i => l.length - i) (fun i => i <= l.length)
   (fun i => ⟨[(1, .q (.box 1 0)), (2, .q (.box 2 0)), (3, .q (.own 23)), (13, .q (.c (.row 5 (encL l)))), (14, .q (.c (.int .i64 l.length))), (15, .q (.c (.int .i64 i)))],
    [(1, [.c (.int .i64 kk), .c (.int .i64 n), .c (.str s), .own 9, .c (.row 5 (encL l))]), (2, [.c (.int .i64 0), .c (.int .i64 0), .c (.str ⟨#[]⟩), .z 1, .z 5])], [(9, 1, strs ks), (23, 5, encLX (l.take i))]⟩) 0 (Nat.zero_le _) ?_ ?_
  ·refine Le.own (t := 3) (d := 23) (sz := 5) (by decide) (by simp) (by simp [Q.killO]) ?_
   simp [PV.map, Q.killO]
  ·intro i hi
   rcases Nat.lt_or_ge i l.length with hlt | hge
   ·obtain ⟨t, ht, _, hmem⟩ := drop_at hlt
    have a1 := encL_at ht
    have a2 : ((i : Int) < (l.length : Int)) = True := by simp; omega
    have a3 := fitL_mem f4 t hmem
    have a4 := size_mem hmem
    have a6 := T.enc_len t
    have a7 : (l.take i).length = i := by simp; omega
    obtain ⟨k1, n1, s1, ks1, l1⟩ := t
    simp only [go_sem, seval, Prod.fst, rg, a1, a2, a6, a7, encL_len, spCloneX_md, spCloneX_pre, spCloneX_alts, spCloneX_res, spCloneX_out, agX]
    repeat' (first | with_reducible assumption | with_reducible refine And.intro ?_ ?_ | intro _)
    all_goals first | omega | assumption | skip
    refine ⟨i + 1, by omega, by omega, ?_⟩
    rw [encLX_take ht]
    exact Le.sub (by simp) (by simp) (by simp [T.encX])
   ·have a2 : ((i : Int) < (l.length : Int)) = False := by simp; omega
    simp only [go_sem, seval, Prod.fst, rg, a2, List.take_of_length_le hge, Bool.false_or, Bool.or_true, Bool.not_true, Bool.false_eq_true]
theorem cloneX_all (k : Nat) : Sound Tryd.prog 37 (spCloneX k) := by
 induction k with
 | zero => exact Sound.none
 | succ k ih => exact cloneX_sound k ih
noncomputable def spCloneXT  : Spec := Spec.of (ι := T) [false] (fun i => [.d (.agg i.enc)]) (fun i => i.fit 2000000) (fun i => [.ag (agX i)]) (fun _ => [.gone])
theorem spCloneXT_inj : ∀ i j : T, (fun (i : T) => ([.d (.agg i.enc)] : List AV)) i = (fun (i : T) => ([.d (.agg i.enc)] : List AV)) j -> i = j := by
 intro t t' h
 simpa [strs_eq, T.enc_eq, encL_eq, F.enc_eq, encF_eq, Tk.enc_eq, encTk_eq, Gn.enc_eq, ints_eq] using h
theorem spCloneXT_md  : (spCloneXT).md = [false] := rfl
theorem spCloneXT_pre  (t : T) : (spCloneXT).pre [.d (.agg t.enc)] = (t.fit 2000000) := Spec.of_pre' spCloneXT_inj t
theorem spCloneXT_alts  : (spCloneXT).alts = none := rfl
theorem spCloneXT_res  (t : T) : (spCloneXT).res [.d (.agg t.enc)] = [.ag (agX t)] := Spec.of_res spCloneXT_inj t
theorem spCloneXT_out  (t : T) : (spCloneXT).out [.d (.agg t.enc)] = [.gone] := Spec.of_out spCloneXT_inj t
theorem cloneXT_sound : Sound Tryd.prog 37 spCloneXT := Sound.all (μ := fun i => SizeOf.sizeOf i) cloneX_all
end Go.Proofs.Pw
namespace Go.Proofs.Pw
theorem agX_out (t : T) : agX t = [.c (.int .i64 t.kind), .c (.int .i64 t.n), .c (.str t.s), .o 1 (strs t.keys), .o 5 (encLX t.list)] := by cases t; rfl
theorem foldE (t : T) : DV.agg [C.int .i64 t.kind, C.int .i64 t.n, C.str t.s, C.row 1 (strs t.keys), C.row 5 (encL t.list)] = DV.agg t.enc := by cases t; rfl
theorem zs : T.zero.s = ⟨#[]⟩ := rfl
variable [Globs]
end Go.Proofs.Pw
namespace Go.Proofs.Pw
theorem foldM (t : T) (n : Int) : DV.agg [C.int .i64 t.kind, C.int .i64 t.n, C.str t.s, C.row 1 (strs (mkV t n).keys), C.row 5 (encL (mkV t n).list)] = DV.agg (mkV t n).enc := by cases t; rfl
theorem killL_map (d : List Nat) (cs : List C) : (cs.map Q.c).map (Q.killL d) = cs.map Q.c := by rw [List.map_map]; rfl
attribute [go_sem] killL_map dtR_strs callW AV.weak Pt.toC AV.dtb Pt.dtb Option.getD_some Option.isSome_some
variable [Globs]
theorem spMkV_preX (t : T) (n : Int) : spMkV.pre [.ag [.c (.int .i64 t.kind), .c (.int .i64 t.n), .c (.str t.s), .o 1 (strs t.keys), .o 5 (encLX t.list)], .d (.one (.int .i64 n))] = (t.fit 140737488355328 /\ 0 <= n /\ n + nmV t <= 4611686018427387904) := by rw [<- agX_out, spMkV_pre]
theorem spMkV_resX (t : T) (n : Int) : spMkV.res [.ag [.c (.int .i64 t.kind), .c (.int .i64 t.n), .c (.str t.s), .o 1 (strs t.keys), .o 5 (encLX t.list)], .d (.one (.int .i64 n))] = [.d (.one (.int .i64 (n + nmV t)))] := by rw [<- agX_out, spMkV_res]
theorem spMkV_outX (t : T) (n : Int) : spMkV.out [.ag [.c (.int .i64 t.kind), .c (.int .i64 t.n), .c (.str t.s), .o 1 (strs t.keys), .o 5 (encLX t.list)], .d (.one (.int .i64 n))] = [.ag (agX (mkV t n)), .gone] := by rw [<- agX_out, spMkV_out]
end Go.Proofs.Pw
namespace Go.Proofs.Pw
open Go
def bL (l : List UInt8) : ByteArray := ⟨l.toArray⟩
theorem bL_data (s : ByteArray) : bL s.data.toList = s := by cases s; simp [bL]
theorem bL_size (l : List UInt8) : (bL l).size = l.length := by simp [bL, ByteArray.size]
theorem bL_toList (l : List UInt8) : (bL l).data.toList = l := by simp [bL]
def itoaB (n : Int) : ByteArray := bL (Lib.itoa n)
def joinB (xs : List ByteArray) (sep : ByteArray) : ByteArray := bL (Lib.join (xs.map (·.data.toList)) sep.data.toList)
theorem itoaB_size {n : Int} (h0 : -9223372036854775808 <= n) (h1 : n <= 9223372036854775807) : (itoaB n).size <= 21 := by
 unfold itoaB
 rw [bL_size]; exact Lib.itoa_length_le n h0 h1
theorem joinB_nil (sep : ByteArray) : joinB [] sep = ⟨#[]⟩ := rfl
def lensB : List ByteArray -> Nat
 | [] => 0
 | x :: r => x.size + lensB r
theorem lensB_app (a b : List ByteArray) : lensB (a ++ b) = lensB a + lensB b := by
 induction a with
 | nil => simp [lensB]
 | cons x a ih => simp only [List.cons_append, lensB, ih]; omega
theorem ba_len (x : ByteArray) : x.data.toList.length = x.size := Array.length_toList
theorem lensB_eq (xs : List ByteArray) : Lib.lens (xs.map (·.data.toList)) = lensB xs := by
 induction xs with
 | nil => rfl
 | cons x r ih =>
   simp only [Lib.lens, List.map_cons, List.sum_cons, lensB] at ih ⊢
   rw [ih, ba_len]
theorem joinB_size (sep : ByteArray) (xs : List ByteArray) : (joinB xs sep).size <= lensB xs + xs.length * sep.size := by
 cases xs with
 | nil => rw [joinB_nil]; exact Nat.zero_le _
 | cons x r =>
   unfold joinB
   rw [bL_size, List.map_cons, Lib.join_cons, List.length_append, Lib.joinTail_length, lensB_eq]
   simp only [List.length_map, lensB, List.length_cons, Nat.add_mul, Nat.one_mul]
   have e1 : x.data.toList.length = x.size := ba_len x
   have e2 : sep.data.toList.length = sep.size := ba_len sep
   rw [e1, e2, Nat.mul_comm sep.size]; omega
mutual
def textT : T -> ByteArray
 | .mk k n s ks l => if k = 0 then ⟨#[110, 117, 108, 108]⟩ else if k = 1 then ⟨#[102, 97, 108, 115, 101]⟩ else if k = 2 then ⟨#[116, 114, 117, 101]⟩ else if k = 3 then itoaB n
   else if k = 4 then ⟨#[39]⟩ ++ s ++ ⟨#[39]⟩ else if k = 6 then ⟨#[123]⟩ ++ joinB (textLs k ks l) ⟨#[44]⟩ ++ ⟨#[125]⟩ else ⟨#[91]⟩ ++ joinB (textLs k ks l) ⟨#[44]⟩ ++ ⟨#[93]⟩
def textLs (k : Int) : List ByteArray -> List T -> List ByteArray
 | _, [] => []
 | ks, t :: l => (if k = 6 then ks.headD ⟨#[]⟩ ++ ⟨#[58]⟩ ++ textT t else textT t) :: textLs k ks.tail l
end
theorem textLs_len (k : Int) : ∀ (ks : List ByteArray) (l : List T), (textLs k ks l).length = l.length
 | _, [] => by simp [textLs]
 | ks, t :: l => by simp [textLs, textLs_len k ks.tail l]
theorem textLs_take (k : Int) : ∀ (l : List T) (ks : List ByteArray) (i : Nat) (t : T), l[i]? = some t -> (textLs k ks l).take (i + 1) = (textLs k ks l).take i ++ [if k = 6 then ks.getD i ⟨#[]⟩ ++ ⟨#[58]⟩ ++ textT t else textT t]
 | [], _, _, _, h => by simp at h
 | x :: l, ks, 0, t, h => by
   simp at h; subst h
   cases ks <;> simp [textLs]
 | x :: l, ks, i + 1, t, h => by
   have := textLs_take k l ks.tail i t (by simpa using h)
   simp only [textLs, List.take_succ_cons, List.cons_append]
   rw [this]
   cases ks <;> simp
mutual
theorem textT_size : ∀ {t : T} {d : Int}, formT t d -> ((textT t).size : Int) + 14 <= 40 * sizeT t
 | .mk k n s ks l, d, h => by
   simp only [formT] at h
   obtain ⟨h1, h2, h3, h4, h5, h6, h7, h8, h9, h10, h11, h12⟩ := h
   have hs := h10.2
   have hn := itoaB_size (n := n) (by omega) (by omega)
   have hl := textLs_size (k := k) (ks := ks) (fun s hs => by
    rcases h4 with h4 | h4
    ·obtain ⟨i, hi⟩ := List.getElem?_of_mem hs
     exact (okKeys_at (h11 h4).2 hi).2
    ·subst h4; simp at hs) h12
   have hp := sizeL_nn l
   have hj := joinB_size ⟨#[44]⟩ (textLs k ks l)
   rw [textLs_len] at hj
   have hc : (ByteArray.mk #[44]).size = 1 := rfl
   rw [hc] at hj
   have e1 : (ByteArray.mk #[39]).size = 1 := rfl
   have e2 : (ByteArray.mk #[123]).size = 1 := rfl
   have e3 : (ByteArray.mk #[125]).size = 1 := rfl
   have e4 : (ByteArray.mk #[91]).size = 1 := rfl
   have e5 : (ByteArray.mk #[93]).size = 1 := rfl
   have e6 : (ByteArray.mk #[110, 117, 108, 108]).size = 4 := rfl
   have e7 : (ByteArray.mk #[102, 97, 108, 115, 101]).size = 5 := rfl
   have e8 : (ByteArray.mk #[116, 114, 117, 101]).size = 4 := rfl
   simp only [textT, sizeT]
   repeat' split
   all_goals try simp only [ByteArray.size_append, e1, e2, e3, e4, e5, e6, e7, e8]
   all_goals omega
theorem textLs_size {k : Int} : ∀ {ks : List ByteArray} {l : List T} {d : Int}, (∀ s ∈ ks, s.size <= 12) -> formL l d -> (lensB (textLs k ks l) : Int) + l.length <= 40 * sizeL l
 | _, [], _, _, _ => by simp [textLs, lensB, sizeL]
 | ks, t :: l, d, hk, h => by
   simp only [formL] at h
   have h1 := textT_size h.1
   have h2 := textLs_size (k := k) (ks := ks.tail) (fun s hs => hk s (List.mem_of_mem_tail hs)) h.2
   have h3 : (ks.headD ⟨#[]⟩).size <= 12 := by
    cases ks with
    | nil => decide
    | cons a r => exact hk a (by simp)
   have e1 : (ByteArray.mk #[58]).size = 1 := rfl
   simp only [textLs, lensB, sizeL, List.length_cons]
   split
   ·rw [ByteArray.size_append, ByteArray.size_append, e1]; omega
   ·omega
end
theorem sizeL_mem' {l : List T} {t : T} (h : t ∈ l) : sizeT t <= sizeL l := by
 induction l with
 | nil => simp at h
 | cons x l ih =>
   have := sizeL_nn l; have := sizeT_pos x
   simp only [sizeL]
   rcases List.mem_cons.1 h with rfl | h
   ·omega
   ·have := ih h; omega
theorem len_sizeL : ∀ l : List T, (l.length : Int) <= sizeL l
 | [] => by simp [sizeL]
 | t :: l => by have := sizeT_pos t; have := len_sizeL l; simp only [List.length_cons, sizeL]; omega
theorem lensB_take (l : List ByteArray) (i : Nat) : lensB (l.take i) <= lensB l := by
 have h := lensB_app (l.take i) (l.drop i)
 rw [List.take_append_drop] at h
 omega
theorem sep_size : (ByteArray.mk #[44]).size = 1 := rfl
theorem join_take {k : Int} {ks : List ByteArray} {l : List T} {d : Int} (hk : ∀ s ∈ ks, s.size <= 12) (h : formL l d) (hs : sizeL l <= 60) (i : Nat) : (joinB ((textLs k ks l).take i) ⟨#[44]⟩).size <= 2400 := by
 have h1 := textLs_size (k := k) (ks := ks) hk h
 have h2 := joinB_size ⟨#[44]⟩ ((textLs k ks l).take i)
 have h3 := lensB_take (textLs k ks l) i
 have h4 : ((textLs k ks l).take i).length <= l.length := by rw [List.length_take, textLs_len]; omega
 rw [sep_size] at h2
 omega
theorem keys_small {k n : Int} {s : ByteArray} {ks : List ByteArray} {l : List T} {d : Int} (h : formT (.mk k n s ks l) d) : ∀ s ∈ ks, s.size <= 12 := fun s hs => by
 simp only [formT] at h
 obtain ⟨h1, h2, h3, h4, h5, h6, h7, h8, h9, h10, h11, h12⟩ := h
 rcases h4 with h4 | h4
 ·obtain ⟨i, hi⟩ := List.getElem?_of_mem hs
  exact (okKeys_at (h11 h4).2 hi).2
 ·subst h4; simp at hs
def wtab : List ByteArray := [⟨#[]⟩, ⟨#[46]⟩, ⟨#[]⟩, ⟨#[]⟩, ⟨#[]⟩, ⟨#[91, 93]⟩, ⟨#[112, 105, 112, 101]⟩, ⟨#[98, 111, 116, 104]⟩, ⟨#[105, 102]⟩, ⟨#[97, 100, 100]⟩, ⟨#[108, 101, 115, 115]⟩, ⟨#[115, 97, 109, 101]⟩, ⟨#[114, 111, 119]⟩, ⟨#[108, 101, 110]⟩, ⟨#[107, 101, 121, 115]⟩, ⟨#[110, 111, 116]⟩, ⟨#[101, 108, 115, 101]⟩, ⟨#[116, 114, 121]⟩, ⟨#[110, 111, 110, 101]⟩, ⟨#[98, 97, 100]⟩, ⟨#[116, 117, 114, 110]⟩, ⟨#[]⟩]
theorem wtab_size : ∀ i : Fin 22, (wtab.getD i.val ⟨#[]⟩).size <= 4 := by decide
def headB (k n : Int) (s : ByteArray) (v : T) : ByteArray :=
 if k = 2 then ⟨#[61]⟩ ++ textT v else if k = 3 then ⟨#[46]⟩ ++ s ++ ⟨#[58]⟩ else if k = 4 then ⟨#[91]⟩ ++ itoaB n ++ ⟨#[93]⟩ else if k = 21 then ⟨#[109, 97, 107, 101, 58]⟩ ++ s else wtab.getD k.toNat ⟨#[]⟩
mutual
def textF : F -> ByteArray
 | .mk k n s v l => headB k n s v ++ textFs l
def textFs : List F -> ByteArray
 | [] => ⟨#[]⟩
 | t :: l => ⟨#[32]⟩ ++ textF t ++ textFs l
end
theorem headB_size {k n : Int} {s : ByteArray} {v : T} (hk : 0 <= k /\ k <= 21) (hn : -60 <= n /\ n < 60) (hs : s.size <= 12) (hv : okT v) : (headB k n s v).size <= 2402 := by
 have h1 := textT_size hv.1
 have h2 := okT_size hv
 have h3 := itoaB_size (n := n) (by omega) (by omega)
 have h4 := wtab_size ⟨k.toNat, by omega⟩
 simp only at h4
 have e1 : (ByteArray.mk #[61]).size = 1 := rfl
 have e2 : (ByteArray.mk #[46]).size = 1 := rfl
 have e3 : (ByteArray.mk #[58]).size = 1 := rfl
 have e4 : (ByteArray.mk #[91]).size = 1 := rfl
 have e5 : (ByteArray.mk #[93]).size = 1 := rfl
 have e6 : (ByteArray.mk #[109, 97, 107, 101, 58]).size = 5 := rfl
 unfold headB
 repeat' split
 all_goals try simp only [ByteArray.size_append, e1, e2, e3, e4, e5, e6]
 all_goals omega
mutual
theorem textF_size : ∀ {t : F} {d : Int}, formF t d -> ((textF t).size : Int) + 1 <= 2500 * sizeF t
 | .mk k n s v l, d, h => by
   simp only [formF] at h
   obtain ⟨h1, h2, h3, h4, h5, h6, h7, h8, h9⟩ := h
   have h10 := kidsOf_range (show 0 <= kidsOf k by omega)
   have a := headB_size (s := s) (v := v) (show 0 <= k /\ k <= 21 by omega) ⟨h5, h6⟩ h4.2 h7
   have b := textFs_size h8
   have c := manyFL_le l 0
   simp only [textF, sizeF, ByteArray.size_append]; omega
theorem textFs_size : ∀ {l : List F} {d : Int}, formFL l d -> ((textFs l).size : Int) <= 2500 * sizeFL l
 | [], _, _ => by simp [textFs, sizeFL, ByteArray.size]
 | t :: l, d, h => by
   simp only [formFL] at h
   have h1 := textF_size h.1
   have h2 := textFs_size h.2
   have e1 : (ByteArray.mk #[32]).size = 1 := rfl
   simp only [textFs, sizeFL, ByteArray.size_append, e1]; omega
end
end Go.Proofs.Pw
