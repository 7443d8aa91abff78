/- The reference's reader of trees: what it reads is the text of what it hands back; it reads each text of a tree that is ok. -/
import Derived.Test.YtgpjodcopajlkaaDoorPwT14
import Derived.Test.YtgpjodcopajlkaaDoorPwT13
import Derived.Lib.AtoiErrMem
import Derived.Test.YtgpjodcopajlkaaDoorPwT10
set_option linter.unusedSimpArgs false
set_option linter.unusedVariables false
set_option linter.unusedSectionVars false
set_option maxRecDepth 20000
namespace Go.Proofs.Pw
theorem sub_app {l : List UInt8} {a b : Nat} (h : a <= b) : l.drop a = sub l a b ++ l.drop b := by
 unfold sub
 have := List.take_append_drop (b - a) (l.drop a)
 rw [List.drop_drop, Nat.add_sub_cancel' h] at this
 exact this.symm
theorem sub_length {l : List UInt8} {a b : Nat} (h : b <= l.length) : (sub l a b).length = b - a := by
 unfold sub
 rw [List.length_take, List.length_drop]; omega
theorem span_sub (p : UInt8 -> Bool) (l : List UInt8) (a : Nat) : sub l a (spanE p l a) = (l.drop a).takeWhile p := by
 unfold sub spanE
 rw [Nat.add_sub_cancel_left]
 exact (List.prefix_iff_eq_take.1 (List.takeWhile_prefix p)).symm
theorem dec_dv (m : List UInt8) : m ≠ [] -> (∀ b ∈ m, dgtB b = true) -> ¬ (m.head? = some 48 /\ 1 < m.length) -> Lib.decDigits (dv m) = m := by
 refine snoc_ind (P := fun m => m ≠ [] -> (∀ b ∈ m, dgtB b = true) -> ¬ (m.head? = some 48 /\ 1 < m.length) -> Lib.decDigits (dv m) = m) (fun h => absurd rfl h) (fun m c ih => ?_) m
 ·intro _ h hh
  have h2 := h c (by simp)
  unfold dgtB at h2
  simp only [decide_eq_true_eq] at h2
  have hc : UInt8.ofNat (48 + (c.toNat - 48)) = c := by
   rw [show 48 + (c.toNat - 48) = c.toNat by omega]; simp
  cases m with
  | nil =>
    have e : dv ([] ++ [c]) = c.toNat - 48 := by simp [dv]
    rw [e, Lib.decDigits, dif_pos (by omega), hc]; rfl
  | cons b m =>
    have h3 : b ≠ 48 := fun e => hh ⟨by rw [e]; rfl, by simp⟩
    have h4 := ih (by simp) (fun x hx => h x (by simp only [List.mem_append]; exact .inl hx)) (fun k => h3 (by simpa using k.1))
    have h5 : dv (b :: m) ≠ 0 := fun e => by
     rw [e, Lib.decDigits, dif_pos (by omega)] at h4
     simp only [List.cons.injEq] at h4
     exact h3 h4.1.symm
    rw [dv_snoc, Lib.decDigits, dif_neg (by omega), show (dv (b :: m) * 10 + (c.toNat - 48)) / 10 = dv (b :: m) by omega, h4, show (dv (b :: m) * 10 + (c.toNat - 48)) % 10 = c.toNat - 48 by omega, hc]
theorem numR_sound {s : List UInt8} {n : Int} (h : numR s = some n) : Lib.itoa n = s := by
 unfold numR at h
 split at h
 ·rename_i h0
  split at h
  ·rename_i c
   cases h
   obtain ⟨c1, c2, c3, c4⟩ := c
   have c5 : s.tail.head? ≠ some 48 := fun e => c3 ⟨e, .inr rfl⟩
   have h4 := dec_dv s.tail c1 c4 (fun k => c5 k.1)
   have h5 : dv s.tail ≠ 0 := fun e => by
    rw [e, Lib.decDigits, dif_pos (by omega)] at h4
    exact c5 (by rw [<- h4]; rfl)
   have hs : s = 45 :: s.tail := by
    cases s with
    | nil => simp at h0
    | cons x s => simp at h0; rw [h0]; rfl
   unfold Lib.itoa
   rw [if_pos (by omega), show (-(dv s.tail : Int)).natAbs = dv s.tail by omega, h4]
   exact hs.symm
  ·cases h
 ·split at h
  ·rename_i c
   cases h
   obtain ⟨c1, c2, c3, c4⟩ := c
   have h4 := dec_dv s c1 c4 (fun k => c3 ⟨k.1, .inl k.2⟩)
   unfold Lib.itoa
   rw [if_neg (by omega)]
   simpa using h4
  ·cases h
theorem dec_head (u : Nat) : (Lib.decDigits u).head? = some 48 -> u = 0 := by
 induction u using Nat.strongRecOn with
 | _ u ih =>
   intro h
   by_cases c : u < 10
   ·rw [Lib.decDigits, dif_pos c] at h
    have := dig_nat c
    simp only [List.head?_cons, Option.some.injEq] at h
    rw [h] at this
    have e : (48 : UInt8).toNat = 48 := rfl
    omega
   ·rw [Lib.decDigits, dif_neg c] at h
    obtain ⟨x, r, e⟩ := List.exists_cons_of_ne_nil (dec_ne (u / 10))
    have := ih (u / 10) (by omega) (by rw [e] at h ⊢; simpa using h)
    omega
theorem dec_len : ∀ (k u : Nat), u < 10 ^ (k + 1) -> (Lib.decDigits u).length <= k + 1
 | 0, u, h => by rw [Lib.decDigits, dif_pos (by simpa using h)]; simp
 | k + 1, u, h => by
   by_cases c : u < 10
   ·rw [Lib.decDigits, dif_pos c]; simp
   ·rw [Lib.decDigits, dif_neg c]
    have := dec_len k (u / 10) (by rw [Nat.pow_succ] at h; omega)
    simp only [List.length_append, List.length_singleton]; omega
theorem numR_itoa {n : Int} (h0 : -1000000 <= n) (h1 : n <= 1000000) : numR (Lib.itoa n) = some n := by
 have hl : ∀ u : Nat, u <= 1000000 -> (Lib.decDigits u).length <= 17 := fun u hu => by
  have := dec_len 6 u (by omega)
  omega
 have hd : ∀ u b, b ∈ Lib.decDigits u -> dgtB b = true := fun u b hb => by
  unfold dgtB; simpa using dec_dig u b hb
 unfold numR Lib.itoa
 by_cases c : n < 0
 ·rw [if_pos c, List.head?_cons, if_pos rfl, List.tail_cons, if_pos ⟨dec_ne _, hl _ (by omega), fun k => by have := dec_head _ k.1; omega, hd _⟩, dv_dec]
  congr 1; omega
 ·have h45 : ¬ (Lib.decDigits n.toNat).head? = some 45 := fun e => by
   have h2 : (45 : UInt8) ∈ Lib.decDigits n.toNat := List.mem_of_head? e
   have := dec_dig _ _ h2
   revert this; decide
  have hz : ¬ ((Lib.decDigits n.toNat).head? = some 48 /\ (1 < (Lib.decDigits n.toNat).length \/ false = true)) := fun k => by
   have := dec_head _ k.1
   rw [this] at k
   rcases k.2 with h | h
   ·rw [Lib.decDigits, dif_pos (by omega)] at h; simp at h
   ·cases h
  rw [if_neg c, if_neg h45, if_pos ⟨dec_ne _, hl _ (by omega), hz, hd _⟩, dv_dec]
  congr 1; omega
def eats (l : List UInt8) (a : Nat) (w : List UInt8) (q : Int) : Prop := (∃ y, l.drop a = w ++ y) /\ q = a + w.length
theorem eats.rest {l w : List UInt8} {a : Nat} {q : Int} (h : eats l a w q) : l.drop a = w ++ l.drop q.toNat := by
 obtain ⟨⟨y, h1⟩, h2⟩ := h
 rw [h1, show q.toNat = a + w.length by omega, drop_more h1]
theorem leafT (k n : Int) (s : ByteArray) : tL (textT (.mk k n s [] [])) = if k = 0 then [110, 117, 108, 108] else if k = 1 then [102, 97, 108, 115, 101] else if k = 2 then [116, 114, 117, 101] else if k = 3 then Lib.itoa n
 else if k = 4 then 39 :: (tL s ++ [39]) else if k = 6 then [123, 125] else [91, 93] := by
 rw [tT_eq]; rfl
theorem sub_eats {l : List UInt8} {a b : Nat} {w : List UInt8} (h : a <= b) (hb : b <= l.length) (e : sub l a b = w) : eats l a w b := by
 refine ⟨⟨l.drop b, by rw [<- e]; exact sub_app h⟩, ?_⟩
 rw [<- e, sub_length hb]; omega
theorem psN_eats {l : List UInt8} {a : Nat} (h : a < l.length) (hq : 0 <= (psN l a).2) : eats l a (tL (textT (psN l a).1)) (psN l a).2 := by
 revert hq
 unfold psN
 split
 ·rename_i n hn
  intro _
  obtain ⟨h1, h2⟩ := numE_le (l := l) (a := a) (by omega)
  rw [leafT]
  exact sub_eats h1 h2 (numR_sound hn).symm
 ·intro hq; simp only at hq; omega
end Go.Proofs.Pw
namespace Go.Proofs.Pw
open Go.RowKit
variable [Globs]
theorem call_Atoi : okCallee Tryd.prog 54 = true := by kernel_rfl
theorem call_HasPrefix : okCallee Tryd.prog 78 = true := by kernel_rfl
theorem call_IndexByte : okCallee Tryd.prog 79 = true := by kernel_rfl
def errK [Globs] : Prop := (0, C.ifc) ∈ Globs.G /\ (1, C.ifc) ∈ Globs.G
theorem Sound.mono {P : Program} {f : FuncId} {sp sp' : Spec} (h : Sound P f sp) (hm : ∀ args, sp'.pre args -> sp.pre args /\ ∀ r o, sp.may args r o -> sp'.may args r o) : Sound P f sp' :=
 fun args hp w S vs fps hG hS hF ha hA => (h args (hm args hp).1 w S vs fps hG hS hF ha hA).mono (fun _ _ ⟨r, o, h1, h2⟩ => ⟨r, o, (hm args hp).2 r o h1, h2⟩)
theorem apart_none {S : Nat -> Prop} : ∀ {l : List (Nat -> Prop)}, (∀ p ∈ l, ∀ g, ¬ p g) -> Apart S l
 | [], _ => trivial
 | p :: l, h => ⟨fun g hg => absurd hg (h p (by simp) g), fun g hg => absurd hg (h p (by simp) g), apart_none (fun q hq => h q (by simp [hq]))⟩
theorem flat_done {w w' : World} {S : Nat -> Prop} {X : Nat -> Prop} {r : List AV} {v : Value} {rfs fps : List (Nat -> Prop)} {vs : List Value} {o : List AV} (hr : RepR w' S r v rfs) (he : ∀ p ∈ rfs ++ fps, ∀ g, ¬ p g) (ho : All3 (RepA w' S) o vs fps)
 (hS : ∀ g, S g -> g < w.heap.size) (hb : Below w.heap.size w w') : ∃ v' S' rfs fps', Ending.returned v = .returned v' /\ RepR w' S' r v' rfs /\ All3 (RepA w' S') o vs fps' /\
  (∀ g, S' g -> S g \/ w.heap.size <= g \/ X g) /\ (∀ g, S' g -> g < w'.heap.size) /\
  Apart S' (rfs ++ fps') /\ (∀ g, Any (rfs ++ fps') g -> (w.heap.size <= g \/ X g) /\ g < w'.heap.size) /\ Fr X w.heap.size w w' :=
 ⟨v, S, rfs, fps, rfl, hr, ho, fun g hg => .inl hg, fun g hg => Nat.lt_of_lt_of_le (hS g hg) hb.size, apart_none he, fun g ⟨p, hp, hg⟩ => absurd hg (he p hp g), Fr.below X hb⟩
noncomputable def spHasP  : Spec := Spec.of (ι := ByteArray × ByteArray) [false, false] (fun i => [.d (.one (.str i.1)), .d (.one (.str i.2))]) (fun _ => True) (fun i => [.d (.one (.bool ((tL i.2).isPrefixOf (tL i.1))))]) (fun _ => [.gone, .gone])
theorem spHasP_inj : ∀ i j : ByteArray × ByteArray, (fun (i : ByteArray × ByteArray) => ([.d (.one (.str i.1)), .d (.one (.str i.2))] : List AV)) i = (fun (i : ByteArray × ByteArray) => ([.d (.one (.str i.1)), .d (.one (.str i.2))] : List AV)) j -> i = j := by
 rintro ⟨s, p⟩ ⟨s', p'⟩ h
 simp only [Prod.mk.injEq]
 simpa [strs_eq, T.enc_eq, encL_eq, F.enc_eq, encF_eq, Tk.enc_eq, encTk_eq, Gn.enc_eq, ints_eq] using h
theorem spHasP_md  : (spHasP).md = [false, false] := rfl
theorem spHasP_pre  (s : ByteArray) (p : ByteArray) : (spHasP).pre [.d (.one (.str s)), .d (.one (.str p))] = (True) := Spec.of_pre' spHasP_inj (s, p)
theorem spHasP_alts  : (spHasP).alts = none := rfl
theorem spHasP_res  (s : ByteArray) (p : ByteArray) : (spHasP).res [.d (.one (.str s)), .d (.one (.str p))] = [.d (.one (.bool ((tL p).isPrefixOf (tL s))))] := Spec.of_res spHasP_inj (s, p)
theorem spHasP_out  (s : ByteArray) (p : ByteArray) : (spHasP).out [.d (.one (.str s)), .d (.one (.str p))] = [.gone, .gone] := Spec.of_out spHasP_inj (s, p)
theorem hasP_sound : Sound Tryd.prog 78 spHasP := by
 rintro args ⟨⟨s, p⟩, rfl, _⟩ w S vs fps hG hS hF ha hA
 cases hA with
 | cons h1 h2 =>
   cases h2 with
   | cons h2 h3 =>
     cases h3
     obtain ⟨hr1, hf1⟩ := h1
     obtain ⟨hr2, hf2⟩ := h2
     cases hr1
     cases hr2
     refine (Tryd.strings_HasPrefix s p w).mono ?_
     rintro e w' ⟨rfl, rfl⟩
     refine ⟨_, _, (Spec.may_none spHasP_alts).2 ⟨(spHasP_res s p).symm, (spHasP_out s p).symm⟩, flat_done (rfs := [fun _ => False]) ⟨.bool _, fun _ h => h⟩ ?_ (.cons hf1 (.cons hf2 .nil)) hS (Below.refl _ _)⟩
     simp only [List.cons_append, List.nil_append, List.mem_cons, List.not_mem_nil, or_false]
     rintro q (rfl | rfl | rfl) g
     ·exact id
     ·exact hf1 g
     ·exact hf2 g
noncomputable def spIdxB  : Spec := Spec.of (ι := ByteArray × Int) [false, false] (fun i => [.d (.one (.str i.1)), .d (.one (.int .u8 i.2))]) (fun _ => True) (fun i => [.d (.one (.int .i64 (Lib.indexByte (tL i.1) i.2.toNat.toUInt8)))]) (fun _ => [.gone, .gone])
theorem spIdxB_inj : ∀ i j : ByteArray × Int, (fun (i : ByteArray × Int) => ([.d (.one (.str i.1)), .d (.one (.int .u8 i.2))] : List AV)) i = (fun (i : ByteArray × Int) => ([.d (.one (.str i.1)), .d (.one (.int .u8 i.2))] : List AV)) j -> i = j := by
 rintro ⟨s, c⟩ ⟨s', c'⟩ h
 simp only [Prod.mk.injEq]
 simpa [strs_eq, T.enc_eq, encL_eq, F.enc_eq, encF_eq, Tk.enc_eq, encTk_eq, Gn.enc_eq, ints_eq] using h
theorem spIdxB_md  : (spIdxB).md = [false, false] := rfl
theorem spIdxB_pre  (s : ByteArray) (c : Int) : (spIdxB).pre [.d (.one (.str s)), .d (.one (.int .u8 c))] = (True) := Spec.of_pre' spIdxB_inj (s, c)
theorem spIdxB_alts  : (spIdxB).alts = none := rfl
theorem spIdxB_res  (s : ByteArray) (c : Int) : (spIdxB).res [.d (.one (.str s)), .d (.one (.int .u8 c))] = [.d (.one (.int .i64 (Lib.indexByte (tL s) c.toNat.toUInt8)))] := Spec.of_res spIdxB_inj (s, c)
theorem spIdxB_out  (s : ByteArray) (c : Int) : (spIdxB).out [.d (.one (.str s)), .d (.one (.int .u8 c))] = [.gone, .gone] := Spec.of_out spIdxB_inj (s, c)
theorem idxB_sound : Sound Tryd.prog 79 spIdxB := by
 rintro args ⟨⟨s, c⟩, rfl, _⟩ w S vs fps hG hS hF ha hA
 cases hA with
 | cons h1 h2 =>
   cases h2 with
   | cons h2 h3 =>
     cases h3
     obtain ⟨hr1, hf1⟩ := h1
     obtain ⟨hr2, hf2⟩ := h2
     cases hr1
     cases hr2
     refine (Tryd.strings_IndexByte s c w).mono ?_
     rintro e w' ⟨rfl, rfl⟩
     refine ⟨_, _, (Spec.may_none spIdxB_alts).2 ⟨(spIdxB_res s c).symm, (spIdxB_out s c).symm⟩, flat_done (rfs := [fun _ => False]) ⟨.int _ _, fun _ h => h⟩ ?_ (.cons hf1 (.cons hf2 .nil)) hS (Below.refl _ _)⟩
     simp only [List.cons_append, List.nil_append, List.mem_cons, List.not_mem_nil, or_false]
     rintro q (rfl | rfl | rfl) g
     ·exact id
     ·exact hf1 g
     ·exact hf2 g
noncomputable def spAtoi  : Spec := Spec.of (ι := ByteArray) [false] (fun i => [.d (.one (.str i))]) (fun i => lenB 140737488355328 i.size) (fun i => [.d (.one (.int .i64 (atoiN (tL i)))), .d (.one .jk)]) (fun _ => [.gone])
theorem spAtoi_inj : ∀ i j : ByteArray, (fun (i : ByteArray) => ([.d (.one (.str i))] : List AV)) i = (fun (i : ByteArray) => ([.d (.one (.str i))] : List AV)) j -> i = j := by
 intro s s' h
 simpa [strs_eq, T.enc_eq, encL_eq, F.enc_eq, encF_eq, Tk.enc_eq, encTk_eq, Gn.enc_eq, ints_eq] using h
theorem spAtoi_md  : (spAtoi).md = [false] := rfl
theorem spAtoi_pre  (s : ByteArray) : (spAtoi).pre [.d (.one (.str s))] = (lenB 140737488355328 s.size) := Spec.of_pre' spAtoi_inj s
theorem spAtoi_alts  : (spAtoi).alts = none := rfl
theorem spAtoi_res  (s : ByteArray) : (spAtoi).res [.d (.one (.str s))] = [.d (.one (.int .i64 (atoiN (tL s)))), .d (.one .jk)] := Spec.of_res spAtoi_inj s
theorem spAtoi_out  (s : ByteArray) : (spAtoi).out [.d (.one (.str s))] = [.gone] := Spec.of_out spAtoi_inj s
theorem atoi_sound (hE : errK) : Sound Tryd.prog 54 spAtoi := by
 rintro args ⟨s, rfl, hn⟩ w S vs fps hG hS hF ha hA
 simp only [lenB] at hn
 cases hA with
 | cons h1 h2 =>
   rename_i v fp vs fps
   cases h2
   obtain ⟨hr, hfp⟩ := h1
   cases hr
   obtain ⟨_, u1, e1, r1⟩ := hG.1 _ _ hE.1
   obtain ⟨_, u2, e2, r2⟩ := hG.1 _ _ hE.2
   cases r1 with | ifc t1 p1 =>
   cases r2 with | ifc t2 p2 =>
   have key : ∀ (n : Int) (u : Value) (w' : World), atoiN (tL s) = n -> u.oneCell' = true -> Below w.heap.size w w' -> ∃ r o, spAtoi.may [.d (.one (.str s))] r o /\ ∃ v S' rfs fps', Ending.returned (.tuple #[.int .i64 n, u]) = .returned v /\ RepR w' S' r v rfs /\ All3 (RepA w' S') o [.string s] fps' /\
    (∀ g, S' g -> S g \/ w.heap.size <= g \/ Any [fp] g) /\ (∀ g, S' g -> g < w'.heap.size) /\
    Apart S' (rfs ++ fps') /\ (∀ g, Any (rfs ++ fps') g -> (w.heap.size <= g \/ Any [fp] g) /\ g < w'.heap.size) /\ Fr (Any [fp]) w.heap.size w w' := fun n u w' hn hu hb => by
    refine ⟨_, _, (Spec.may_none spAtoi_alts).2 ⟨(spAtoi_res s).symm, (spAtoi_out s).symm⟩, flat_done (rfs := [fun _ => False, fun _ => False]) ⟨by simp, [.int .i64 n, u], rfl, .cons ⟨by rw [hn]; exact .int _ _, fun _ h => h⟩ (.cons ⟨.jk _ hu, fun _ h => h⟩ .nil)⟩ ?_ (.cons hfp .nil) hS hb⟩
    simp only [List.cons_append, List.nil_append, List.mem_cons, List.not_mem_nil, or_false]
    rintro q (rfl | rfl | rfl) g
    ·exact id
    ·exact id
    ·exact hfp g
   cases hat : Lib.atoiAll (tL s) with
   | ok n =>
     refine (Tryd.strconv_Atoi_ok s (by omega) n hat w).mono ?_
     rintro e w' ⟨rfl, h⟩
     refine key n _ w' (by unfold atoiN; rw [hat]) rfl ?_
     rcases h with rfl | ⟨t, rfl⟩
     ·exact Below.refl _ _
     ·exact Lib.bytesWorld_below _ _ _
   | range =>
     refine (Tryd.strconv_Atoi_range s (by omega) hat _ w e2 (.inr ⟨_, _, rfl⟩)).mono ?_
     rintro e w' ⟨N, rfl, _, _, hb⟩
     exact key _ _ w' (by unfold atoiN; rw [hat]; rfl) rfl hb
   | _ =>
     refine (Go.Proofs.Any.strconv_Atoi_syntax Tryd.laysC172 s (by omega) hat _ w e1 (.inr ⟨_, _, rfl⟩)).mono ?_
     rintro e w' ⟨N, rfl, _, _, hb⟩
     exact key 0 _ w' (by unfold atoiN; rw [hat]) rfl hb
theorem ext_sub (s : ByteArray) (a b : Nat) : s.extract a b = bL (sub (tL s) a b) := by
 apply ByteArray.ext
 apply Array.ext'
 simp [bL, sub, tL, ByteArray.data_extract, Array.toList_extract, List.extract]
theorem ext_tl (s : ByteArray) (a : Nat) : tL (s.extract a s.size) = (tL s).drop a := by
 rw [ext_sub]
 show (bL _).data.toList = _
 rw [bL_toList]
 unfold sub tL
 rw [List.take_of_length_le]
 rw [List.length_drop]
 have : s.data.toList.length = s.size := ba_len s
 omega
theorem tL_bL (l : List UInt8) : tL (bL l) = l := bL_toList l
theorem tL_len (s : ByteArray) : (tL s).length = s.size := ba_len s
theorem tL_at {s : ByteArray} {i : Nat} (h : i < s.size) : ∃ c, (tL s)[i]? = some c /\ byteAt s i = (c.toNat : Int) /\ (byteAt s i).toNat.toUInt8 = c /\ (tL s).drop i = c :: (tL s).drop (i + 1) := by
 obtain ⟨x, h1, h2, h3⟩ := byteAt_get h
 have h' : i < (tL s).length := by rw [tL_len]; exact h
 refine ⟨x, h1, h2, by rw [h2]; simp, ?_⟩
 rw [List.drop_eq_getElem_cons h']
 have : (tL s)[i]? = some x := h1
 rw [List.getElem?_eq_getElem h'] at this
 rw [Option.some.inj this]
theorem idx_neg (l : List UInt8) (c : UInt8) : (Lib.indexByte l c < 0) ↔ l.contains c = false := by
 have h0 : ∀ l : List UInt8, Lib.indexByte l c = -1 \/ 0 <= Lib.indexByte l c := fun l => by
  induction l with
  | nil => exact .inl rfl
  | cons b l ih =>
    simp only [Lib.indexByte]
    split
    ·exact .inr (by omega)
    ·split
     ·exact .inl rfl
     ·rename_i h; simp only [beq_iff_eq] at h; exact .inr (by omega)
 induction l with
 | nil => simp [Lib.indexByte]
 | cons b l ih =>
   simp only [Lib.indexByte, List.contains_cons, Bool.or_eq_false_iff]
   by_cases e : b = c
   ·subst e; simp
   ·have e1 : (b == c) = false := by simpa using e
    have e2 : (c == b) = false := by simpa using fun k => e k.symm
    rw [e1, e2]
    simp only [Bool.false_eq_true, if_false, true_and]
    refine Iff.trans ?_ ih
    split
    ·rename_i h; simp only [beq_iff_eq] at h; omega
    ·rename_i h; simp only [beq_iff_eq] at h
     have := h0 l
     omega
end Go.Proofs.Pw
namespace Go.Proofs.Pw
variable [Globs]
def rdrC (s : ByteArray) (a : Nat) : List C := [.str s, .int .i64 (a : Int)]
theorem rdrC_eq {s t : ByteArray} {a b : Nat} : rdrC s a = rdrC t b ↔ s = t /\ a = b := by simp only [rdrC, List.cons.injEq, C.str.injEq, C.int.injEq, true_and, and_true]; exact and_congr_right fun _ => by omega
def x_skip : X := (.seq (.reg [⟨some 4, none, .mv (.k (.c (.bool false)))⟩] none [0, 1]) (.seq (.seq (.reg [⟨some 5, none, .mv (.t 0)⟩, ⟨some 6, none, .nilc (.t 5)⟩, ⟨some 7, none, .fa (.t 6) 0⟩, ⟨some 8, none, .load (.t 7) none⟩, ⟨some 9, none, .mv (.t 0)⟩, ⟨some 10, none, .nilc (.t 9)⟩, ⟨some 11, none, .fa (.t 10) 1⟩, ⟨some 12, none, .load (.t 11) none⟩, ⟨some 13, none, .sub (.t 8) (some (.t 12)) none 0⟩, ⟨some 14, none, .mv (.t 1)⟩, ⟨some 15, none, .call 78 [(.t 13), (.t 14)]⟩] (some 10) [0, 1, 15]) (.cond (.t 15) (.seq (.reg [⟨some 16, none, .mv (.t 0)⟩, ⟨some 17, none, .nilc (.t 16)⟩, ⟨some 18, none, .fa (.t 17) 1⟩, ⟨some 19, none, .load (.t 18) none⟩, ⟨some 20, none, .mv (.t 1)⟩, ⟨some 21, none, .len (.t 20) true⟩, ⟨some 22, none, .bin false .add (.t 19) (.t 21)⟩, ⟨some 23, none, .nilc (.t 16)⟩, ⟨some 24, none, .fa (.t 23) 1⟩, ⟨none, none, .st (.t 24) (.t 22) none⟩] none []) (.seq (.reg [⟨some 4, none, .mv (.k (.c (.bool true)))⟩] none [4]) .ret)) .skip)) (.seq (.reg [⟨some 4, none, .mv (.k (.c (.bool false)))⟩] none [4]) .ret)))
theorem chk_skip : chkX Tryd.prog 25 (Tryd.f52.body.getD .skip) x_skip = true := by kernel_rfl
theorem rs_skip : okRs Tryd.prog Tryd.f52.results.toList [.tmp 4] = true := by kernel_rfl
theorem call_skip : okCallee Tryd.prog 52 = true := by kernel_rfl
def x_upTo : X := (.seq (.reg [⟨some 4, none, .mv (.k (.c (.str ⟨#[]⟩)))⟩] none [0, 1]) (.seq (.reg [⟨some 6, none, .mv (.t 0)⟩, ⟨some 7, none, .nilc (.t 6)⟩, ⟨some 8, none, .fa (.t 7) 1⟩, ⟨some 9, none, .load (.t 8) none⟩, ⟨some 5, none, .mv (.t 9)⟩] none [0, 1, 5]) (.seq (.block 0 (.loop (.seq (.seq (.reg [⟨some 10, none, .mv (.t 0)⟩, ⟨some 11, none, .nilc (.t 10)⟩, ⟨some 12, none, .fa (.t 11) 1⟩, ⟨some 13, none, .load (.t 12) none⟩, ⟨some 14, none, .mv (.t 0)⟩, ⟨some 15, none, .nilc (.t 14)⟩, ⟨some 16, none, .fa (.t 15) 0⟩, ⟨some 17, none, .load (.t 16) none⟩, ⟨some 18, none, .len (.t 17) true⟩, ⟨some 19, none, .bin false .lss (.t 13) (.t 18)⟩, ⟨some 20, none, .mv (.t 19)⟩, ⟨some 21, some (20, true), .mv (.t 1)⟩, ⟨some 22, some (20, true), .mv (.t 0)⟩, ⟨some 23, some (20, true), .nilc (.t 22)⟩, ⟨some 24, some (20, true), .fa (.t 23) 0⟩, ⟨some 25, some (20, true), .load (.t 24) none⟩, ⟨some 26, some (20, true), .mv (.t 0)⟩, ⟨some 27, some (20, true), .nilc (.t 26)⟩, ⟨some 28, some (20, true), .fa (.t 27) 1⟩, ⟨some 29, some (20, true), .load (.t 28) none⟩, ⟨some 30, some (20, true), .idx (.t 25) (.t 29)⟩, ⟨some 31, some (20, true), .call 79 [(.t 21), (.t 30)]⟩, ⟨some 32, some (20, true), .bin false .lss (.t 31) (.k (.c (.int .i64 0)))⟩, ⟨some 33, none, .pick (.t 20) (.t 32) (.k (.c (.bool false)))⟩] (some 21) [0, 1, 5, 33]) (.cond (.t 33) .skip (.exit 0))) (.block 1 (.reg [⟨some 34, none, .mv (.t 0)⟩, ⟨some 35, none, .nilc (.t 34)⟩, ⟨some 36, none, .fa (.t 35) 1⟩, ⟨some 37, none, .load (.t 36) none⟩, ⟨some 38, none, .bin false .add (.t 37) (.k (.c (.int .i64 1)))⟩, ⟨some 39, none, .nilc (.t 34)⟩, ⟨some 40, none, .fa (.t 39) 1⟩, ⟨none, none, .st (.t 40) (.t 38) none⟩] none [0, 1, 5]))))) (.seq (.reg [⟨some 41, none, .mv (.t 0)⟩, ⟨some 42, none, .nilc (.t 41)⟩, ⟨some 43, none, .fa (.t 42) 0⟩, ⟨some 44, none, .load (.t 43) none⟩, ⟨some 45, none, .mv (.t 5)⟩, ⟨some 46, none, .mv (.t 0)⟩, ⟨some 47, none, .nilc (.t 46)⟩, ⟨some 48, none, .fa (.t 47) 1⟩, ⟨some 49, none, .load (.t 48) none⟩, ⟨some 50, none, .sub (.t 44) (some (.t 45)) (some (.t 49)) 0⟩, ⟨some 4, none, .mv (.t 50)⟩] (some 9) [4]) .ret))))
theorem chk_upTo : chkX Tryd.prog 51 (Tryd.f53.body.getD .skip) x_upTo = true := by kernel_rfl
theorem rs_upTo : okRs Tryd.prog Tryd.f53.results.toList [.tmp 4] = true := by kernel_rfl
theorem call_upTo : okCallee Tryd.prog 53 = true := by kernel_rfl
noncomputable def spSkip  : Spec := Spec.of (ι := ByteArray × Nat × ByteArray) [true, false] (fun i => [.ref (rdrC i.1 i.2.1), .d (.one (.str i.2.2))]) (fun i => i.2.1 <= i.1.size /\ lenB 1000000 i.1.size /\ lenB 1000000 i.2.2.size) (fun i => [.d (.one (.bool (skp (tL i.1) i.2.1 (tL i.2.2))))]) (fun i => [.ref (rdrC i.1 (clo (tL i.1) i.2.1 (tL i.2.2))), .gone])
theorem spSkip_inj : ∀ i j : ByteArray × Nat × ByteArray, (fun (i : ByteArray × Nat × ByteArray) => ([.ref (rdrC i.1 i.2.1), .d (.one (.str i.2.2))] : List AV)) i = (fun (i : ByteArray × Nat × ByteArray) => ([.ref (rdrC i.1 i.2.1), .d (.one (.str i.2.2))] : List AV)) j -> i = j := by
 rintro ⟨s, a, p⟩ ⟨s', a', p'⟩ h
 simp only [Prod.mk.injEq]
 simpa [strs_eq, T.enc_eq, encL_eq, F.enc_eq, encF_eq, Tk.enc_eq, encTk_eq, Gn.enc_eq, ints_eq, rdrC_eq, and_assoc] using h
theorem spSkip_md  : (spSkip).md = [true, false] := rfl
theorem spSkip_pre  (s : ByteArray) (a : Nat) (p : ByteArray) : (spSkip).pre [.ref (rdrC s a), .d (.one (.str p))] = (a <= s.size /\ lenB 1000000 s.size /\ lenB 1000000 p.size) := Spec.of_pre' spSkip_inj (s, a, p)
theorem spSkip_res  (s : ByteArray) (a : Nat) (p : ByteArray) : (spSkip).res [.ref (rdrC s a), .d (.one (.str p))] = [.d (.one (.bool (skp (tL s) a (tL p))))] := Spec.of_res spSkip_inj (s, a, p)
theorem spSkip_out  (s : ByteArray) (a : Nat) (p : ByteArray) : (spSkip).out [.ref (rdrC s a), .d (.one (.str p))] = [.ref (rdrC s (clo (tL s) a (tL p))), .gone] := Spec.of_out spSkip_inj (s, a, p)
theorem spSkip_all  (s : ByteArray) (a : Nat) (p : ByteArray) (F : List AV -> List AV -> Prop) : (spSkip).all [.ref (rdrC s a), .d (.one (.str p))] F = F [.d (.one (.bool (skp (tL s) a (tL p))))] [.ref (rdrC s (clo (tL s) a (tL p))), .gone] := by rw [Spec.all_fn rfl, spSkip_res, spSkip_out]
theorem spSkip_ne  (s : ByteArray) (a : Nat) (p : ByteArray) : (spSkip).ne [.ref (rdrC s a), .d (.one (.str p))] = True := Spec.ne_fn rfl _
theorem skip_sound : Sound Tryd.prog 52 spSkip := by
 refine sound_fam (GOK.cons call_HasPrefix hasP_sound GOK.nil) Tryd.func52 (c := Tryd.f52.body.getD .skip) rfl (n := 25) rfl chk_skip rs_skip (fun _ => by simp) ?_ ?_
 ·exact spSkip_inj
 ·rintro ⟨s, a, p⟩ ⟨h1, h2, h3⟩
  simp only [lenB] at h1 h2 h3
  have a1 : (tL p).isPrefixOf (tL (s.extract a s.size)) = skp (tL s) a (tL p) := by rw [ext_tl]; rfl
  have a2 := tL_len p
  by_cases c : skp (tL s) a (tL p) = true
  ·simp only [x_skip, rdrC, rg, go_sem, seval, Prod.fst, a1, c, clo, a2, if_true, spHasP_md, spHasP_pre, spHasP_alts, spHasP_res, spHasP_out]
   repeat' (first | with_reducible assumption | with_reducible refine And.intro ?_ ?_ | intro _)
   all_goals first | omega | skip
  ·have c' : skp (tL s) a (tL p) = false := by simpa using c
   simp only [x_skip, rdrC, rg, go_sem, seval, Prod.fst, a1, c', clo, a2, if_false, spHasP_md, spHasP_pre, spHasP_alts, spHasP_res, spHasP_out]
   repeat' (first | with_reducible assumption | with_reducible refine And.intro ?_ ?_ | intro _)
   all_goals first | omega | skip
theorem upTo_stop {l e : List UInt8} {a : Nat} (h : l.length <= a \/ ∃ c r, l.drop a = c :: r /\ e.contains c = true) : upTo l e a = a := by
 unfold upTo
 rcases h with h | ⟨c, r, h1, h2⟩
 ·rw [List.drop_eq_nil_of_le h]; rfl
 ·rw [h1, List.takeWhile_cons_of_neg (by rw [h2]; simp)]; rfl
theorem upTo_go {l e : List UInt8} {a : Nat} {c : UInt8} (h1 : l.drop a = c :: l.drop (a + 1)) (h2 : e.contains c = false) : upTo l e a = upTo l e (a + 1) := by
 unfold upTo
 rw [h1, List.takeWhile_cons_of_pos (by rw [h2]; rfl), List.length_cons]; omega
noncomputable def spUpTo  : Spec := Spec.of (ι := ByteArray × Nat × ByteArray) [true, false] (fun i => [.ref (rdrC i.1 i.2.1), .d (.one (.str i.2.2))]) (fun i => i.2.1 <= i.1.size /\ lenB 1000000 i.1.size) (fun i => [.d (.one (.str (bL (sub (tL i.1) i.2.1 (upTo (tL i.1) (tL i.2.2) i.2.1)))))]) (fun i => [.ref (rdrC i.1 (upTo (tL i.1) (tL i.2.2) i.2.1)), .gone])
theorem spUpTo_inj : ∀ i j : ByteArray × Nat × ByteArray, (fun (i : ByteArray × Nat × ByteArray) => ([.ref (rdrC i.1 i.2.1), .d (.one (.str i.2.2))] : List AV)) i = (fun (i : ByteArray × Nat × ByteArray) => ([.ref (rdrC i.1 i.2.1), .d (.one (.str i.2.2))] : List AV)) j -> i = j := by
 rintro ⟨s, a, e⟩ ⟨s', a', e'⟩ h
 simp only [Prod.mk.injEq]
 simpa [strs_eq, T.enc_eq, encL_eq, F.enc_eq, encF_eq, Tk.enc_eq, encTk_eq, Gn.enc_eq, ints_eq, rdrC_eq, and_assoc] using h
theorem spUpTo_md  : (spUpTo).md = [true, false] := rfl
theorem spUpTo_pre  (s : ByteArray) (a : Nat) (e : ByteArray) : (spUpTo).pre [.ref (rdrC s a), .d (.one (.str e))] = (a <= s.size /\ lenB 1000000 s.size) := Spec.of_pre' spUpTo_inj (s, a, e)
theorem spUpTo_res  (s : ByteArray) (a : Nat) (e : ByteArray) : (spUpTo).res [.ref (rdrC s a), .d (.one (.str e))] = [.d (.one (.str (bL (sub (tL s) a (upTo (tL s) (tL e) a)))))] := Spec.of_res spUpTo_inj (s, a, e)
theorem spUpTo_out  (s : ByteArray) (a : Nat) (e : ByteArray) : (spUpTo).out [.ref (rdrC s a), .d (.one (.str e))] = [.ref (rdrC s (upTo (tL s) (tL e) a)), .gone] := Spec.of_out spUpTo_inj (s, a, e)
theorem spUpTo_all  (s : ByteArray) (a : Nat) (e : ByteArray) (F : List AV -> List AV -> Prop) : (spUpTo).all [.ref (rdrC s a), .d (.one (.str e))] F = F [.d (.one (.str (bL (sub (tL s) a (upTo (tL s) (tL e) a)))))] [.ref (rdrC s (upTo (tL s) (tL e) a)), .gone] := by rw [Spec.all_fn rfl, spUpTo_res, spUpTo_out]
theorem spUpTo_ne  (s : ByteArray) (a : Nat) (e : ByteArray) : (spUpTo).ne [.ref (rdrC s a), .d (.one (.str e))] = True := Spec.ne_fn rfl _
theorem upTo_sound : Sound Tryd.prog 53 spUpTo := by
 refine sound_fam (GOK.cons call_IndexByte idxB_sound GOK.nil) Tryd.func53 (c := Tryd.f53.body.getD .skip) rfl (n := 51) rfl chk_upTo rs_upTo (fun _ => by simp) ?_ ?_
 ·exact spUpTo_inj
 ·rintro ⟨s, a, e⟩ ⟨h1, h2⟩
  simp only [lenB] at h1 h2
  have hl := tL_len s
  have hu := upTo_le (l := tL s) (e := tL e) (a := a) (by omega)
  rw [hl] at hu
  simp only [x_upTo, rdrC, rg, go_sem, seval, Prod.fst]
  repeat' (first | with_reducible assumption | with_reducible refine And.intro ?_ ?_ | intro _)
  all_goals first | omega | skip
  refine pw_loop (ι := Nat) (fun i => s.size - i) (fun i => a <= i /\ i <= s.size /\ upTo (tL s) (tL e) i = upTo (tL s) (tL e) a)
   (fun i => ⟨[(0, .q (.box 51 0)), (1, .q (.c (.str e))), (5, .q (.c (.int .i64 (a : Int))))], [(51, [.c (.str s), .c (.int .i64 (i : Int))])], []⟩) a ⟨Nat.le_refl _, h1, rfl⟩ (Le.refl _) ?_
  rintro i ⟨g1, g2, g3⟩
  rcases Nat.lt_or_ge i s.size with hlt | hge
  ·obtain ⟨c, b1, b2, b3, b4⟩ := tL_at hlt
   have a1 : ((i : Int) < (s.size : Int)) = True := eq_true (by omega)
   by_cases hc : (tL e).contains c = true
   ·have a2 : (Lib.indexByte (tL e) c < 0) = False := eq_false (by rw [idx_neg, hc]; simp)
    have a3 := upTo_stop (l := tL s) (e := tL e) (a := i) (.inr ⟨c, _, b4, hc⟩)
    rw [g3] at a3
    simp only [rg, go_sem, seval, Prod.fst, a1, b3, a2, a3, ext_sub, Int.toNat_natCast, spIdxB_md, spIdxB_pre, spIdxB_alts, spIdxB_res, spIdxB_out]
    repeat' (first | with_reducible assumption | with_reducible refine And.intro ?_ ?_ | intro _)
    all_goals first | omega | skip
   ·have hc' : (tL e).contains c = false := by simpa using hc
    have a2 : (Lib.indexByte (tL e) c < 0) = True := eq_true (by rw [idx_neg, hc'])
    have a3 := upTo_go (l := tL s) (e := tL e) (a := i) b4 hc'
    simp only [rg, go_sem, seval, Prod.fst, a1, b3, a2, Int.toNat_natCast, spIdxB_md, spIdxB_pre, spIdxB_alts, spIdxB_res, spIdxB_out]
    repeat' (first | with_reducible assumption | with_reducible refine And.intro ?_ ?_ | intro _)
    all_goals first | omega | skip
    exact ⟨i + 1, ⟨by omega, by omega, by rw [<- a3]; exact g3⟩, by omega, Le.of_eq (by simp)⟩
  ·have a1 : ((i : Int) < (s.size : Int)) = False := eq_false (by omega)
   have a3 := upTo_stop (l := tL s) (e := tL e) (a := i) (.inl (by omega))
   rw [g3] at a3
   simp only [rg, go_sem, seval, Prod.fst, a1, a3, ext_sub, Int.toNat_natCast, spIdxB_md, spIdxB_pre, spIdxB_alts, spIdxB_res, spIdxB_out]
   repeat' (first | with_reducible assumption | with_reducible refine And.intro ?_ ?_ | intro _)
   all_goals first | omega | skip
end Go.Proofs.Pw
namespace Go.Proofs.Pw
variable [Globs]
theorem clo_t {l p : List UInt8} {a : Nat} (h : skp l a p = true) : clo l a p = a + p.length := by unfold clo; rw [if_pos h]
theorem clo_f {l p : List UInt8} {a : Nat} (h : skp l a p = false) : clo l a p = a := by unfold clo; rw [h]; rfl
end Go.Proofs.Pw
