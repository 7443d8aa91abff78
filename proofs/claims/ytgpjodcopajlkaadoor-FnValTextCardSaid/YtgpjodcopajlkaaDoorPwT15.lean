/- The reference's reader of trees: what it reads is the text of what it hands back; it reads each text of a tree that is ok. -/
import Derived.Test.YtgpjodcopajlkaaDoorPwT14
import Derived.Test.YtgpjodcopajlkaaDoorPwT13
import Derived.Lib.AtoiErrMem
import Derived.Test.YtgpjodcopajlkaaDoorPwT10
set_option linter.unusedSimpArgs false
set_option linter.unusedVariables false
set_option linter.unusedSectionVars false
set_option maxRecDepth 20000
namespace Go.Proofs.Pw
theorem span_sub (p : UInt8 -> Bool) (l : List UInt8) (a : Nat) : sub l a (spanE p l a) = (l.drop a).takeWhile p := by
 unfold sub spanE
 rw [Nat.add_sub_cancel_left]
 exact (List.prefix_iff_eq_take.1 (List.takeWhile_prefix p)).symm
theorem dec_head (u : Nat) : (Lib.decDigits u).head? = some 48 -> u = 0 := by
 induction u using Nat.strongRecOn with
 | _ u ih =>
   intro h
   by_cases c : u < 10
   ·rw [Lib.decDigits, dif_pos c] at h
    have := dig_nat c
    simp only [List.head?_cons, Option.some.injEq] at h
    rw [h] at this
    have e : (48 : UInt8).toNat = 48 := rfl
    omega
   ·rw [Lib.decDigits, dif_neg c] at h
    obtain ⟨x, r, e⟩ := List.exists_cons_of_ne_nil (dec_ne (u / 10))
    have := ih (u / 10) (by omega) (by rw [e] at h ⊢; simpa using h)
    omega
theorem dec_len : ∀ (k u : Nat), u < 10 ^ (k + 1) -> (Lib.decDigits u).length <= k + 1
 | 0, u, h => by rw [Lib.decDigits, dif_pos (by simpa using h)]; simp
 | k + 1, u, h => by
   by_cases c : u < 10
   ·rw [Lib.decDigits, dif_pos c]; simp
   ·rw [Lib.decDigits, dif_neg c]
    have := dec_len k (u / 10) (by rw [Nat.pow_succ] at h; omega)
    simp only [List.length_append, List.length_singleton]; omega
theorem numR_itoa {n : Int} (h0 : -1000000 <= n) (h1 : n <= 1000000) : numR (Lib.itoa n) = some n := by
 have hl : ∀ u : Nat, u <= 1000000 -> (Lib.decDigits u).length <= 17 := fun u hu => by
  have := dec_len 6 u (by omega)
  omega
 have hd : ∀ u b, b ∈ Lib.decDigits u -> dgtB b = true := fun u b hb => by
  unfold dgtB; simpa using dec_dig u b hb
 unfold numR Lib.itoa
 by_cases c : n < 0
 ·rw [if_pos c, List.head?_cons, if_pos rfl, List.tail_cons, if_pos ⟨dec_ne _, hl _ (by omega), fun k => by have := dec_head _ k.1; omega, hd _⟩, dv_dec]
  congr 1; omega
 ·have h45 : ¬ (Lib.decDigits n.toNat).head? = some 45 := fun e => by
   have h2 : (45 : UInt8) ∈ Lib.decDigits n.toNat := List.mem_of_head? e
   have := dec_dig _ _ h2
   revert this; decide
  have hz : ¬ ((Lib.decDigits n.toNat).head? = some 48 /\ (1 < (Lib.decDigits n.toNat).length \/ false = true)) := fun k => by
   have := dec_head _ k.1
   rw [this] at k
   rcases k.2 with h | h
   ·rw [Lib.decDigits, dif_pos (by omega)] at h; simp at h
   ·cases h
  rw [if_neg c, if_neg h45, if_pos ⟨dec_ne _, hl _ (by omega), hz, hd _⟩, dv_dec]
  congr 1; omega
def eats (l : List UInt8) (a : Nat) (w : List UInt8) (q : Int) : Prop := (∃ y, l.drop a = w ++ y) /\ q = a + w.length
theorem eats.rest {l w : List UInt8} {a : Nat} {q : Int} (h : eats l a w q) : l.drop a = w ++ l.drop q.toNat := by
 obtain ⟨⟨y, h1⟩, h2⟩ := h
 rw [h1, show q.toNat = a + w.length by omega, drop_more h1]
end Go.Proofs.Pw
namespace Go.Proofs.Pw
open Go.RowKit
variable [Globs]
theorem call_Atoi : okCallee Tryd.prog 54 = true := by kernel_rfl
theorem call_HasPrefix : okCallee Tryd.prog 78 = true := by kernel_rfl
theorem call_IndexByte : okCallee Tryd.prog 79 = true := by kernel_rfl
def errK [Globs] : Prop := (0, C.ifc) ∈ Globs.G /\ (1, C.ifc) ∈ Globs.G
theorem Sound.mono {P : Program} {f : FuncId} {sp sp' : Spec} (h : Sound P f sp) (hm : ∀ args, sp'.pre args -> sp.pre args /\ ∀ r o, sp.may args r o -> sp'.may args r o) : Sound P f sp' :=
 fun args hp w S vs fps hG hS hF ha hA => (h args (hm args hp).1 w S vs fps hG hS hF ha hA).mono (fun _ _ ⟨r, o, h1, h2⟩ => ⟨r, o, (hm args hp).2 r o h1, h2⟩)
theorem apart_none {S : Nat -> Prop} : ∀ {l : List (Nat -> Prop)}, (∀ p ∈ l, ∀ g, ¬ p g) -> Apart S l
 | [], _ => trivial
 | p :: l, h => ⟨fun g hg => absurd hg (h p (by simp) g), fun g hg => absurd hg (h p (by simp) g), apart_none (fun q hq => h q (by simp [hq]))⟩
theorem flat_done {w w' : World} {S : Nat -> Prop} {X : Nat -> Prop} {r : List AV} {v : Value} {rfs fps : List (Nat -> Prop)} {vs : List Value} {o : List AV} (hr : RepR w' S r v rfs) (he : ∀ p ∈ rfs ++ fps, ∀ g, ¬ p g) (ho : All3 (RepA w' S) o vs fps)
 (hS : ∀ g, S g -> g < w.heap.size) (hb : Below w.heap.size w w') : ∃ v' S' rfs fps', Ending.returned v = .returned v' /\ RepR w' S' r v' rfs /\ All3 (RepA w' S') o vs fps' /\
  (∀ g, S' g -> S g \/ w.heap.size <= g \/ X g) /\ (∀ g, S' g -> g < w'.heap.size) /\
  Apart S' (rfs ++ fps') /\ (∀ g, Any (rfs ++ fps') g -> (w.heap.size <= g \/ X g) /\ g < w'.heap.size) /\ Fr X w.heap.size w w' :=
 ⟨v, S, rfs, fps, rfl, hr, ho, fun g hg => .inl hg, fun g hg => Nat.lt_of_lt_of_le (hS g hg) hb.size, apart_none he, fun g ⟨p, hp, hg⟩ => absurd hg (he p hp g), Fr.below X hb⟩
noncomputable def spHasP  : Spec := Spec.of (ι := ByteArray × ByteArray) [false, false] (fun i => [.d (.one (.str i.1)), .d (.one (.str i.2))]) (fun _ => True) (fun i => [.d (.one (.bool ((tL i.2).isPrefixOf (tL i.1))))]) (fun _ => [.gone, .gone])
theorem spHasP_inj : ∀ i j : ByteArray × ByteArray, (fun (i : ByteArray × ByteArray) => ([.d (.one (.str i.1)), .d (.one (.str i.2))] : List AV)) i = (fun (i : ByteArray × ByteArray) => ([.d (.one (.str i.1)), .d (.one (.str i.2))] : List AV)) j -> i = j := by
 rintro ⟨s, p⟩ ⟨s', p'⟩ h
 simp only [Prod.mk.injEq]
 simpa [strs_eq, T.enc_eq, encL_eq, F.enc_eq, encF_eq, Tk.enc_eq, encTk_eq, Gn.enc_eq, ints_eq] using h
theorem spHasP_md  : (spHasP).md = [false, false] := rfl
theorem spHasP_pre  (s : ByteArray) (p : ByteArray) : (spHasP).pre [.d (.one (.str s)), .d (.one (.str p))] = (True) := Spec.of_pre' spHasP_inj (s, p)
theorem spHasP_alts  : (spHasP).alts = none := rfl
theorem spHasP_res  (s : ByteArray) (p : ByteArray) : (spHasP).res [.d (.one (.str s)), .d (.one (.str p))] = [.d (.one (.bool ((tL p).isPrefixOf (tL s))))] := Spec.of_res spHasP_inj (s, p)
theorem spHasP_out  (s : ByteArray) (p : ByteArray) : (spHasP).out [.d (.one (.str s)), .d (.one (.str p))] = [.gone, .gone] := Spec.of_out spHasP_inj (s, p)
theorem hasP_sound : Sound Tryd.prog 78 spHasP := by
 rintro args ⟨⟨s, p⟩, rfl, _⟩ w S vs fps hG hS hF ha hA
 cases hA with
 | cons h1 h2 =>
   cases h2 with
   | cons h2 h3 =>
     cases h3
     obtain ⟨hr1, hf1⟩ := h1
     obtain ⟨hr2, hf2⟩ := h2
     cases hr1
     cases hr2
     refine (Tryd.strings_HasPrefix s p w).mono ?_
     rintro e w' ⟨rfl, rfl⟩
     refine ⟨_, _, (Spec.may_none spHasP_alts).2 ⟨(spHasP_res s p).symm, (spHasP_out s p).symm⟩, flat_done (rfs := [fun _ => False]) ⟨.bool _, fun _ h => h⟩ ?_ (.cons hf1 (.cons hf2 .nil)) hS (Below.refl _ _)⟩
     simp only [List.cons_append, List.nil_append, List.mem_cons, List.not_mem_nil, or_false]
     rintro q (rfl | rfl | rfl) g
     ·exact id
     ·exact hf1 g
     ·exact hf2 g
noncomputable def spIdxB  : Spec := Spec.of (ι := ByteArray × Int) [false, false] (fun i => [.d (.one (.str i.1)), .d (.one (.int .u8 i.2))]) (fun _ => True) (fun i => [.d (.one (.int .i64 (Lib.indexByte (tL i.1) i.2.toNat.toUInt8)))]) (fun _ => [.gone, .gone])
theorem spIdxB_inj : ∀ i j : ByteArray × Int, (fun (i : ByteArray × Int) => ([.d (.one (.str i.1)), .d (.one (.int .u8 i.2))] : List AV)) i = (fun (i : ByteArray × Int) => ([.d (.one (.str i.1)), .d (.one (.int .u8 i.2))] : List AV)) j -> i = j := by
 rintro ⟨s, c⟩ ⟨s', c'⟩ h
 simp only [Prod.mk.injEq]
 simpa [strs_eq, T.enc_eq, encL_eq, F.enc_eq, encF_eq, Tk.enc_eq, encTk_eq, Gn.enc_eq, ints_eq] using h
theorem spIdxB_md  : (spIdxB).md = [false, false] := rfl
theorem spIdxB_pre  (s : ByteArray) (c : Int) : (spIdxB).pre [.d (.one (.str s)), .d (.one (.int .u8 c))] = (True) := Spec.of_pre' spIdxB_inj (s, c)
theorem spIdxB_alts  : (spIdxB).alts = none := rfl
theorem spIdxB_res  (s : ByteArray) (c : Int) : (spIdxB).res [.d (.one (.str s)), .d (.one (.int .u8 c))] = [.d (.one (.int .i64 (Lib.indexByte (tL s) c.toNat.toUInt8)))] := Spec.of_res spIdxB_inj (s, c)
theorem spIdxB_out  (s : ByteArray) (c : Int) : (spIdxB).out [.d (.one (.str s)), .d (.one (.int .u8 c))] = [.gone, .gone] := Spec.of_out spIdxB_inj (s, c)
theorem idxB_sound : Sound Tryd.prog 79 spIdxB := by
 rintro args ⟨⟨s, c⟩, rfl, _⟩ w S vs fps hG hS hF ha hA
 cases hA with
 | cons h1 h2 =>
   cases h2 with
   | cons h2 h3 =>
     cases h3
     obtain ⟨hr1, hf1⟩ := h1
     obtain ⟨hr2, hf2⟩ := h2
     cases hr1
     cases hr2
     refine (Tryd.strings_IndexByte s c w).mono ?_
     rintro e w' ⟨rfl, rfl⟩
     refine ⟨_, _, (Spec.may_none spIdxB_alts).2 ⟨(spIdxB_res s c).symm, (spIdxB_out s c).symm⟩, flat_done (rfs := [fun _ => False]) ⟨.int _ _, fun _ h => h⟩ ?_ (.cons hf1 (.cons hf2 .nil)) hS (Below.refl _ _)⟩
     simp only [List.cons_append, List.nil_append, List.mem_cons, List.not_mem_nil, or_false]
     rintro q (rfl | rfl | rfl) g
     ·exact id
     ·exact hf1 g
     ·exact hf2 g
noncomputable def spAtoi  : Spec := Spec.of (ι := ByteArray) [false] (fun i => [.d (.one (.str i))]) (fun i => lenB 140737488355328 i.size) (fun i => [.d (.one (.int .i64 (atoiN (tL i)))), .d (.one .jk)]) (fun _ => [.gone])
theorem spAtoi_inj : ∀ i j : ByteArray, (fun (i : ByteArray) => ([.d (.one (.str i))] : List AV)) i = (fun (i : ByteArray) => ([.d (.one (.str i))] : List AV)) j -> i = j := by
 intro s s' h
 simpa [strs_eq, T.enc_eq, encL_eq, F.enc_eq, encF_eq, Tk.enc_eq, encTk_eq, Gn.enc_eq, ints_eq] using h
theorem spAtoi_md  : (spAtoi).md = [false] := rfl
theorem spAtoi_pre  (s : ByteArray) : (spAtoi).pre [.d (.one (.str s))] = (lenB 140737488355328 s.size) := Spec.of_pre' spAtoi_inj s
theorem spAtoi_alts  : (spAtoi).alts = none := rfl
theorem spAtoi_res  (s : ByteArray) : (spAtoi).res [.d (.one (.str s))] = [.d (.one (.int .i64 (atoiN (tL s)))), .d (.one .jk)] := Spec.of_res spAtoi_inj s
theorem spAtoi_out  (s : ByteArray) : (spAtoi).out [.d (.one (.str s))] = [.gone] := Spec.of_out spAtoi_inj s
theorem atoi_sound (hE : errK) : Sound Tryd.prog 54 spAtoi := by
 rintro args ⟨s, rfl, hn⟩ w S vs fps hG hS hF ha hA
 simp only [lenB] at hn
 cases hA with
 | cons h1 h2 =>
   rename_i v fp vs fps
   cases h2
   obtain ⟨hr, hfp⟩ := h1
   cases hr
   obtain ⟨_, u1, e1, r1⟩ := hG.1 _ _ hE.1
   obtain ⟨_, u2, e2, r2⟩ := hG.1 _ _ hE.2
   cases r1 with | ifc t1 p1 =>
   cases r2 with | ifc t2 p2 =>
   have key : ∀ (n : Int) (u : Value) (w' : World), atoiN (tL s) = n -> u.oneCell' = true -> Below w.heap.size w w' -> ∃ r o, spAtoi.may [.d (.one (.str s))] r o /\ ∃ v S' rfs fps', Ending.returned (.tuple #[.int .i64 n, u]) = .returned v /\ RepR w' S' r v rfs /\ All3 (RepA w' S') o [.string s] fps' /\
    (∀ g, S' g -> S g \/ w.heap.size <= g \/ Any [fp] g) /\ (∀ g, S' g -> g < w'.heap.size) /\
    Apart S' (rfs ++ fps') /\ (∀ g, Any (rfs ++ fps') g -> (w.heap.size <= g \/ Any [fp] g) /\ g < w'.heap.size) /\ Fr (Any [fp]) w.heap.size w w' := fun n u w' hn hu hb => by
    refine ⟨_, _, (Spec.may_none spAtoi_alts).2 ⟨(spAtoi_res s).symm, (spAtoi_out s).symm⟩, flat_done (rfs := [fun _ => False, fun _ => False]) ⟨by simp, [.int .i64 n, u], rfl, .cons ⟨by rw [hn]; exact .int _ _, fun _ h => h⟩ (.cons ⟨.jk _ hu, fun _ h => h⟩ .nil)⟩ ?_ (.cons hfp .nil) hS hb⟩
    simp only [List.cons_append, List.nil_append, List.mem_cons, List.not_mem_nil, or_false]
    rintro q (rfl | rfl | rfl) g
    ·exact id
    ·exact id
    ·exact hfp g
   cases hat : Lib.atoiAll (tL s) with
   | ok n =>
     refine (Tryd.strconv_Atoi_ok s (by omega) n hat w).mono ?_
     rintro e w' ⟨rfl, h⟩
     refine key n _ w' (by unfold atoiN; rw [hat]) rfl ?_
     rcases h with rfl | ⟨t, rfl⟩
     ·exact Below.refl _ _
     ·exact Lib.bytesWorld_below _ _ _
   | range =>
     refine (Tryd.strconv_Atoi_range s (by omega) hat _ w e2 (.inr ⟨_, _, rfl⟩)).mono ?_
     rintro e w' ⟨N, rfl, _, _, hb⟩
     exact key _ _ w' (by unfold atoiN; rw [hat]; rfl) rfl hb
   | _ =>
     refine (Go.Proofs.Any.strconv_Atoi_syntax Tryd.laysC172 s (by omega) hat _ w e1 (.inr ⟨_, _, rfl⟩)).mono ?_
     rintro e w' ⟨N, rfl, _, _, hb⟩
     exact key 0 _ w' (by unfold atoiN; rw [hat]) rfl hb
theorem ext_sub (s : ByteArray) (a b : Nat) : s.extract a b = bL (sub (tL s) a b) := by
 apply ByteArray.ext
 apply Array.ext'
 simp [bL, sub, tL, ByteArray.data_extract, Array.toList_extract, List.extract]
theorem ext_tl (s : ByteArray) (a : Nat) : tL (s.extract a s.size) = (tL s).drop a := by
 rw [ext_sub]
 show (bL _).data.toList = _
 rw [bL_toList]
 unfold sub tL
 rw [List.take_of_length_le]
 rw [List.length_drop]
 have : s.data.toList.length = s.size := ba_len s
 omega
theorem tL_bL (l : List UInt8) : tL (bL l) = l := bL_toList l
theorem tL_len (s : ByteArray) : (tL s).length = s.size := ba_len s
theorem tL_at {s : ByteArray} {i : Nat} (h : i < s.size) : ∃ c, (tL s)[i]? = some c /\ byteAt s i = (c.toNat : Int) /\ (byteAt s i).toNat.toUInt8 = c /\ (tL s).drop i = c :: (tL s).drop (i + 1) := by
 obtain ⟨x, h1, h2, h3⟩ := byteAt_get h
 have h' : i < (tL s).length := by rw [tL_len]; exact h
 refine ⟨x, h1, h2, by rw [h2]; simp, ?_⟩
 rw [List.drop_eq_getElem_cons h']
 have : (tL s)[i]? = some x := h1
 rw [List.getElem?_eq_getElem h'] at this
 rw [Option.some.inj this]
theorem idx_neg (l : List UInt8) (c : UInt8) : (Lib.indexByte l c < 0) ↔ l.contains c = false := by
 have h0 : ∀ l : List UInt8, Lib.indexByte l c = -1 \/ 0 <= Lib.indexByte l c := fun l => by
  induction l with
  | nil => exact .inl rfl
  | cons b l ih =>
    simp only [Lib.indexByte]
    split
    ·exact .inr (by omega)
    ·split
     ·exact .inl rfl
     ·rename_i h; simp only [beq_iff_eq] at h; exact .inr (by omega)
 induction l with
 | nil => simp [Lib.indexByte]
 | cons b l ih =>
   simp only [Lib.indexByte, List.contains_cons, Bool.or_eq_false_iff]
   by_cases e : b = c
   ·subst e; simp
   ·have e1 : (b == c) = false := by simpa using e
    have e2 : (c == b) = false := by simpa using fun k => e k.symm
    rw [e1, e2]
    simp only [Bool.false_eq_true, if_false, true_and]
    refine Iff.trans ?_ ih
    split
    ·rename_i h; simp only [beq_iff_eq] at h; omega
    ·rename_i h; simp only [beq_iff_eq] at h
     have := h0 l
     omega
end Go.Proofs.Pw
namespace Go.Proofs.Pw
variable [Globs]
def rdrC (s : ByteArray) (a : Nat) : List C := [.str s, .int .i64 (a : Int)]
theorem rdrC_eq {s t : ByteArray} {a b : Nat} : rdrC s a = rdrC t b ↔ s = t /\ a = b := by simp only [rdrC, List.cons.injEq, C.str.injEq, C.int.injEq, true_and, and_true]; exact and_congr_right fun _ => by omega
def x_skip : X := (.seq (.reg [⟨some 4, none, .mv (.k (.c (.bool false)))⟩] none [0, 1]) (.seq (.seq (.reg [⟨some 5, none, .mv (.t 0)⟩, ⟨some 6, none, .nilc (.t 5)⟩, ⟨some 7, none, .fa (.t 6) 0⟩, ⟨some 8, none, .load (.t 7) none⟩, ⟨some 9, none, .mv (.t 0)⟩, ⟨some 10, none, .nilc (.t 9)⟩, ⟨some 11, none, .fa (.t 10) 1⟩, ⟨some 12, none, .load (.t 11) none⟩, ⟨some 13, none, .sub (.t 8) (some (.t 12)) none 0⟩, ⟨some 14, none, .mv (.t 1)⟩, ⟨some 15, none, .call 78 [(.t 13), (.t 14)]⟩] (some 10) [0, 1, 15]) (.cond (.t 15) (.seq (.reg [⟨some 16, none, .mv (.t 0)⟩, ⟨some 17, none, .nilc (.t 16)⟩, ⟨some 18, none, .fa (.t 17) 1⟩, ⟨some 19, none, .load (.t 18) none⟩, ⟨some 20, none, .mv (.t 1)⟩, ⟨some 21, none, .len (.t 20) true⟩, ⟨some 22, none, .bin false .add (.t 19) (.t 21)⟩, ⟨some 23, none, .nilc (.t 16)⟩, ⟨some 24, none, .fa (.t 23) 1⟩, ⟨none, none, .st (.t 24) (.t 22) none⟩] none []) (.seq (.reg [⟨some 4, none, .mv (.k (.c (.bool true)))⟩] none [4]) .ret)) .skip)) (.seq (.reg [⟨some 4, none, .mv (.k (.c (.bool false)))⟩] none [4]) .ret)))
theorem chk_skip : chkX Tryd.prog 25 (Tryd.f52.body.getD .skip) x_skip = true := by kernel_rfl
theorem rs_skip : okRs Tryd.prog Tryd.f52.results.toList [.tmp 4] = true := by kernel_rfl
theorem call_skip : okCallee Tryd.prog 52 = true := by kernel_rfl
def x_upTo : X := (.seq (.reg [⟨some 4, none, .mv (.k (.c (.str ⟨#[]⟩)))⟩] none [0, 1]) (.seq (.reg [⟨some 6, none, .mv (.t 0)⟩, ⟨some 7, none, .nilc (.t 6)⟩, ⟨some 8, none, .fa (.t 7) 1⟩, ⟨some 9, none, .load (.t 8) none⟩, ⟨some 5, none, .mv (.t 9)⟩] none [0, 1, 5]) (.seq (.block 0 (.loop (.seq (.seq (.reg [⟨some 10, none, .mv (.t 0)⟩, ⟨some 11, none, .nilc (.t 10)⟩, ⟨some 12, none, .fa (.t 11) 1⟩, ⟨some 13, none, .load (.t 12) none⟩, ⟨some 14, none, .mv (.t 0)⟩, ⟨some 15, none, .nilc (.t 14)⟩, ⟨some 16, none, .fa (.t 15) 0⟩, ⟨some 17, none, .load (.t 16) none⟩, ⟨some 18, none, .len (.t 17) true⟩, ⟨some 19, none, .bin false .lss (.t 13) (.t 18)⟩, ⟨some 20, none, .mv (.t 19)⟩, ⟨some 21, some (20, true), .mv (.t 1)⟩, ⟨some 22, some (20, true), .mv (.t 0)⟩, ⟨some 23, some (20, true), .nilc (.t 22)⟩, ⟨some 24, some (20, true), .fa (.t 23) 0⟩, ⟨some 25, some (20, true), .load (.t 24) none⟩, ⟨some 26, some (20, true), .mv (.t 0)⟩, ⟨some 27, some (20, true), .nilc (.t 26)⟩, ⟨some 28, some (20, true), .fa (.t 27) 1⟩, ⟨some 29, some (20, true), .load (.t 28) none⟩, ⟨some 30, some (20, true), .idx (.t 25) (.t 29)⟩, ⟨some 31, some (20, true), .call 79 [(.t 21), (.t 30)]⟩, ⟨some 32, some (20, true), .bin false .lss (.t 31) (.k (.c (.int .i64 0)))⟩, ⟨some 33, none, .pick (.t 20) (.t 32) (.k (.c (.bool false)))⟩] (some 21) [0, 1, 5, 33]) (.cond (.t 33) .skip (.exit 0))) (.block 1 (.reg [⟨some 34, none, .mv (.t 0)⟩, ⟨some 35, none, .nilc (.t 34)⟩, ⟨some 36, none, .fa (.t 35) 1⟩, ⟨some 37, none, .load (.t 36) none⟩, ⟨some 38, none, .bin false .add (.t 37) (.k (.c (.int .i64 1)))⟩, ⟨some 39, none, .nilc (.t 34)⟩, ⟨some 40, none, .fa (.t 39) 1⟩, ⟨none, none, .st (.t 40) (.t 38) none⟩] none [0, 1, 5]))))) (.seq (.reg [⟨some 41, none, .mv (.t 0)⟩, ⟨some 42, none, .nilc (.t 41)⟩, ⟨some 43, none, .fa (.t 42) 0⟩, ⟨some 44, none, .load (.t 43) none⟩, ⟨some 45, none, .mv (.t 5)⟩, ⟨some 46, none, .mv (.t 0)⟩, ⟨some 47, none, .nilc (.t 46)⟩, ⟨some 48, none, .fa (.t 47) 1⟩, ⟨some 49, none, .load (.t 48) none⟩, ⟨some 50, none, .sub (.t 44) (some (.t 45)) (some (.t 49)) 0⟩, ⟨some 4, none, .mv (.t 50)⟩] (some 9) [4]) .ret))))
theorem chk_upTo : chkX Tryd.prog 51 (Tryd.f53.body.getD .skip) x_upTo = true := by kernel_rfl
theorem rs_upTo : okRs Tryd.prog Tryd.f53.results.toList [.tmp 4] = true := by kernel_rfl
theorem call_upTo : okCallee Tryd.prog 53 = true := by kernel_rfl
def x_rval : X := (.seq (.reg [⟨some 4, none, .alloc [(.c (.int .i64 0)), (.c (.int .i64 0)), (.c (.str ⟨#[]⟩)), (.z 1), (.z 5)]⟩] none [0, 1, 4]) (.seq (.seq (.reg [⟨some 10, none, .mv (.t 1)⟩, ⟨some 11, none, .bin false .gtr (.t 10) (.k (.c (.int .i64 6)))⟩] none [0, 1, 4, 11]) (.cond (.t 11) (.seq (.reg [⟨some 12, none, .build [(.c (.int .i64 0)), (.c (.int .i64 0)), (.c (.str ⟨#[]⟩)), (.z 1), (.z 5)] []⟩, ⟨none, none, .st (.t 4) (.t 12) (some 5)⟩] none [4]) .ret) .skip)) (.seq (.block 0 (.seq (.reg [⟨some 14, none, .mv (.t 0)⟩, ⟨some 15, none, .callr 52 [(.t 14), (.k (.c (.str ⟨#[110, 117, 108, 108]⟩)))]⟩, ⟨some 13, none, .mv (.t 15)⟩] none [0, 1, 4, 13]) (.cond (.t 13) (.seq (.reg [⟨some 16, none, .build [(.c (.int .i64 0)), (.c (.int .i64 0)), (.c (.str ⟨#[]⟩)), (.z 1), (.z 5)] []⟩, ⟨none, none, .st (.t 4) (.t 16) (some 5)⟩] none [4]) .ret) (.seq (.reg [⟨some 18, none, .mv (.t 0)⟩, ⟨some 19, none, .callr 52 [(.t 18), (.k (.c (.str ⟨#[102, 97, 108, 115, 101]⟩)))]⟩, ⟨some 17, none, .mv (.t 19)⟩] none [0, 1, 4, 17]) (.cond (.t 17) (.seq (.reg [⟨some 20, none, .build [(.c (.int .i64 0)), (.c (.int .i64 0)), (.c (.str ⟨#[]⟩)), (.z 1), (.z 5)] [(0, (.k (.c (.int .i64 1))), none)]⟩, ⟨none, none, .st (.t 4) (.t 20) (some 5)⟩] none [4]) .ret) (.seq (.reg [⟨some 22, none, .mv (.t 0)⟩, ⟨some 23, none, .callr 52 [(.t 22), (.k (.c (.str ⟨#[116, 114, 117, 101]⟩)))]⟩, ⟨some 21, none, .mv (.t 23)⟩] none [0, 1, 4, 21]) (.cond (.t 21) (.seq (.reg [⟨some 24, none, .build [(.c (.int .i64 0)), (.c (.int .i64 0)), (.c (.str ⟨#[]⟩)), (.z 1), (.z 5)] [(0, (.k (.c (.int .i64 2))), none)]⟩, ⟨none, none, .st (.t 4) (.t 24) (some 5)⟩] none [4]) .ret) (.seq (.reg [⟨some 26, none, .mv (.t 0)⟩, ⟨some 27, none, .callr 52 [(.t 26), (.k (.c (.str ⟨#[39]⟩)))]⟩, ⟨some 25, none, .mv (.t 27)⟩] none [0, 1, 4, 25]) (.cond (.t 25) (.seq (.reg [⟨some 28, none, .mv (.t 0)⟩, ⟨some 29, none, .callr 53 [(.t 28), (.k (.c (.str ⟨#[39]⟩)))]⟩, ⟨some 30, none, .build [(.c (.int .i64 0)), (.c (.int .i64 0)), (.c (.str ⟨#[]⟩)), (.z 1), (.z 5)] [(0, (.k (.c (.int .i64 4))), none), (2, (.t 29), none)]⟩, ⟨some 5, none, .alloc [(.c (.int .i64 0)), (.c (.int .i64 0)), (.c (.str ⟨#[]⟩)), (.z 1), (.z 5)]⟩, ⟨none, none, .st (.t 5) (.t 30) (some 5)⟩] none [0, 4, 5]) (.seq (.reg [⟨some 31, none, .mv (.t 0)⟩, ⟨some 32, none, .callr 52 [(.t 31), (.k (.c (.str ⟨#[39]⟩)))]⟩] none [4, 5]) (.seq (.reg [⟨some 33, none, .load (.t 5) (some 5)⟩, ⟨none, none, .st (.t 4) (.t 33) (some 5)⟩] none [4]) .ret))) (.seq (.reg [⟨some 35, none, .mv (.t 0)⟩, ⟨some 36, none, .callr 52 [(.t 35), (.k (.c (.str ⟨#[91]⟩)))]⟩, ⟨some 34, none, .mv (.t 36)⟩] none [0, 1, 4, 34]) (.cond (.t 34) (.seq (.reg [⟨some 37, none, .bsl 5 []⟩, ⟨some 38, none, .build [(.c (.int .i64 0)), (.c (.int .i64 0)), (.c (.str ⟨#[]⟩)), (.z 1), (.z 5)] [(0, (.k (.c (.int .i64 5))), none), (4, (.t 37), none)]⟩, ⟨some 6, none, .alloc [(.c (.int .i64 0)), (.c (.int .i64 0)), (.c (.str ⟨#[]⟩)), (.z 1), (.z 5)]⟩, ⟨none, none, .st (.t 6) (.t 38) (some 5)⟩] none [0, 1, 4, 6]) (.seq (.seq (.reg [⟨some 39, none, .mv (.t 0)⟩, ⟨some 40, none, .callr 52 [(.t 39), (.k (.c (.str ⟨#[93]⟩)))]⟩] none [0, 1, 4, 6, 40]) (.cond (.t 40) (.seq (.reg [⟨some 41, none, .load (.t 6) (some 5)⟩, ⟨none, none, .st (.t 4) (.t 41) (some 5)⟩] none [4]) .ret) .skip)) (.seq (.block 1 (.loop (.seq (.seq (.reg [⟨some 42, none, .fa (.t 6) 4⟩, ⟨some 43, none, .load (.t 42) none⟩, ⟨some 44, none, .len (.t 43) false⟩, ⟨some 45, none, .bin false .leq (.t 44) (.k (.c (.int .i64 60)))⟩] none [0, 1, 4, 6, 45]) (.cond (.t 45) .skip (.exit 1))) (.block 2 (.seq (.mix [⟨some 46, none, .fa (.t 6) 4⟩, ⟨some 47, none, .load (.t 46) none⟩, ⟨some 48, none, .mv (.t 0)⟩, ⟨some 49, none, .mv (.t 1)⟩, ⟨some 50, none, .bin false .add (.t 49) (.k (.c (.int .i64 1)))⟩, ⟨some 51, none, .callr 36 [(.t 48), (.t 50)]⟩, ⟨some 52, none, .bsl 5 [((.t 51), (some 5))]⟩] [⟨some 53, none, .app (.t 47) (.t 52) 5 80 []⟩, ⟨some 54, none, .fa (.t 6) 4⟩, ⟨none, none, .st (.t 54) (.t 53) none⟩] [[], [], [], [], [], [1], []] [0, 1, 4, 6]) (.seq (.reg [⟨some 55, none, .mv (.t 0)⟩, ⟨some 56, none, .callr 52 [(.t 55), (.k (.c (.str ⟨#[44]⟩)))]⟩, ⟨some 57, none, .not (.t 56)⟩] none [0, 1, 4, 6, 57]) (.cond (.t 57) (.exit 1) .skip))))))) (.seq (.reg [⟨some 58, none, .mv (.t 0)⟩, ⟨some 59, none, .callr 52 [(.t 58), (.k (.c (.str ⟨#[93]⟩)))]⟩] none [4, 6]) (.seq (.reg [⟨some 60, none, .load (.t 6) (some 5)⟩, ⟨none, none, .st (.t 4) (.t 60) (some 5)⟩] none [4]) .ret))))) (.seq (.reg [⟨some 62, none, .mv (.t 0)⟩, ⟨some 63, none, .callr 52 [(.t 62), (.k (.c (.str ⟨#[123]⟩)))]⟩, ⟨some 61, none, .mv (.t 63)⟩] none [0, 1, 4, 61]) (.cond (.t 61) (.seq (.reg [⟨some 64, none, .bsl 1 []⟩, ⟨some 65, none, .bsl 5 []⟩, ⟨some 66, none, .build [(.c (.int .i64 0)), (.c (.int .i64 0)), (.c (.str ⟨#[]⟩)), (.z 1), (.z 5)] [(0, (.k (.c (.int .i64 6))), none), (3, (.t 64), none), (4, (.t 65), none)]⟩, ⟨some 7, none, .alloc [(.c (.int .i64 0)), (.c (.int .i64 0)), (.c (.str ⟨#[]⟩)), (.z 1), (.z 5)]⟩, ⟨none, none, .st (.t 7) (.t 66) (some 5)⟩] none [0, 1, 4, 7]) (.seq (.seq (.reg [⟨some 67, none, .mv (.t 0)⟩, ⟨some 68, none, .callr 52 [(.t 67), (.k (.c (.str ⟨#[125]⟩)))]⟩] none [0, 1, 4, 7, 68]) (.cond (.t 68) (.seq (.reg [⟨some 69, none, .load (.t 7) (some 5)⟩, ⟨none, none, .st (.t 4) (.t 69) (some 5)⟩] none [4]) .ret) .skip)) (.seq (.block 3 (.loop (.seq (.seq (.reg [⟨some 70, none, .fa (.t 7) 4⟩, ⟨some 71, none, .load (.t 70) none⟩, ⟨some 72, none, .len (.t 71) false⟩, ⟨some 73, none, .bin false .leq (.t 72) (.k (.c (.int .i64 60)))⟩] none [0, 1, 4, 7, 73]) (.cond (.t 73) .skip (.exit 3))) (.block 4 (.seq (.mix [⟨some 74, none, .fa (.t 7) 3⟩, ⟨some 75, none, .load (.t 74) none⟩, ⟨some 76, none, .mv (.t 0)⟩, ⟨some 77, none, .callr 53 [(.t 76), (.k (.c (.str ⟨#[58]⟩)))]⟩, ⟨some 78, none, .bsl 1 [((.t 77), none)]⟩] [⟨some 79, none, .app (.t 75) (.t 78) 1 16 []⟩, ⟨some 80, none, .fa (.t 7) 3⟩, ⟨none, none, .st (.t 80) (.t 79) none⟩] [[], [], [], [1], []] [0, 1, 4, 7]) (.seq (.reg [⟨some 81, none, .mv (.t 0)⟩, ⟨some 82, none, .callr 52 [(.t 81), (.k (.c (.str ⟨#[58]⟩)))]⟩] none [0, 1, 4, 7]) (.seq (.mix [⟨some 83, none, .fa (.t 7) 4⟩, ⟨some 84, none, .load (.t 83) none⟩, ⟨some 85, none, .mv (.t 0)⟩, ⟨some 86, none, .mv (.t 1)⟩, ⟨some 87, none, .bin false .add (.t 86) (.k (.c (.int .i64 1)))⟩, ⟨some 88, none, .callr 36 [(.t 85), (.t 87)]⟩, ⟨some 89, none, .bsl 5 [((.t 88), (some 5))]⟩] [⟨some 90, none, .app (.t 84) (.t 89) 5 80 []⟩, ⟨some 91, none, .fa (.t 7) 4⟩, ⟨none, none, .st (.t 91) (.t 90) none⟩] [[], [], [], [], [], [1], []] [0, 1, 4, 7]) (.seq (.reg [⟨some 92, none, .mv (.t 0)⟩, ⟨some 93, none, .callr 52 [(.t 92), (.k (.c (.str ⟨#[44]⟩)))]⟩, ⟨some 94, none, .not (.t 93)⟩] none [0, 1, 4, 7, 94]) (.cond (.t 94) (.exit 3) .skip))))))))) (.seq (.reg [⟨some 95, none, .mv (.t 0)⟩, ⟨some 96, none, .callr 52 [(.t 95), (.k (.c (.str ⟨#[125]⟩)))]⟩] none [4, 7]) (.seq (.reg [⟨some 97, none, .load (.t 7) (some 5)⟩, ⟨none, none, .st (.t 4) (.t 97) (some 5)⟩] none [4]) .ret))))) .skip))))))))))))) (.seq (.reg [⟨some 99, none, .mv (.t 0)⟩, ⟨some 100, none, .callr 53 [(.t 99), (.k (.c (.str ⟨#[44, 93, 125]⟩)))]⟩, ⟨some 101, none, .call 54 [(.t 100)]⟩, ⟨some 98, none, .mv (.t 101)⟩, ⟨some 102, none, .ext (.t 98) 0⟩, ⟨some 103, none, .ext (.t 98) 1⟩, ⟨some 8, none, .mv (.t 102)⟩, ⟨some 9, none, .mv (.t 103)⟩] none [4, 8]) (.seq (.reg [⟨some 104, none, .mv (.t 8)⟩, ⟨some 105, none, .build [(.c (.int .i64 0)), (.c (.int .i64 0)), (.c (.str ⟨#[]⟩)), (.z 1), (.z 5)] [(0, (.k (.c (.int .i64 3))), none), (1, (.t 104), none)]⟩, ⟨none, none, .st (.t 4) (.t 105) (some 5)⟩] none [4]) .ret)))))
theorem chk_rval : chkX Tryd.prog 106 (Tryd.f36.body.getD .skip) x_rval = true := by kernel_rfl
theorem rs_rval : okRs Tryd.prog Tryd.f36.results.toList [.cell 4 (some 5)] = true := by kernel_rfl
theorem call_rval : okCallee Tryd.prog 36 = true := by kernel_rfl
noncomputable def spSkip  : Spec := Spec.of (ι := ByteArray × Nat × ByteArray) [true, false] (fun i => [.ref (rdrC i.1 i.2.1), .d (.one (.str i.2.2))]) (fun i => i.2.1 <= i.1.size /\ lenB 1000000 i.1.size /\ lenB 1000000 i.2.2.size) (fun i => [.d (.one (.bool (skp (tL i.1) i.2.1 (tL i.2.2))))]) (fun i => [.ref (rdrC i.1 (clo (tL i.1) i.2.1 (tL i.2.2))), .gone])
theorem spSkip_inj : ∀ i j : ByteArray × Nat × ByteArray, (fun (i : ByteArray × Nat × ByteArray) => ([.ref (rdrC i.1 i.2.1), .d (.one (.str i.2.2))] : List AV)) i = (fun (i : ByteArray × Nat × ByteArray) => ([.ref (rdrC i.1 i.2.1), .d (.one (.str i.2.2))] : List AV)) j -> i = j := by
 rintro ⟨s, a, p⟩ ⟨s', a', p'⟩ h
 simp only [Prod.mk.injEq]
 simpa [strs_eq, T.enc_eq, encL_eq, F.enc_eq, encF_eq, Tk.enc_eq, encTk_eq, Gn.enc_eq, ints_eq, rdrC_eq, and_assoc] using h
theorem spSkip_md  : (spSkip).md = [true, false] := rfl
theorem spSkip_pre  (s : ByteArray) (a : Nat) (p : ByteArray) : (spSkip).pre [.ref (rdrC s a), .d (.one (.str p))] = (a <= s.size /\ lenB 1000000 s.size /\ lenB 1000000 p.size) := Spec.of_pre' spSkip_inj (s, a, p)
theorem spSkip_res  (s : ByteArray) (a : Nat) (p : ByteArray) : (spSkip).res [.ref (rdrC s a), .d (.one (.str p))] = [.d (.one (.bool (skp (tL s) a (tL p))))] := Spec.of_res spSkip_inj (s, a, p)
theorem spSkip_out  (s : ByteArray) (a : Nat) (p : ByteArray) : (spSkip).out [.ref (rdrC s a), .d (.one (.str p))] = [.ref (rdrC s (clo (tL s) a (tL p))), .gone] := Spec.of_out spSkip_inj (s, a, p)
theorem spSkip_all  (s : ByteArray) (a : Nat) (p : ByteArray) (F : List AV -> List AV -> Prop) : (spSkip).all [.ref (rdrC s a), .d (.one (.str p))] F = F [.d (.one (.bool (skp (tL s) a (tL p))))] [.ref (rdrC s (clo (tL s) a (tL p))), .gone] := by rw [Spec.all_fn rfl, spSkip_res, spSkip_out]
theorem spSkip_ne  (s : ByteArray) (a : Nat) (p : ByteArray) : (spSkip).ne [.ref (rdrC s a), .d (.one (.str p))] = True := Spec.ne_fn rfl _
theorem skip_sound : Sound Tryd.prog 52 spSkip := by
 refine sound_fam (GOK.cons call_HasPrefix hasP_sound GOK.nil) Tryd.func52 (c := Tryd.f52.body.getD .skip) rfl (n := 25) rfl chk_skip rs_skip (fun _ => by simp) ?_ ?_
 ·exact spSkip_inj
 ·rintro ⟨s, a, p⟩ ⟨h1, h2, h3⟩
  simp only [lenB] at h1 h2 h3
  have a1 : (tL p).isPrefixOf (tL (s.extract a s.size)) = skp (tL s) a (tL p) := by rw [ext_tl]; rfl
  have a2 := tL_len p
  by_cases c : skp (tL s) a (tL p) = true
  ·simp only [x_skip, rdrC, rg, go_sem, seval, Prod.fst, a1, c, clo, a2, if_true, spHasP_md, spHasP_pre, spHasP_alts, spHasP_res, spHasP_out]
   repeat' (first | with_reducible assumption | with_reducible refine And.intro ?_ ?_ | intro _)
   all_goals first | omega | skip
  ·have c' : skp (tL s) a (tL p) = false := by simpa using c
   simp only [x_skip, rdrC, rg, go_sem, seval, Prod.fst, a1, c', clo, a2, if_false, spHasP_md, spHasP_pre, spHasP_alts, spHasP_res, spHasP_out]
   repeat' (first | with_reducible assumption | with_reducible refine And.intro ?_ ?_ | intro _)
   all_goals first | omega | skip
theorem upTo_stop {l e : List UInt8} {a : Nat} (h : l.length <= a \/ ∃ c r, l.drop a = c :: r /\ e.contains c = true) : upTo l e a = a := by
 unfold upTo
 rcases h with h | ⟨c, r, h1, h2⟩
 ·rw [List.drop_eq_nil_of_le h]; rfl
 ·rw [h1, List.takeWhile_cons_of_neg (by rw [h2]; simp)]; rfl
theorem upTo_go {l e : List UInt8} {a : Nat} {c : UInt8} (h1 : l.drop a = c :: l.drop (a + 1)) (h2 : e.contains c = false) : upTo l e a = upTo l e (a + 1) := by
 unfold upTo
 rw [h1, List.takeWhile_cons_of_pos (by rw [h2]; rfl), List.length_cons]; omega
noncomputable def spUpTo  : Spec := Spec.of (ι := ByteArray × Nat × ByteArray) [true, false] (fun i => [.ref (rdrC i.1 i.2.1), .d (.one (.str i.2.2))]) (fun i => i.2.1 <= i.1.size /\ lenB 1000000 i.1.size) (fun i => [.d (.one (.str (bL (sub (tL i.1) i.2.1 (upTo (tL i.1) (tL i.2.2) i.2.1)))))]) (fun i => [.ref (rdrC i.1 (upTo (tL i.1) (tL i.2.2) i.2.1)), .gone])
theorem spUpTo_inj : ∀ i j : ByteArray × Nat × ByteArray, (fun (i : ByteArray × Nat × ByteArray) => ([.ref (rdrC i.1 i.2.1), .d (.one (.str i.2.2))] : List AV)) i = (fun (i : ByteArray × Nat × ByteArray) => ([.ref (rdrC i.1 i.2.1), .d (.one (.str i.2.2))] : List AV)) j -> i = j := by
 rintro ⟨s, a, e⟩ ⟨s', a', e'⟩ h
 simp only [Prod.mk.injEq]
 simpa [strs_eq, T.enc_eq, encL_eq, F.enc_eq, encF_eq, Tk.enc_eq, encTk_eq, Gn.enc_eq, ints_eq, rdrC_eq, and_assoc] using h
theorem spUpTo_md  : (spUpTo).md = [true, false] := rfl
theorem spUpTo_pre  (s : ByteArray) (a : Nat) (e : ByteArray) : (spUpTo).pre [.ref (rdrC s a), .d (.one (.str e))] = (a <= s.size /\ lenB 1000000 s.size) := Spec.of_pre' spUpTo_inj (s, a, e)
theorem spUpTo_res  (s : ByteArray) (a : Nat) (e : ByteArray) : (spUpTo).res [.ref (rdrC s a), .d (.one (.str e))] = [.d (.one (.str (bL (sub (tL s) a (upTo (tL s) (tL e) a)))))] := Spec.of_res spUpTo_inj (s, a, e)
theorem spUpTo_out  (s : ByteArray) (a : Nat) (e : ByteArray) : (spUpTo).out [.ref (rdrC s a), .d (.one (.str e))] = [.ref (rdrC s (upTo (tL s) (tL e) a)), .gone] := Spec.of_out spUpTo_inj (s, a, e)
theorem spUpTo_all  (s : ByteArray) (a : Nat) (e : ByteArray) (F : List AV -> List AV -> Prop) : (spUpTo).all [.ref (rdrC s a), .d (.one (.str e))] F = F [.d (.one (.str (bL (sub (tL s) a (upTo (tL s) (tL e) a)))))] [.ref (rdrC s (upTo (tL s) (tL e) a)), .gone] := by rw [Spec.all_fn rfl, spUpTo_res, spUpTo_out]
theorem spUpTo_ne  (s : ByteArray) (a : Nat) (e : ByteArray) : (spUpTo).ne [.ref (rdrC s a), .d (.one (.str e))] = True := Spec.ne_fn rfl _
theorem upTo_sound : Sound Tryd.prog 53 spUpTo := by
 refine sound_fam (GOK.cons call_IndexByte idxB_sound GOK.nil) Tryd.func53 (c := Tryd.f53.body.getD .skip) rfl (n := 51) rfl chk_upTo rs_upTo (fun _ => by simp) ?_ ?_
 ·exact spUpTo_inj
 ·rintro ⟨s, a, e⟩ ⟨h1, h2⟩
  simp only [lenB] at h1 h2
  have hl := tL_len s
  have hu := upTo_le (l := tL s) (e := tL e) (a := a) (by omega)
  rw [hl] at hu
  simp only [x_upTo, rdrC, rg, go_sem, seval, Prod.fst]
  repeat' (first | with_reducible assumption | with_reducible refine And.intro ?_ ?_ | intro _)
  all_goals first | omega | skip
  refine pw_loop (ι := Nat) (fun i => s.size - i) (fun i => a <= i /\ i <= s.size /\ upTo (tL s) (tL e) i = upTo (tL s) (tL e) a)
   (fun i => ⟨[(0, .q (.box 51 0)), (1, .q (.c (.str e))), (5, .q (.c (.int .i64 (a : Int))))], [(51, [.c (.str s), .c (.int .i64 (i : Int))])], []⟩) a ⟨Nat.le_refl _, h1, rfl⟩ (Le.refl _) ?_
  rintro i ⟨g1, g2, g3⟩
  rcases Nat.lt_or_ge i s.size with hlt | hge
  ·obtain ⟨c, b1, b2, b3, b4⟩ := tL_at hlt
   have a1 : ((i : Int) < (s.size : Int)) = True := eq_true (by omega)
   by_cases hc : (tL e).contains c = true
   ·have a2 : (Lib.indexByte (tL e) c < 0) = False := eq_false (by rw [idx_neg, hc]; simp)
    have a3 := upTo_stop (l := tL s) (e := tL e) (a := i) (.inr ⟨c, _, b4, hc⟩)
    rw [g3] at a3
    simp only [rg, go_sem, seval, Prod.fst, a1, b3, a2, a3, ext_sub, Int.toNat_natCast, spIdxB_md, spIdxB_pre, spIdxB_alts, spIdxB_res, spIdxB_out]
    repeat' (first | with_reducible assumption | with_reducible refine And.intro ?_ ?_ | intro _)
    all_goals first | omega | skip
   ·have hc' : (tL e).contains c = false := by simpa using hc
    have a2 : (Lib.indexByte (tL e) c < 0) = True := eq_true (by rw [idx_neg, hc'])
    have a3 := upTo_go (l := tL s) (e := tL e) (a := i) b4 hc'
    simp only [rg, go_sem, seval, Prod.fst, a1, b3, a2, Int.toNat_natCast, spIdxB_md, spIdxB_pre, spIdxB_alts, spIdxB_res, spIdxB_out]
    repeat' (first | with_reducible assumption | with_reducible refine And.intro ?_ ?_ | intro _)
    all_goals first | omega | skip
    exact ⟨i + 1, ⟨by omega, by omega, by rw [<- a3]; exact g3⟩, by omega, Le.of_eq (by simp)⟩
  ·have a1 : ((i : Int) < (s.size : Int)) = False := eq_false (by omega)
   have a3 := upTo_stop (l := tL s) (e := tL e) (a := i) (.inl (by omega))
   rw [g3] at a3
   simp only [rg, go_sem, seval, Prod.fst, a1, a3, ext_sub, Int.toNat_natCast, spIdxB_md, spIdxB_pre, spIdxB_alts, spIdxB_res, spIdxB_out]
   repeat' (first | with_reducible assumption | with_reducible refine And.intro ?_ ?_ | intro _)
   all_goals first | omega | skip
end Go.Proofs.Pw
namespace Go.Proofs.Pw
variable [Globs]
noncomputable def spRdV (k:Nat) : Spec := Spec.of (ι := ByteArray × Nat × Int) [true, false] (fun i => [.ref (rdrC i.1 i.2.1), .d (.one (.int .i64 i.2.2))]) (fun i => (i.2.1 <= i.1.size /\ lenB 1000000 i.1.size /\ 1 <= i.2.2 /\ i.2.2 <= 7) /\ (7 - i.2.2).toNat < k) (fun i => [.d (.agg (rdV (7 - i.2.2).toNat (tL i.1) i.2.1).1.enc)]) (fun i => [.ref (rdrC i.1 (rdV (7 - i.2.2).toNat (tL i.1) i.2.1).2), .gone])
theorem spRdV_inj : ∀ i j : ByteArray × Nat × Int, (fun (i : ByteArray × Nat × Int) => ([.ref (rdrC i.1 i.2.1), .d (.one (.int .i64 i.2.2))] : List AV)) i = (fun (i : ByteArray × Nat × Int) => ([.ref (rdrC i.1 i.2.1), .d (.one (.int .i64 i.2.2))] : List AV)) j -> i = j := by
 rintro ⟨s, a, n⟩ ⟨s', a', n'⟩ h
 simp only [Prod.mk.injEq]
 simpa [strs_eq, T.enc_eq, encL_eq, F.enc_eq, encF_eq, Tk.enc_eq, encTk_eq, Gn.enc_eq, ints_eq, rdrC_eq, and_assoc] using h
theorem spRdV_md (k:Nat) : (spRdV k).md = [true, false] := rfl
theorem spRdV_pre (k:Nat) (s : ByteArray) (a : Nat) (n : Int) : (spRdV k).pre [.ref (rdrC s a), .d (.one (.int .i64 n))] = ((a <= s.size /\ lenB 1000000 s.size /\ 1 <= n /\ n <= 7) /\ (7 - n).toNat < k) := Spec.of_pre' spRdV_inj (s, a, n)
theorem spRdV_res (k:Nat) (s : ByteArray) (a : Nat) (n : Int) : (spRdV k).res [.ref (rdrC s a), .d (.one (.int .i64 n))] = [.d (.agg (rdV (7 - n).toNat (tL s) a).1.enc)] := Spec.of_res spRdV_inj (s, a, n)
theorem spRdV_out (k:Nat) (s : ByteArray) (a : Nat) (n : Int) : (spRdV k).out [.ref (rdrC s a), .d (.one (.int .i64 n))] = [.ref (rdrC s (rdV (7 - n).toNat (tL s) a).2), .gone] := Spec.of_out spRdV_inj (s, a, n)
theorem spRdV_all (k:Nat) (s : ByteArray) (a : Nat) (n : Int) (F : List AV -> List AV -> Prop) : (spRdV k).all [.ref (rdrC s a), .d (.one (.int .i64 n))] F = F [.d (.agg (rdV (7 - n).toNat (tL s) a).1.enc)] [.ref (rdrC s (rdV (7 - n).toNat (tL s) a).2), .gone] := by rw [Spec.all_fn rfl, spRdV_res, spRdV_out]
theorem spRdV_ne (k:Nat) (s : ByteArray) (a : Nat) (n : Int) : (spRdV k).ne [.ref (rdrC s a), .d (.one (.int .i64 n))] = True := Spec.ne_fn rfl _
theorem clo_t {l p : List UInt8} {a : Nat} (h : skp l a p = true) : clo l a p = a + p.length := by unfold clo; rw [if_pos h]
theorem clo_f {l p : List UInt8} {a : Nat} (h : skp l a p = false) : clo l a p = a := by unfold clo; rw [h]; rfl
theorem rdL_y {f : Nat -> T × Nat} {l : List UInt8} {c a : Nat} (h : skp l (f a).2 [44] = true) : rdL f l (c + 1) a = ((f a).1 :: (rdL f l c ((f a).2 + 1)).1, (rdL f l c ((f a).2 + 1)).2) := by rw [rdL, if_pos h]
theorem rdL_n {f : Nat -> T × Nat} {l : List UInt8} {c a : Nat} (h : skp l (f a).2 [44] = false) : rdL f l (c + 1) a = ([(f a).1], (f a).2) := by rw [rdL, h]; rfl
theorem rdL_0 (f : Nat -> T × Nat) (l : List UInt8) (a : Nat) : rdL f l 0 a = ([], a) := rfl
theorem rdM_y {f : Nat -> T × Nat} {l : List UInt8} {c a : Nat} (h : skp l (f (clo l (upTo l [58] a) [58])).2 [44] = true) : rdM f l (c + 1) a = (bL (sub l a (upTo l [58] a)) :: (rdM f l c ((f (clo l (upTo l [58] a) [58])).2 + 1)).1, (f (clo l (upTo l [58] a) [58])).1 :: (rdM f l c ((f (clo l (upTo l [58] a) [58])).2 + 1)).2.1, (rdM f l c ((f (clo l (upTo l [58] a) [58])).2 + 1)).2.2) := by rw [rdM]; exact if_pos h
theorem rdM_n {f : Nat -> T × Nat} {l : List UInt8} {c a : Nat} (h : skp l (f (clo l (upTo l [58] a) [58])).2 [44] = false) : rdM f l (c + 1) a = ([bL (sub l a (upTo l [58] a))], [(f (clo l (upTo l [58] a) [58])).1], (f (clo l (upTo l [58] a) [58])).2) := by rw [rdM]; exact if_neg (by rw [h]; simp)
theorem rdM_0 (f : Nat -> T × Nat) (l : List UInt8) (a : Nat) : rdM f l 0 a = ([], [], a) := rfl
set_option maxHeartbeats 4000000 in
theorem rval_sound (hE : errK) (k : Nat) (hS : Sound Tryd.prog 36 (spRdV k)) : Sound Tryd.prog 36 (spRdV (k + 1)) := by
 refine sound_fam (GOK.cons (l := [(53, spUpTo), (54, spAtoi), (36, spRdV k)]) call_skip skip_sound (GOK.cons (l := [(54, spAtoi), (36, spRdV k)]) call_upTo upTo_sound (GOK.cons (l := [(36, spRdV k)]) call_Atoi (atoi_sound hE) (GOK.cons call_rval hS GOK.nil)))) Tryd.func36 (c := Tryd.f36.body.getD .skip) rfl (n := 106) rfl chk_rval rs_rval (fun _ => by simp) ?_ ?_
 ·exact spRdV_inj
 ·rintro ⟨s, a, n⟩ ⟨⟨h1, h2, h3, h4⟩, h5⟩
  simp only [lenB] at h1 h2 h3 h4 h5
  have hl := tL_len s
  have z1 : strs [] = [] := rfl
  have z2 : encL [] = [] := rfl
  have t1 : tL ⟨#[110, 117, 108, 108]⟩ = [110, 117, 108, 108] := rfl
  have t2 : tL ⟨#[102, 97, 108, 115, 101]⟩ = [102, 97, 108, 115, 101] := rfl
  have t3 : tL ⟨#[116, 114, 117, 101]⟩ = [116, 114, 117, 101] := rfl
  have t4 : tL ⟨#[39]⟩ = [39] := rfl
  have t5 : tL ⟨#[91]⟩ = [91] := rfl
  have t6 : tL ⟨#[93]⟩ = [93] := rfl
  have t7 : tL ⟨#[44]⟩ = [44] := rfl
  have t8 : tL ⟨#[123]⟩ = [123] := rfl
  have t9 : tL ⟨#[125]⟩ = [125] := rfl
  have t10 : tL ⟨#[58]⟩ = [58] := rfl
  have t11 : tL ⟨#[44, 93, 125]⟩ = [44, 93, 125] := rfl
  have q1 : (ByteArray.mk #[110, 117, 108, 108]).size = 4 := rfl
  have q2 : (ByteArray.mk #[102, 97, 108, 115, 101]).size = 5 := rfl
  have q3 : (ByteArray.mk #[116, 114, 117, 101]).size = 4 := rfl
  have q4 : (ByteArray.mk #[39]).size = 1 := rfl
  have q5 : (ByteArray.mk #[91]).size = 1 := rfl
  have q6 : (ByteArray.mk #[93]).size = 1 := rfl
  have q7 : (ByteArray.mk #[44]).size = 1 := rfl
  have q8 : (ByteArray.mk #[123]).size = 1 := rfl
  have q9 : (ByteArray.mk #[125]).size = 1 := rfl
  have q10 : (ByteArray.mk #[58]).size = 1 := rfl
  by_cases c0 : n = 7
  ·subst c0
   have b0 : ((6 : Int) < 7) = True := eq_true (by omega)
   have e : rdV 0 (tL s) a = (T.zero, a) := by rw [rdV]
   simp only [x_rval, rg, go_sem, seval, Prod.fst, b0, e, T.zero, T.enc, z1, z2]
   repeat' (first | with_reducible assumption | with_reducible refine And.intro ?_ ?_ | intro _)
   all_goals first | omega | (unfold lenB; omega) | skip
  obtain ⟨d, he⟩ : ∃ d, (7 - n).toNat = d + 1 := ⟨(7 - n).toNat - 1, by omega⟩
  have he' : (7 - (n + 1)).toNat = d := by omega
  have b0 : ((6 : Int) < n) = False := eq_false (by omega)
  generalize hL : tL s = l at *
  have hrd : ∀ i, i <= s.size -> i <= (rdV d l i).2 /\ (rdV d l i).2 <= s.size := fun i hi => by
   have := rdV_ok d l i (by omega)
   exact ⟨this.1, by have := this.2.1; omega⟩
  by_cases c1 : skp l a [110, 117, 108, 108] = true
  ·have e : rdV (d + 1) l a = (.mk 0 0 ⟨#[]⟩ [] [], a + 4) := by rw [rdV, if_pos c1]
   simp only [x_rval, rg, go_sem, seval, Prod.fst, he, b0, hL, t1, q1, c1, clo_t c1, e, T.enc, z1, z2, spSkip_md, spSkip_pre, spSkip_ne, ↓spSkip_all, spSkip_all]
   repeat' (first | with_reducible assumption | with_reducible refine And.intro ?_ ?_ | intro _)
   all_goals first | omega | (unfold lenB; omega) | skip
  have c1 : skp l a [110, 117, 108, 108] = false := by simpa using c1
  by_cases c2 : skp l a [102, 97, 108, 115, 101] = true
  ·have e : rdV (d + 1) l a = (.mk 1 0 ⟨#[]⟩ [] [], a + 5) := by rw [rdV, c1, if_neg (by simp), if_pos c2]
   simp only [x_rval, rg, go_sem, seval, Prod.fst, he, b0, hL, t1, q1, t2, q2, c1, clo_f c1, c2, clo_t c2, e, T.enc, z1, z2, spSkip_md, spSkip_pre, spSkip_ne, ↓spSkip_all, spSkip_all]
   repeat' (first | with_reducible assumption | with_reducible refine And.intro ?_ ?_ | intro _)
   all_goals first | omega | (unfold lenB; omega) | skip
  have c2 : skp l a [102, 97, 108, 115, 101] = false := by simpa using c2
  by_cases c3 : skp l a [116, 114, 117, 101] = true
  ·have e : rdV (d + 1) l a = (.mk 2 0 ⟨#[]⟩ [] [], a + 4) := by rw [rdV, c1, if_neg (by simp), c2, if_neg (by simp), if_pos c3]
   simp only [x_rval, rg, go_sem, seval, Prod.fst, he, b0, hL, t1, q1, t2, q2, t3, q3, c1, clo_f c1, c2, clo_f c2, c3, clo_t c3, e, T.enc, z1, z2, spSkip_md, spSkip_pre, spSkip_ne, ↓spSkip_all, spSkip_all]
   repeat' (first | with_reducible assumption | with_reducible refine And.intro ?_ ?_ | intro _)
   all_goals first | omega | (unfold lenB; omega) | skip
  have c3 : skp l a [116, 114, 117, 101] = false := by simpa using c3
  by_cases c4 : skp l a [39] = true
  ·have e : rdV (d + 1) l a = (.mk 4 0 (bL (sub l (a + 1) (upTo l [39] (a + 1)))) [] [], clo l (upTo l [39] (a + 1)) [39]) := by rw [rdV, c1, if_neg (by simp), c2, if_neg (by simp), c3, if_neg (by simp), if_pos c4]
   have k0 := skp_len c4 (by simp)
   simp only [List.length_cons, List.length_nil] at k0
   have k1 := upTo_le (l := l) (e := [39]) (a := a + 1) (by omega)
   simp only [x_rval, rg, go_sem, seval, Prod.fst, he, b0, hL, t1, q1, t2, q2, t3, q3, t4, q4, c1, clo_f c1, c2, clo_f c2, c3, clo_f c3, c4, clo_t c4, e, T.enc, z1, z2, List.length_cons, List.length_nil, Nat.zero_add, spSkip_md, spSkip_pre, spSkip_ne, ↓spSkip_all, spSkip_all, spUpTo_md, spUpTo_pre, spUpTo_ne, ↓spUpTo_all, spUpTo_all]
   repeat' (first | with_reducible assumption | with_reducible refine And.intro ?_ ?_ | intro _)
   all_goals first | omega | (unfold lenB; omega) | skip
  have c4 : skp l a [39] = false := by simpa using c4
  by_cases c5 : skp l a [91] = true
  ·have k0 := skp_len c5 (by simp)
   simp only [List.length_cons, List.length_nil] at k0
   by_cases c6 : skp l (a + 1) [93] = true
   ·have e : rdV (d + 1) l a = (.mk 5 0 ⟨#[]⟩ [] [], a + 2) := by rw [rdV, c1, if_neg (by simp), c2, if_neg (by simp), c3, if_neg (by simp), c4, if_neg (by simp), if_pos c5, if_pos c6]
    simp only [x_rval, rg, go_sem, seval, Prod.fst, he, b0, hL, t1, q1, t2, q2, t3, q3, t4, q4, t5, q5, t6, q6, c1, clo_f c1, c2, clo_f c2, c3, clo_f c3, c4, clo_f c4, c5, clo_t c5, c6, clo_t c6, e, T.enc, z1, z2, List.length_cons, List.length_nil, Nat.zero_add, spSkip_md, spSkip_pre, spSkip_ne, ↓spSkip_all, spSkip_all, spUpTo_md, spUpTo_pre, spUpTo_ne, ↓spUpTo_all, spUpTo_all]
    repeat' (first | with_reducible assumption | with_reducible refine And.intro ?_ ?_ | intro _)
    all_goals first | omega | (unfold lenB; omega) | skip
   have c6 : skp l (a + 1) [93] = false := by simpa using c6
   have e : rdV (d + 1) l a = (.mk 5 0 ⟨#[]⟩ [] (rdL (rdV d l) l 61 (a + 1)).1, clo l (rdL (rdV d l) l 61 (a + 1)).2 [93]) := by rw [rdV, c1, if_neg (by simp), c2, if_neg (by simp), c3, if_neg (by simp), c4, if_neg (by simp), if_pos c5, c6, if_neg (by simp)]
   simp only [x_rval, rg, go_sem, seval, Prod.fst, he, b0, hL, t1, q1, t2, q2, t3, q3, t4, q4, t5, q5, t6, q6, c1, clo_f c1, c2, clo_f c2, c3, clo_f c3, c4, clo_f c4, c5, clo_t c5, c6, clo_f c6, List.length_cons, List.length_nil, Nat.zero_add, spSkip_md, spSkip_pre, spSkip_ne, ↓spSkip_all, spSkip_all, spUpTo_md, spUpTo_pre, spUpTo_ne, ↓spUpTo_all, spUpTo_all]
   repeat' (first | with_reducible assumption | with_reducible refine And.intro ?_ ?_ | intro _)
   all_goals first | omega | (unfold lenB; omega) | skip
   refine pw_loop (ι := List T × Nat) (fun i => 61 - i.1.length) (fun i => i.1.length <= 61 /\ i.2 <= s.size /\ (rdL (rdV d l) l 61 (a + 1)).1 = i.1 ++ (rdL (rdV d l) l (61 - i.1.length) i.2).1 /\ (rdL (rdV d l) l 61 (a + 1)).2 = (rdL (rdV d l) l (61 - i.1.length) i.2).2)
    (fun i => ⟨[(0, .q (.box 106 0)), (1, .q (.c (.int .i64 n))), (4, .q (.box 4 0)), (6, .q (.box 6 0))],
     [(106, (rdrC s i.2).map .c), (4, [.c (.int .i64 0), .c (.int .i64 0), .c (.str ⟨#[]⟩), .z 1, .z 5]), (6, [.c (.int .i64 5), .c (.int .i64 0), .c (.str ⟨#[]⟩), .z 1, .own 53])],
     [(53, 5, encL i.1)]⟩) ([], a + 1) ⟨by simp, by show a + 1 <= s.size; omega, rfl, rfl⟩ ?_ ?_
   ·refine (Le.ownB (b := 6) (j := 4) (d := 53) (sz := 5) (qs := [.c (.int .i64 5), .c (.int .i64 0), .c (.str ⟨#[]⟩), .z 1, .z 5]) (by decide) (by simp) rfl (by simp [Q.killO, rdrC]) (by simp [PV.map, Q.killO])).trans (Le.sub (by simp [upd, del]) (by simp [upd, del]) (by simp [upd, del, encL]))
   ·rintro ⟨acc, i⟩ ⟨g1, g2, g3, g4⟩
    simp only at g1 g2 g3 g4
    have hr := hrd i g2
    rcases Nat.lt_or_ge acc.length 61 with hlt | hge
    ·have b1 : ((acc.length : Int) <= 60) = True := eq_true (by omega)
     obtain ⟨c, hc⟩ : ∃ c, 61 - acc.length = c + 1 := ⟨60 - acc.length, by omega⟩
     rw [hc] at g3 g4
     by_cases c7 : skp l (rdV d l i).2 [44] = true
     ·rw [rdL_y c7] at g3 g4
      have k1 := skp_len c7 (by simp)
      simp only [List.length_cons, List.length_nil] at k1
      simp only [rg, go_sem, seval, Prod.fst, he', hL, b1, t7, q7, c7, clo_t c7, encL_len, T.enc_len, List.length_cons, List.length_nil, Nat.zero_add, spSkip_md, spSkip_pre, spSkip_ne, ↓spSkip_all, spSkip_all, spRdV_md, spRdV_pre, spRdV_ne, ↓spRdV_all, spRdV_all]
      repeat' (first | with_reducible assumption | with_reducible refine And.intro ?_ ?_ | intro _)
      all_goals first | omega | (unfold lenB; omega) | skip
      refine ⟨(acc ++ [(rdV d l i).1], (rdV d l i).2 + 1), ⟨by simp; omega, by show (rdV d l i).2 + 1 <= s.size; omega, ?_, ?_⟩, by simp; omega, Le.sub (by simp) (by simp) (by simp [encL_app, encL])⟩
      ·have e7 : 61 - (acc ++ [(rdV d l i).1]).length = c := by simp; omega
       simp only [e7]; rw [g3]; simp
      ·have e7 : 61 - (acc ++ [(rdV d l i).1]).length = c := by simp; omega
       simp only [e7]; exact g4
     ·have c7 : skp l (rdV d l i).2 [44] = false := by simpa using c7
      rw [rdL_n c7] at g3 g4
      simp only [rg, go_sem, seval, Prod.fst, he', he, hL, e, g3, g4, b1, t6, q6, t7, q7, c7, clo_f c7, T.enc, z1, z2, encL_app, encL, encL_len, T.enc_len, List.length_cons, List.length_nil, Nat.zero_add, spSkip_md, spSkip_pre, spSkip_ne, ↓spSkip_all, spSkip_all, spRdV_md, spRdV_pre, spRdV_ne, ↓spRdV_all, spRdV_all]
      repeat' (first | with_reducible assumption | with_reducible refine And.intro ?_ ?_ | intro _)
      all_goals first | omega | (unfold lenB; omega) | skip
    ·have b1 : ((acc.length : Int) <= 60) = False := eq_false (by omega)
     have hc : 61 - acc.length = 0 := by omega
     rw [hc] at g3 g4
     rw [rdL_0] at g3 g4
     simp only [List.append_nil] at g3 g4
     simp only [rg, go_sem, seval, Prod.fst, he', he, hL, e, g3, g4, b1, t6, q6, T.enc, z1, z2, encL_len, T.enc_len, List.length_cons, List.length_nil, Nat.zero_add, spSkip_md, spSkip_pre, spSkip_ne, ↓spSkip_all, spSkip_all, spRdV_md, spRdV_pre, spRdV_ne, ↓spRdV_all, spRdV_all]
     repeat' (first | with_reducible assumption | with_reducible refine And.intro ?_ ?_ | intro _)
     all_goals first | omega | (unfold lenB; omega) | skip
  have c5 : skp l a [91] = false := by simpa using c5
  by_cases c8 : skp l a [123] = true
  ·have k0 := skp_len c8 (by simp)
   simp only [List.length_cons, List.length_nil] at k0
   by_cases c6 : skp l (a + 1) [125] = true
   ·have e : rdV (d + 1) l a = (.mk 6 0 ⟨#[]⟩ [] [], a + 2) := by rw [rdV, c1, if_neg (by simp), c2, if_neg (by simp), c3, if_neg (by simp), c4, if_neg (by simp), c5, if_neg (by simp), if_pos c8, if_pos c6]
    simp only [x_rval, rg, go_sem, seval, Prod.fst, he, b0, hL, t1, q1, t2, q2, t3, q3, t4, q4, t5, q5, t8, q8, t9, q9, c1, clo_f c1, c2, clo_f c2, c3, clo_f c3, c4, clo_f c4, c5, clo_f c5, c8, clo_t c8, c6, clo_t c6, e, T.enc, z1, z2, List.length_cons, List.length_nil, Nat.zero_add, spSkip_md, spSkip_pre, spSkip_ne, ↓spSkip_all, spSkip_all, spUpTo_md, spUpTo_pre, spUpTo_ne, ↓spUpTo_all, spUpTo_all]
    repeat' (first | with_reducible assumption | with_reducible refine And.intro ?_ ?_ | intro _)
    all_goals first | omega | (unfold lenB; omega) | skip
   have c6 : skp l (a + 1) [125] = false := by simpa using c6
   have e : rdV (d + 1) l a = (.mk 6 0 ⟨#[]⟩ (rdM (rdV d l) l 61 (a + 1)).1 (rdM (rdV d l) l 61 (a + 1)).2.1, clo l (rdM (rdV d l) l 61 (a + 1)).2.2 [125]) := by rw [rdV, c1, if_neg (by simp), c2, if_neg (by simp), c3, if_neg (by simp), c4, if_neg (by simp), c5, if_neg (by simp), if_pos c8, c6, if_neg (by simp)]
   simp only [x_rval, rg, go_sem, seval, Prod.fst, he, b0, hL, t1, q1, t2, q2, t3, q3, t4, q4, t5, q5, t8, q8, t9, q9, c1, clo_f c1, c2, clo_f c2, c3, clo_f c3, c4, clo_f c4, c5, clo_f c5, c8, clo_t c8, c6, clo_f c6, List.length_cons, List.length_nil, Nat.zero_add, spSkip_md, spSkip_pre, spSkip_ne, ↓spSkip_all, spSkip_all, spUpTo_md, spUpTo_pre, spUpTo_ne, ↓spUpTo_all, spUpTo_all]
   repeat' (first | with_reducible assumption | with_reducible refine And.intro ?_ ?_ | intro _)
   all_goals first | omega | (unfold lenB; omega) | skip
   refine pw_loop (ι := List ByteArray × List T × Nat) (fun i => 61 - i.2.1.length) (fun i => i.2.1.length <= 61 /\ i.1.length = i.2.1.length /\ i.2.2 <= s.size /\ (rdM (rdV d l) l 61 (a + 1)).1 = i.1 ++ (rdM (rdV d l) l (61 - i.2.1.length) i.2.2).1 /\ (rdM (rdV d l) l 61 (a + 1)).2.1 = i.2.1 ++ (rdM (rdV d l) l (61 - i.2.1.length) i.2.2).2.1 /\ (rdM (rdV d l) l 61 (a + 1)).2.2 = (rdM (rdV d l) l (61 - i.2.1.length) i.2.2).2.2)
    (fun i => ⟨[(0, .q (.box 106 0)), (1, .q (.c (.int .i64 n))), (4, .q (.box 4 0)), (7, .q (.box 7 0))],
     [(106, (rdrC s i.2.2).map .c), (4, [.c (.int .i64 0), .c (.int .i64 0), .c (.str ⟨#[]⟩), .z 1, .z 5]), (7, [.c (.int .i64 6), .c (.int .i64 0), .c (.str ⟨#[]⟩), .own 79, .own 90])],
     [(79, 1, strs i.1), (90, 5, encL i.2.1)]⟩) ([], [], a + 1) ⟨by simp, rfl, by show a + 1 <= s.size; omega, rfl, rfl, rfl⟩ ?_ ?_
   ·refine (Le.ownB (b := 7) (j := 3) (d := 79) (sz := 1) (qs := [.c (.int .i64 6), .c (.int .i64 0), .c (.str ⟨#[]⟩), .z 1, .z 5]) (by decide) (by simp) rfl (by simp [Q.killO, rdrC]) (by simp [PV.map, Q.killO])).trans
     ((Le.ownB (b := 7) (j := 4) (d := 90) (sz := 5) (qs := [.c (.int .i64 6), .c (.int .i64 0), .c (.str ⟨#[]⟩), .own 79, .z 5]) (by decide) (by simp [upd]) rfl (by simp [upd, del, Q.killO, rdrC]) (by simp [PV.map, Q.killO])).trans (Le.sub (by simp [upd, del]) (by simp [upd, del]) (by simp [upd, del, strs, encL])))
   ·rintro ⟨ks, acc, i⟩ ⟨g1, g0, g2, g3, g5, g4⟩
    simp only at g0 g1 g2 g3 g4 g5
    have hu := upTo_le (l := l) (e := [58]) (a := i) (by omega)
    have hw := clo_le (l := l) (p := [58]) (a := upTo l [58] i) hu.2 (by simp)
    have hr := hrd (clo l (upTo l [58] i) [58]) (by omega)
    rcases Nat.lt_or_ge acc.length 61 with hlt | hge
    ·have b1 : ((acc.length : Int) <= 60) = True := eq_true (by omega)
     obtain ⟨c, hc⟩ : ∃ c, 61 - acc.length = c + 1 := ⟨60 - acc.length, by omega⟩
     rw [hc] at g3 g4 g5
     by_cases c7 : skp l (rdV d l (clo l (upTo l [58] i) [58])).2 [44] = true
     ·rw [rdM_y c7] at g3 g4 g5
      have k1 := skp_len c7 (by simp)
      simp only [List.length_cons, List.length_nil] at k1
      simp only [rg, go_sem, seval, Prod.fst, he', hL, b1, t7, q7, t10, q10, c7, clo_t c7, encL_len, strs_len, T.enc_len, List.length_cons, List.length_nil, Nat.zero_add, spSkip_md, spSkip_pre, spSkip_ne, ↓spSkip_all, spSkip_all, spUpTo_md, spUpTo_pre, spUpTo_ne, ↓spUpTo_all, spUpTo_all, spRdV_md, spRdV_pre, spRdV_ne, ↓spRdV_all, spRdV_all]
      repeat' (first | with_reducible assumption | with_reducible refine And.intro ?_ ?_ | intro _)
      all_goals first | omega | (unfold lenB; omega) | skip
      have e7 : ∀ x : T, 61 - (acc ++ [x]).length = c := fun x => by simp; omega
      refine ⟨(ks ++ [bL (sub l i (upTo l [58] i))], acc ++ [(rdV d l (clo l (upTo l [58] i) [58])).1], (rdV d l (clo l (upTo l [58] i) [58])).2 + 1), ⟨by simp; omega, by simp; omega, by show (rdV d l (clo l (upTo l [58] i) [58])).2 + 1 <= s.size; omega, ?_, ?_, ?_⟩, by simp; omega, Le.sub (by simp) (by simp) (by simp [encL_app, encL, strs_app, strs])⟩
      ·simp only [e7]; rw [g3]; simp
      ·simp only [e7]; rw [g5]; simp
      ·simp only [e7]; exact g4
     ·have c7 : skp l (rdV d l (clo l (upTo l [58] i) [58])).2 [44] = false := by simpa using c7
      rw [rdM_n c7] at g3 g4 g5
      simp only [rg, go_sem, seval, Prod.fst, he', he, hL, e, g3, g4, g5, b1, t7, q7, t9, q9, t10, q10, c7, clo_f c7, T.enc, z1, z2, encL_app, encL, strs_app, encL_len, strs_len, T.enc_len, List.length_cons, List.length_nil, Nat.zero_add, spSkip_md, spSkip_pre, spSkip_ne, ↓spSkip_all, spSkip_all, spUpTo_md, spUpTo_pre, spUpTo_ne, ↓spUpTo_all, spUpTo_all, spRdV_md, spRdV_pre, spRdV_ne, ↓spRdV_all, spRdV_all]
      repeat' (first | with_reducible assumption | with_reducible refine And.intro ?_ ?_ | intro _)
      all_goals first | omega | (unfold lenB; omega) | skip
      all_goals simp [strs]
    ·have b1 : ((acc.length : Int) <= 60) = False := eq_false (by omega)
     have hc : 61 - acc.length = 0 := by omega
     rw [hc] at g3 g4 g5
     rw [rdM_0] at g3 g4 g5
     simp only [List.append_nil] at g3 g4 g5
     simp only [rg, go_sem, seval, Prod.fst, he', he, hL, e, g3, g4, g5, b1, t9, q9, T.enc, z1, z2, encL_len, T.enc_len, List.length_cons, List.length_nil, Nat.zero_add, spSkip_md, spSkip_pre, spSkip_ne, ↓spSkip_all, spSkip_all, spRdV_md, spRdV_pre, spRdV_ne, ↓spRdV_all, spRdV_all]
     repeat' (first | with_reducible assumption | with_reducible refine And.intro ?_ ?_ | intro _)
     all_goals first | omega | (unfold lenB; omega) | skip
  have c8 : skp l a [123] = false := by simpa using c8
  have e : rdV (d + 1) l a = (.mk 3 (atoiN (sub l a (upTo l [44, 93, 125] a))) ⟨#[]⟩ [] [], upTo l [44, 93, 125] a) := by rw [rdV, c1, if_neg (by simp), c2, if_neg (by simp), c3, if_neg (by simp), c4, if_neg (by simp), c5, if_neg (by simp), c8, if_neg (by simp)]
  have k1 := upTo_le (l := l) (e := [44, 93, 125]) (a := a) (by omega)
  have k2 := sub_len (l := l) (a := a) k1.2
  simp only [x_rval, rg, go_sem, seval, Prod.fst, he, b0, hL, t1, q1, t2, q2, t3, q3, t4, q4, t5, q5, t8, q8, t11, c1, clo_f c1, c2, clo_f c2, c3, clo_f c3, c4, clo_f c4, c5, clo_f c5, c8, clo_f c8, e, T.enc, z1, z2, tL_bL, bL_size, lenB, List.length_cons, List.length_nil, Nat.zero_add, spSkip_md, spSkip_pre, spSkip_ne, ↓spSkip_all, spSkip_all, spUpTo_md, spUpTo_pre, spUpTo_ne, ↓spUpTo_all, spUpTo_all, spAtoi_md, spAtoi_pre, spAtoi_alts, spAtoi_res, spAtoi_out]
  repeat' (first | with_reducible assumption | with_reducible refine And.intro ?_ ?_ | intro _)
  all_goals first | omega | (unfold lenB; omega) | skip
theorem rval_all (hE : errK) (k : Nat) : Sound Tryd.prog 36 (spRdV k) := by
 induction k with
 | zero => exact Sound.none
 | succ k ih => exact rval_sound hE k ih
noncomputable def spRdVV  : Spec := Spec.of (ι := ByteArray × Nat × Int) [true, false] (fun i => [.ref (rdrC i.1 i.2.1), .d (.one (.int .i64 i.2.2))]) (fun i => i.2.1 <= i.1.size /\ lenB 1000000 i.1.size /\ 1 <= i.2.2 /\ i.2.2 <= 7) (fun i => [.d (.agg (rdV (7 - i.2.2).toNat (tL i.1) i.2.1).1.enc)]) (fun i => [.ref (rdrC i.1 (rdV (7 - i.2.2).toNat (tL i.1) i.2.1).2), .gone])
theorem spRdVV_inj : ∀ i j : ByteArray × Nat × Int, (fun (i : ByteArray × Nat × Int) => ([.ref (rdrC i.1 i.2.1), .d (.one (.int .i64 i.2.2))] : List AV)) i = (fun (i : ByteArray × Nat × Int) => ([.ref (rdrC i.1 i.2.1), .d (.one (.int .i64 i.2.2))] : List AV)) j -> i = j := by
 rintro ⟨s, a, n⟩ ⟨s', a', n'⟩ h
 simp only [Prod.mk.injEq]
 simpa [strs_eq, T.enc_eq, encL_eq, F.enc_eq, encF_eq, Tk.enc_eq, encTk_eq, Gn.enc_eq, ints_eq, rdrC_eq, and_assoc] using h
theorem spRdVV_md  : (spRdVV).md = [true, false] := rfl
theorem spRdVV_pre  (s : ByteArray) (a : Nat) (n : Int) : (spRdVV).pre [.ref (rdrC s a), .d (.one (.int .i64 n))] = (a <= s.size /\ lenB 1000000 s.size /\ 1 <= n /\ n <= 7) := Spec.of_pre' spRdVV_inj (s, a, n)
theorem spRdVV_res  (s : ByteArray) (a : Nat) (n : Int) : (spRdVV).res [.ref (rdrC s a), .d (.one (.int .i64 n))] = [.d (.agg (rdV (7 - n).toNat (tL s) a).1.enc)] := Spec.of_res spRdVV_inj (s, a, n)
theorem spRdVV_out  (s : ByteArray) (a : Nat) (n : Int) : (spRdVV).out [.ref (rdrC s a), .d (.one (.int .i64 n))] = [.ref (rdrC s (rdV (7 - n).toNat (tL s) a).2), .gone] := Spec.of_out spRdVV_inj (s, a, n)
theorem spRdVV_all  (s : ByteArray) (a : Nat) (n : Int) (F : List AV -> List AV -> Prop) : (spRdVV).all [.ref (rdrC s a), .d (.one (.int .i64 n))] F = F [.d (.agg (rdV (7 - n).toNat (tL s) a).1.enc)] [.ref (rdrC s (rdV (7 - n).toNat (tL s) a).2), .gone] := by rw [Spec.all_fn rfl, spRdVV_res, spRdVV_out]
theorem spRdVV_ne  (s : ByteArray) (a : Nat) (n : Int) : (spRdVV).ne [.ref (rdrC s a), .d (.one (.int .i64 n))] = True := Spec.ne_fn rfl _
theorem rvalV_sound (hE : errK) : Sound Tryd.prog 36 spRdVV := Sound.all (μ := fun i => (7 - i.2.2).toNat) (rval_all hE)
end Go.Proofs.Pw
