/- Texts read: the library's functions, by what is proved of them. -/
import Derived.Test.YtgpjodcopajlkaaDoorPwT14
import Derived.Test.YtgpjodcopajlkaaDoorPwT15
import Derived.Lib.AtoiErrMem
import Derived.Test.YtgpjodcopajlkaaDoorPwT12
set_option linter.unusedSimpArgs false
set_option linter.unusedVariables false
set_option linter.unusedSectionVars false
set_option maxRecDepth 20000
namespace Go.Proofs.Pw
open Go.RowKit
variable [Globs]
theorem call_Atoi : okCallee Tryd.prog 54 = true := by kernel_rfl
theorem call_HasPrefix : okCallee Tryd.prog 78 = true := by kernel_rfl
theorem call_IndexByte : okCallee Tryd.prog 79 = true := by kernel_rfl
def errK [Globs] : Prop := (0, C.ifc) ∈ Globs.G /\ (1, C.ifc) ∈ Globs.G
theorem Sound.mono {P : Program} {f : FuncId} {sp sp' : Spec} (h : Sound P f sp) (hm : ∀ args, sp'.pre args -> sp.pre args /\ ∀ r o, sp.may args r o -> sp'.may args r o) : Sound P f sp' :=
 fun args hp w S vs fps hG hS hF ha hA => (h args (hm args hp).1 w S vs fps hG hS hF ha hA).mono (fun _ _ ⟨r, o, h1, h2⟩ => ⟨r, o, (hm args hp).2 r o h1, h2⟩)
theorem apart_none {S : Nat -> Prop} : ∀ {l : List (Nat -> Prop)}, (∀ p ∈ l, ∀ g, ¬ p g) -> Apart S l
 | [], _ => trivial
 | p :: l, h => ⟨fun g hg => absurd hg (h p (by simp) g), fun g hg => absurd hg (h p (by simp) g), apart_none (fun q hq => h q (by simp [hq]))⟩
theorem flat_done {w w' : World} {S : Nat -> Prop} {X : Nat -> Prop} {r : List AV} {v : Value} {rfs fps : List (Nat -> Prop)} {vs : List Value} {o : List AV} (hr : RepR w' S r v rfs) (he : ∀ p ∈ rfs ++ fps, ∀ g, ¬ p g) (ho : All3 (RepA w' S) o vs fps)
 (hS : ∀ g, S g -> g < w.heap.size) (hb : Below w.heap.size w w') : ∃ v' S' rfs fps', Ending.returned v = .returned v' /\ RepR w' S' r v' rfs /\ All3 (RepA w' S') o vs fps' /\
  (∀ g, S' g -> S g \/ w.heap.size <= g \/ X g) /\ (∀ g, S' g -> g < w'.heap.size) /\
  Apart S' (rfs ++ fps') /\ (∀ g, Any (rfs ++ fps') g -> (w.heap.size <= g \/ X g) /\ g < w'.heap.size) /\ Fr X w.heap.size w w' :=
 ⟨v, S, rfs, fps, rfl, hr, ho, fun g hg => .inl hg, fun g hg => Nat.lt_of_lt_of_le (hS g hg) hb.size, apart_none he, fun g ⟨p, hp, hg⟩ => absurd hg (he p hp g), Fr.below X hb⟩
noncomputable def spHasP  : Spec := Spec.of (ι := ByteArray × ByteArray) [false, false] (fun i => [.d (.one (.str i.1)), .d (.one (.str i.2))]) (fun _ => True) (fun i => [.d (.one (.bool ((tL i.2).isPrefixOf (tL i.1))))]) (fun _ => [.gone, .gone])
theorem spHasP_inj : ∀ i j : ByteArray × ByteArray, (fun (i : ByteArray × ByteArray) => ([.d (.one (.str i.1)), .d (.one (.str i.2))] : List AV)) i = (fun (i : ByteArray × ByteArray) => ([.d (.one (.str i.1)), .d (.one (.str i.2))] : List AV)) j -> i = j := by
 rintro ⟨s, p⟩ ⟨s', p'⟩ h
 simp only [Prod.mk.injEq]
 simpa [strs_eq, T.enc_eq, encL_eq, F.enc_eq, encF_eq, Tk.enc_eq, encTk_eq, Gn.enc_eq, ints_eq] using h
theorem spHasP_md  : (spHasP).md = [false, false] := rfl
theorem spHasP_pre  (s : ByteArray) (p : ByteArray) : (spHasP).pre [.d (.one (.str s)), .d (.one (.str p))] = (True) := Spec.of_pre' spHasP_inj (s, p)
theorem spHasP_alts  : (spHasP).alts = none := rfl
theorem spHasP_res  (s : ByteArray) (p : ByteArray) : (spHasP).res [.d (.one (.str s)), .d (.one (.str p))] = [.d (.one (.bool ((tL p).isPrefixOf (tL s))))] := Spec.of_res spHasP_inj (s, p)
theorem spHasP_out  (s : ByteArray) (p : ByteArray) : (spHasP).out [.d (.one (.str s)), .d (.one (.str p))] = [.gone, .gone] := Spec.of_out spHasP_inj (s, p)
theorem hasP_sound : Sound Tryd.prog 78 spHasP := by
 rintro args ⟨⟨s, p⟩, rfl, _⟩ w S vs fps hG hS hF ha hA
 cases hA with
 | cons h1 h2 =>
   cases h2 with
   | cons h2 h3 =>
     cases h3
     obtain ⟨hr1, hf1⟩ := h1
     obtain ⟨hr2, hf2⟩ := h2
     cases hr1
     cases hr2
     refine (Tryd.strings_HasPrefix s p w).mono ?_
     rintro e w' ⟨rfl, rfl⟩
     refine ⟨_, _, (Spec.may_none spHasP_alts).2 ⟨(spHasP_res s p).symm, (spHasP_out s p).symm⟩, flat_done (rfs := [fun _ => False]) ⟨.bool _, fun _ h => h⟩ ?_ (.cons hf1 (.cons hf2 .nil)) hS (Below.refl _ _)⟩
     simp only [List.cons_append, List.nil_append, List.mem_cons, List.not_mem_nil, or_false]
     rintro q (rfl | rfl | rfl) g
     ·exact id
     ·exact hf1 g
     ·exact hf2 g
noncomputable def spIdxB  : Spec := Spec.of (ι := ByteArray × Int) [false, false] (fun i => [.d (.one (.str i.1)), .d (.one (.int .u8 i.2))]) (fun _ => True) (fun i => [.d (.one (.int .i64 (Lib.indexByte (tL i.1) i.2.toNat.toUInt8)))]) (fun _ => [.gone, .gone])
theorem spIdxB_inj : ∀ i j : ByteArray × Int, (fun (i : ByteArray × Int) => ([.d (.one (.str i.1)), .d (.one (.int .u8 i.2))] : List AV)) i = (fun (i : ByteArray × Int) => ([.d (.one (.str i.1)), .d (.one (.int .u8 i.2))] : List AV)) j -> i = j := by
 rintro ⟨s, c⟩ ⟨s', c'⟩ h
 simp only [Prod.mk.injEq]
 simpa [strs_eq, T.enc_eq, encL_eq, F.enc_eq, encF_eq, Tk.enc_eq, encTk_eq, Gn.enc_eq, ints_eq] using h
theorem spIdxB_md  : (spIdxB).md = [false, false] := rfl
theorem spIdxB_pre  (s : ByteArray) (c : Int) : (spIdxB).pre [.d (.one (.str s)), .d (.one (.int .u8 c))] = (True) := Spec.of_pre' spIdxB_inj (s, c)
theorem spIdxB_alts  : (spIdxB).alts = none := rfl
theorem spIdxB_res  (s : ByteArray) (c : Int) : (spIdxB).res [.d (.one (.str s)), .d (.one (.int .u8 c))] = [.d (.one (.int .i64 (Lib.indexByte (tL s) c.toNat.toUInt8)))] := Spec.of_res spIdxB_inj (s, c)
theorem spIdxB_out  (s : ByteArray) (c : Int) : (spIdxB).out [.d (.one (.str s)), .d (.one (.int .u8 c))] = [.gone, .gone] := Spec.of_out spIdxB_inj (s, c)
theorem idxB_sound : Sound Tryd.prog 79 spIdxB := by
 rintro args ⟨⟨s, c⟩, rfl, _⟩ w S vs fps hG hS hF ha hA
 cases hA with
 | cons h1 h2 =>
   cases h2 with
   | cons h2 h3 =>
     cases h3
     obtain ⟨hr1, hf1⟩ := h1
     obtain ⟨hr2, hf2⟩ := h2
     cases hr1
     cases hr2
     refine (Tryd.strings_IndexByte s c w).mono ?_
     rintro e w' ⟨rfl, rfl⟩
     refine ⟨_, _, (Spec.may_none spIdxB_alts).2 ⟨(spIdxB_res s c).symm, (spIdxB_out s c).symm⟩, flat_done (rfs := [fun _ => False]) ⟨.int _ _, fun _ h => h⟩ ?_ (.cons hf1 (.cons hf2 .nil)) hS (Below.refl _ _)⟩
     simp only [List.cons_append, List.nil_append, List.mem_cons, List.not_mem_nil, or_false]
     rintro q (rfl | rfl | rfl) g
     ·exact id
     ·exact hf1 g
     ·exact hf2 g
noncomputable def spAtoi  : Spec := Spec.of (ι := ByteArray) [false] (fun i => [.d (.one (.str i))]) (fun i => lenB 140737488355328 i.size) (fun i => [.d (.one (.int .i64 (atoiN (tL i)))), .d (.one .jk)]) (fun _ => [.gone])
theorem spAtoi_inj : ∀ i j : ByteArray, (fun (i : ByteArray) => ([.d (.one (.str i))] : List AV)) i = (fun (i : ByteArray) => ([.d (.one (.str i))] : List AV)) j -> i = j := by
 intro s s' h
 simpa [strs_eq, T.enc_eq, encL_eq, F.enc_eq, encF_eq, Tk.enc_eq, encTk_eq, Gn.enc_eq, ints_eq] using h
theorem spAtoi_md  : (spAtoi).md = [false] := rfl
theorem spAtoi_pre  (s : ByteArray) : (spAtoi).pre [.d (.one (.str s))] = (lenB 140737488355328 s.size) := Spec.of_pre' spAtoi_inj s
theorem spAtoi_alts  : (spAtoi).alts = none := rfl
theorem spAtoi_res  (s : ByteArray) : (spAtoi).res [.d (.one (.str s))] = [.d (.one (.int .i64 (atoiN (tL s)))), .d (.one .jk)] := Spec.of_res spAtoi_inj s
theorem spAtoi_out  (s : ByteArray) : (spAtoi).out [.d (.one (.str s))] = [.gone] := Spec.of_out spAtoi_inj s
theorem atoi_sound (hE : errK) : Sound Tryd.prog 54 spAtoi := by
 rintro args ⟨s, rfl, hn⟩ w S vs fps hG hS hF ha hA
 simp only [lenB] at hn
 cases hA with
 | cons h1 h2 =>
   rename_i v fp vs fps
   cases h2
   obtain ⟨hr, hfp⟩ := h1
   cases hr
   obtain ⟨_, u1, e1, r1⟩ := hG.1 _ _ hE.1
   obtain ⟨_, u2, e2, r2⟩ := hG.1 _ _ hE.2
   cases r1 with | ifc t1 p1 =>
   cases r2 with | ifc t2 p2 =>
   have key : ∀ (n : Int) (u : Value) (w' : World), atoiN (tL s) = n -> u.oneCell' = true -> Below w.heap.size w w' -> ∃ r o, spAtoi.may [.d (.one (.str s))] r o /\ ∃ v S' rfs fps', Ending.returned (.tuple #[.int .i64 n, u]) = .returned v /\ RepR w' S' r v rfs /\ All3 (RepA w' S') o [.string s] fps' /\
    (∀ g, S' g -> S g \/ w.heap.size <= g \/ Any [fp] g) /\ (∀ g, S' g -> g < w'.heap.size) /\
    Apart S' (rfs ++ fps') /\ (∀ g, Any (rfs ++ fps') g -> (w.heap.size <= g \/ Any [fp] g) /\ g < w'.heap.size) /\ Fr (Any [fp]) w.heap.size w w' := fun n u w' hn hu hb => by
    refine ⟨_, _, (Spec.may_none spAtoi_alts).2 ⟨(spAtoi_res s).symm, (spAtoi_out s).symm⟩, flat_done (rfs := [fun _ => False, fun _ => False]) ⟨by simp, [.int .i64 n, u], rfl, .cons ⟨by rw [hn]; exact .int _ _, fun _ h => h⟩ (.cons ⟨.jk _ hu, fun _ h => h⟩ .nil)⟩ ?_ (.cons hfp .nil) hS hb⟩
    simp only [List.cons_append, List.nil_append, List.mem_cons, List.not_mem_nil, or_false]
    rintro q (rfl | rfl | rfl) g
    ·exact id
    ·exact id
    ·exact hfp g
   cases hat : Lib.atoiAll (tL s) with
   | ok n =>
     refine (Tryd.strconv_Atoi_ok s (by omega) n hat w).mono ?_
     rintro e w' ⟨rfl, h⟩
     refine key n _ w' (by unfold atoiN; rw [hat]) rfl ?_
     rcases h with rfl | ⟨t, rfl⟩
     ·exact Below.refl _ _
     ·exact Lib.bytesWorld_below _ _ _
   | range =>
     refine (Tryd.strconv_Atoi_range s (by omega) hat _ w e2 (.inr ⟨_, _, rfl⟩)).mono ?_
     rintro e w' ⟨N, rfl, _, _, hb⟩
     exact key _ _ w' (by unfold atoiN; rw [hat]; rfl) rfl hb
   | _ =>
     refine (Go.Proofs.Any.strconv_Atoi_syntax Tryd.laysC172 s (by omega) hat _ w e1 (.inr ⟨_, _, rfl⟩)).mono ?_
     rintro e w' ⟨N, rfl, _, _, hb⟩
     exact key 0 _ w' (by unfold atoiN; rw [hat]) rfl hb
theorem ext_sub (s : ByteArray) (a b : Nat) : s.extract a b = bL (sub (tL s) a b) := by
 apply ByteArray.ext
 apply Array.ext'
 simp [bL, sub, tL, ByteArray.data_extract, Array.toList_extract, List.extract]
theorem ext_tl (s : ByteArray) (a : Nat) : tL (s.extract a s.size) = (tL s).drop a := by
 rw [ext_sub]
 show (bL _).data.toList = _
 rw [bL_toList]
 unfold sub tL
 rw [List.take_of_length_le]
 rw [List.length_drop]
 have : s.data.toList.length = s.size := ba_len s
 omega
theorem tL_bL (l : List UInt8) : tL (bL l) = l := bL_toList l
theorem tL_len (s : ByteArray) : (tL s).length = s.size := ba_len s
theorem tL_at {s : ByteArray} {i : Nat} (h : i < s.size) : ∃ c, (tL s)[i]? = some c /\ byteAt s i = (c.toNat : Int) /\ (byteAt s i).toNat.toUInt8 = c /\ (tL s).drop i = c :: (tL s).drop (i + 1) := by
 obtain ⟨x, h1, h2, h3⟩ := byteAt_get h
 have h' : i < (tL s).length := by rw [tL_len]; exact h
 refine ⟨x, h1, h2, by rw [h2]; simp, ?_⟩
 rw [List.drop_eq_getElem_cons h']
 have : (tL s)[i]? = some x := h1
 rw [List.getElem?_eq_getElem h'] at this
 rw [Option.some.inj this]
theorem idx_neg (l : List UInt8) (c : UInt8) : (Lib.indexByte l c < 0) ↔ l.contains c = false := by
 have h0 : ∀ l : List UInt8, Lib.indexByte l c = -1 \/ 0 <= Lib.indexByte l c := fun l => by
  induction l with
  | nil => exact .inl rfl
  | cons b l ih =>
    simp only [Lib.indexByte]
    split
    ·exact .inr (by omega)
    ·split
     ·exact .inl rfl
     ·rename_i h; simp only [beq_iff_eq] at h; exact .inr (by omega)
 induction l with
 | nil => simp [Lib.indexByte]
 | cons b l ih =>
   simp only [Lib.indexByte, List.contains_cons, Bool.or_eq_false_iff]
   by_cases e : b = c
   ·subst e; simp
   ·have e1 : (b == c) = false := by simpa using e
    have e2 : (c == b) = false := by simpa using fun k => e k.symm
    rw [e1, e2]
    simp only [Bool.false_eq_true, if_false, true_and]
    refine Iff.trans ?_ ih
    split
    ·rename_i h; simp only [beq_iff_eq] at h; omega
    ·rename_i h; simp only [beq_iff_eq] at h
     have := h0 l
     omega
end Go.Proofs.Pw
namespace Go.Proofs.Pw
variable [Globs]
def rdrC (s : ByteArray) (a : Nat) : List C := [.str s, .int .i64 (a : Int)]
theorem rdrC_eq {s t : ByteArray} {a b : Nat} : rdrC s a = rdrC t b ↔ s = t /\ a = b := by simp only [rdrC, List.cons.injEq, C.str.injEq, C.int.injEq, true_and, and_true]; exact and_congr_right fun _ => by omega
def x_skip : X := (.seq (.reg [⟨some 4, none, .mv (.k (.c (.bool false)))⟩] none [0, 1]) (.seq (.seq (.reg [⟨some 5, none, .mv (.t 0)⟩, ⟨some 6, none, .nilc (.t 5)⟩, ⟨some 7, none, .fa (.t 6) 0⟩, ⟨some 8, none, .load (.t 7) none⟩, ⟨some 9, none, .mv (.t 0)⟩, ⟨some 10, none, .nilc (.t 9)⟩, ⟨some 11, none, .fa (.t 10) 1⟩, ⟨some 12, none, .load (.t 11) none⟩, ⟨some 13, none, .sub (.t 8) (some (.t 12)) none 0⟩, ⟨some 14, none, .mv (.t 1)⟩, ⟨some 15, none, .call 78 [(.t 13), (.t 14)]⟩] (some 10) [0, 1, 15]) (.cond (.t 15) (.seq (.reg [⟨some 16, none, .mv (.t 0)⟩, ⟨some 17, none, .nilc (.t 16)⟩, ⟨some 18, none, .fa (.t 17) 1⟩, ⟨some 19, none, .load (.t 18) none⟩, ⟨some 20, none, .mv (.t 1)⟩, ⟨some 21, none, .len (.t 20) true⟩, ⟨some 22, none, .bin false .add (.t 19) (.t 21)⟩, ⟨some 23, none, .nilc (.t 16)⟩, ⟨some 24, none, .fa (.t 23) 1⟩, ⟨none, none, .st (.t 24) (.t 22) none⟩] none []) (.seq (.reg [⟨some 4, none, .mv (.k (.c (.bool true)))⟩] none [4]) .ret)) .skip)) (.seq (.reg [⟨some 4, none, .mv (.k (.c (.bool false)))⟩] none [4]) .ret)))
theorem chk_skip : chkX Tryd.prog 25 (Tryd.f52.body.getD .skip) x_skip = true := by kernel_rfl
theorem rs_skip : okRs Tryd.prog Tryd.f52.results.toList [.tmp 4] = true := by kernel_rfl
theorem call_skip : okCallee Tryd.prog 52 = true := by kernel_rfl
def x_upTo : X := (.seq (.reg [⟨some 4, none, .mv (.k (.c (.str ⟨#[]⟩)))⟩] none [0, 1]) (.seq (.reg [⟨some 6, none, .mv (.t 0)⟩, ⟨some 7, none, .nilc (.t 6)⟩, ⟨some 8, none, .fa (.t 7) 1⟩, ⟨some 9, none, .load (.t 8) none⟩, ⟨some 5, none, .mv (.t 9)⟩] none [0, 1, 5]) (.seq (.block 0 (.loop (.seq (.seq (.reg [⟨some 10, none, .mv (.t 0)⟩, ⟨some 11, none, .nilc (.t 10)⟩, ⟨some 12, none, .fa (.t 11) 1⟩, ⟨some 13, none, .load (.t 12) none⟩, ⟨some 14, none, .mv (.t 0)⟩, ⟨some 15, none, .nilc (.t 14)⟩, ⟨some 16, none, .fa (.t 15) 0⟩, ⟨some 17, none, .load (.t 16) none⟩, ⟨some 18, none, .len (.t 17) true⟩, ⟨some 19, none, .bin false .lss (.t 13) (.t 18)⟩, ⟨some 20, none, .mv (.t 19)⟩, ⟨some 21, some (20, true), .mv (.t 1)⟩, ⟨some 22, some (20, true), .mv (.t 0)⟩, ⟨some 23, some (20, true), .nilc (.t 22)⟩, ⟨some 24, some (20, true), .fa (.t 23) 0⟩, ⟨some 25, some (20, true), .load (.t 24) none⟩, ⟨some 26, some (20, true), .mv (.t 0)⟩, ⟨some 27, some (20, true), .nilc (.t 26)⟩, ⟨some 28, some (20, true), .fa (.t 27) 1⟩, ⟨some 29, some (20, true), .load (.t 28) none⟩, ⟨some 30, some (20, true), .idx (.t 25) (.t 29)⟩, ⟨some 31, some (20, true), .call 79 [(.t 21), (.t 30)]⟩, ⟨some 32, some (20, true), .bin false .lss (.t 31) (.k (.c (.int .i64 0)))⟩, ⟨some 33, none, .pick (.t 20) (.t 32) (.k (.c (.bool false)))⟩] (some 21) [0, 1, 5, 33]) (.cond (.t 33) .skip (.exit 0))) (.block 1 (.reg [⟨some 34, none, .mv (.t 0)⟩, ⟨some 35, none, .nilc (.t 34)⟩, ⟨some 36, none, .fa (.t 35) 1⟩, ⟨some 37, none, .load (.t 36) none⟩, ⟨some 38, none, .bin false .add (.t 37) (.k (.c (.int .i64 1)))⟩, ⟨some 39, none, .nilc (.t 34)⟩, ⟨some 40, none, .fa (.t 39) 1⟩, ⟨none, none, .st (.t 40) (.t 38) none⟩] none [0, 1, 5]))))) (.seq (.reg [⟨some 41, none, .mv (.t 0)⟩, ⟨some 42, none, .nilc (.t 41)⟩, ⟨some 43, none, .fa (.t 42) 0⟩, ⟨some 44, none, .load (.t 43) none⟩, ⟨some 45, none, .mv (.t 5)⟩, ⟨some 46, none, .mv (.t 0)⟩, ⟨some 47, none, .nilc (.t 46)⟩, ⟨some 48, none, .fa (.t 47) 1⟩, ⟨some 49, none, .load (.t 48) none⟩, ⟨some 50, none, .sub (.t 44) (some (.t 45)) (some (.t 49)) 0⟩, ⟨some 4, none, .mv (.t 50)⟩] (some 9) [4]) .ret))))
theorem chk_upTo : chkX Tryd.prog 51 (Tryd.f53.body.getD .skip) x_upTo = true := by kernel_rfl
theorem rs_upTo : okRs Tryd.prog Tryd.f53.results.toList [.tmp 4] = true := by kernel_rfl
theorem call_upTo : okCallee Tryd.prog 53 = true := by kernel_rfl
def x_rval : X := (.seq (.reg [⟨some 4, none, .alloc [(.c (.int .i64 0)), (.c (.int .i64 0)), (.c (.str ⟨#[]⟩)), (.z 1), (.z 5)]⟩] none [0, 1, 4]) (.seq (.seq (.reg [⟨some 10, none, .mv (.t 1)⟩, ⟨some 11, none, .bin false .gtr (.t 10) (.k (.c (.int .i64 6)))⟩] none [0, 1, 4, 11]) (.cond (.t 11) (.seq (.reg [⟨some 12, none, .build [(.c (.int .i64 0)), (.c (.int .i64 0)), (.c (.str ⟨#[]⟩)), (.z 1), (.z 5)] []⟩, ⟨none, none, .st (.t 4) (.t 12) (some 5)⟩] none [4]) .ret) .skip)) (.seq (.block 0 (.seq (.reg [⟨some 14, none, .mv (.t 0)⟩, ⟨some 15, none, .callr 52 [(.t 14), (.k (.c (.str ⟨#[110, 117, 108, 108]⟩)))]⟩, ⟨some 13, none, .mv (.t 15)⟩] none [0, 1, 4, 13]) (.cond (.t 13) (.seq (.reg [⟨some 16, none, .build [(.c (.int .i64 0)), (.c (.int .i64 0)), (.c (.str ⟨#[]⟩)), (.z 1), (.z 5)] []⟩, ⟨none, none, .st (.t 4) (.t 16) (some 5)⟩] none [4]) .ret) (.seq (.reg [⟨some 18, none, .mv (.t 0)⟩, ⟨some 19, none, .callr 52 [(.t 18), (.k (.c (.str ⟨#[102, 97, 108, 115, 101]⟩)))]⟩, ⟨some 17, none, .mv (.t 19)⟩] none [0, 1, 4, 17]) (.cond (.t 17) (.seq (.reg [⟨some 20, none, .build [(.c (.int .i64 0)), (.c (.int .i64 0)), (.c (.str ⟨#[]⟩)), (.z 1), (.z 5)] [(0, (.k (.c (.int .i64 1))), none)]⟩, ⟨none, none, .st (.t 4) (.t 20) (some 5)⟩] none [4]) .ret) (.seq (.reg [⟨some 22, none, .mv (.t 0)⟩, ⟨some 23, none, .callr 52 [(.t 22), (.k (.c (.str ⟨#[116, 114, 117, 101]⟩)))]⟩, ⟨some 21, none, .mv (.t 23)⟩] none [0, 1, 4, 21]) (.cond (.t 21) (.seq (.reg [⟨some 24, none, .build [(.c (.int .i64 0)), (.c (.int .i64 0)), (.c (.str ⟨#[]⟩)), (.z 1), (.z 5)] [(0, (.k (.c (.int .i64 2))), none)]⟩, ⟨none, none, .st (.t 4) (.t 24) (some 5)⟩] none [4]) .ret) (.seq (.reg [⟨some 26, none, .mv (.t 0)⟩, ⟨some 27, none, .callr 52 [(.t 26), (.k (.c (.str ⟨#[39]⟩)))]⟩, ⟨some 25, none, .mv (.t 27)⟩] none [0, 1, 4, 25]) (.cond (.t 25) (.seq (.reg [⟨some 28, none, .mv (.t 0)⟩, ⟨some 29, none, .callr 53 [(.t 28), (.k (.c (.str ⟨#[39]⟩)))]⟩, ⟨some 30, none, .build [(.c (.int .i64 0)), (.c (.int .i64 0)), (.c (.str ⟨#[]⟩)), (.z 1), (.z 5)] [(0, (.k (.c (.int .i64 4))), none), (2, (.t 29), none)]⟩, ⟨some 5, none, .alloc [(.c (.int .i64 0)), (.c (.int .i64 0)), (.c (.str ⟨#[]⟩)), (.z 1), (.z 5)]⟩, ⟨none, none, .st (.t 5) (.t 30) (some 5)⟩] none [0, 4, 5]) (.seq (.reg [⟨some 31, none, .mv (.t 0)⟩, ⟨some 32, none, .callr 52 [(.t 31), (.k (.c (.str ⟨#[39]⟩)))]⟩] none [4, 5]) (.seq (.reg [⟨some 33, none, .load (.t 5) (some 5)⟩, ⟨none, none, .st (.t 4) (.t 33) (some 5)⟩] none [4]) .ret))) (.seq (.reg [⟨some 35, none, .mv (.t 0)⟩, ⟨some 36, none, .callr 52 [(.t 35), (.k (.c (.str ⟨#[91]⟩)))]⟩, ⟨some 34, none, .mv (.t 36)⟩] none [0, 1, 4, 34]) (.cond (.t 34) (.seq (.reg [⟨some 37, none, .bsl 5 []⟩, ⟨some 38, none, .build [(.c (.int .i64 0)), (.c (.int .i64 0)), (.c (.str ⟨#[]⟩)), (.z 1), (.z 5)] [(0, (.k (.c (.int .i64 5))), none), (4, (.t 37), none)]⟩, ⟨some 6, none, .alloc [(.c (.int .i64 0)), (.c (.int .i64 0)), (.c (.str ⟨#[]⟩)), (.z 1), (.z 5)]⟩, ⟨none, none, .st (.t 6) (.t 38) (some 5)⟩] none [0, 1, 4, 6]) (.seq (.seq (.reg [⟨some 39, none, .mv (.t 0)⟩, ⟨some 40, none, .callr 52 [(.t 39), (.k (.c (.str ⟨#[93]⟩)))]⟩] none [0, 1, 4, 6, 40]) (.cond (.t 40) (.seq (.reg [⟨some 41, none, .load (.t 6) (some 5)⟩, ⟨none, none, .st (.t 4) (.t 41) (some 5)⟩] none [4]) .ret) .skip)) (.seq (.block 1 (.loop (.seq (.seq (.reg [⟨some 42, none, .fa (.t 6) 4⟩, ⟨some 43, none, .load (.t 42) none⟩, ⟨some 44, none, .len (.t 43) false⟩, ⟨some 45, none, .bin false .leq (.t 44) (.k (.c (.int .i64 60)))⟩] none [0, 1, 4, 6, 45]) (.cond (.t 45) .skip (.exit 1))) (.block 2 (.seq (.mix [⟨some 46, none, .fa (.t 6) 4⟩, ⟨some 47, none, .load (.t 46) none⟩, ⟨some 48, none, .mv (.t 0)⟩, ⟨some 49, none, .mv (.t 1)⟩, ⟨some 50, none, .bin false .add (.t 49) (.k (.c (.int .i64 1)))⟩, ⟨some 51, none, .callr 36 [(.t 48), (.t 50)]⟩, ⟨some 52, none, .bsl 5 [((.t 51), (some 5))]⟩] [⟨some 53, none, .app (.t 47) (.t 52) 5 80 []⟩, ⟨some 54, none, .fa (.t 6) 4⟩, ⟨none, none, .st (.t 54) (.t 53) none⟩] [[], [], [], [], [], [1], []] [0, 1, 4, 6]) (.seq (.reg [⟨some 55, none, .mv (.t 0)⟩, ⟨some 56, none, .callr 52 [(.t 55), (.k (.c (.str ⟨#[44]⟩)))]⟩, ⟨some 57, none, .not (.t 56)⟩] none [0, 1, 4, 6, 57]) (.cond (.t 57) (.exit 1) .skip))))))) (.seq (.reg [⟨some 58, none, .mv (.t 0)⟩, ⟨some 59, none, .callr 52 [(.t 58), (.k (.c (.str ⟨#[93]⟩)))]⟩] none [4, 6]) (.seq (.reg [⟨some 60, none, .load (.t 6) (some 5)⟩, ⟨none, none, .st (.t 4) (.t 60) (some 5)⟩] none [4]) .ret))))) (.seq (.reg [⟨some 62, none, .mv (.t 0)⟩, ⟨some 63, none, .callr 52 [(.t 62), (.k (.c (.str ⟨#[123]⟩)))]⟩, ⟨some 61, none, .mv (.t 63)⟩] none [0, 1, 4, 61]) (.cond (.t 61) (.seq (.reg [⟨some 64, none, .bsl 1 []⟩, ⟨some 65, none, .bsl 5 []⟩, ⟨some 66, none, .build [(.c (.int .i64 0)), (.c (.int .i64 0)), (.c (.str ⟨#[]⟩)), (.z 1), (.z 5)] [(0, (.k (.c (.int .i64 6))), none), (3, (.t 64), none), (4, (.t 65), none)]⟩, ⟨some 7, none, .alloc [(.c (.int .i64 0)), (.c (.int .i64 0)), (.c (.str ⟨#[]⟩)), (.z 1), (.z 5)]⟩, ⟨none, none, .st (.t 7) (.t 66) (some 5)⟩] none [0, 1, 4, 7]) (.seq (.seq (.reg [⟨some 67, none, .mv (.t 0)⟩, ⟨some 68, none, .callr 52 [(.t 67), (.k (.c (.str ⟨#[125]⟩)))]⟩] none [0, 1, 4, 7, 68]) (.cond (.t 68) (.seq (.reg [⟨some 69, none, .load (.t 7) (some 5)⟩, ⟨none, none, .st (.t 4) (.t 69) (some 5)⟩] none [4]) .ret) .skip)) (.seq (.block 3 (.loop (.seq (.seq (.reg [⟨some 70, none, .fa (.t 7) 4⟩, ⟨some 71, none, .load (.t 70) none⟩, ⟨some 72, none, .len (.t 71) false⟩, ⟨some 73, none, .bin false .leq (.t 72) (.k (.c (.int .i64 60)))⟩] none [0, 1, 4, 7, 73]) (.cond (.t 73) .skip (.exit 3))) (.block 4 (.seq (.mix [⟨some 74, none, .fa (.t 7) 3⟩, ⟨some 75, none, .load (.t 74) none⟩, ⟨some 76, none, .mv (.t 0)⟩, ⟨some 77, none, .callr 53 [(.t 76), (.k (.c (.str ⟨#[58]⟩)))]⟩, ⟨some 78, none, .bsl 1 [((.t 77), none)]⟩] [⟨some 79, none, .app (.t 75) (.t 78) 1 16 []⟩, ⟨some 80, none, .fa (.t 7) 3⟩, ⟨none, none, .st (.t 80) (.t 79) none⟩] [[], [], [], [1], []] [0, 1, 4, 7]) (.seq (.reg [⟨some 81, none, .mv (.t 0)⟩, ⟨some 82, none, .callr 52 [(.t 81), (.k (.c (.str ⟨#[58]⟩)))]⟩] none [0, 1, 4, 7]) (.seq (.mix [⟨some 83, none, .fa (.t 7) 4⟩, ⟨some 84, none, .load (.t 83) none⟩, ⟨some 85, none, .mv (.t 0)⟩, ⟨some 86, none, .mv (.t 1)⟩, ⟨some 87, none, .bin false .add (.t 86) (.k (.c (.int .i64 1)))⟩, ⟨some 88, none, .callr 36 [(.t 85), (.t 87)]⟩, ⟨some 89, none, .bsl 5 [((.t 88), (some 5))]⟩] [⟨some 90, none, .app (.t 84) (.t 89) 5 80 []⟩, ⟨some 91, none, .fa (.t 7) 4⟩, ⟨none, none, .st (.t 91) (.t 90) none⟩] [[], [], [], [], [], [1], []] [0, 1, 4, 7]) (.seq (.reg [⟨some 92, none, .mv (.t 0)⟩, ⟨some 93, none, .callr 52 [(.t 92), (.k (.c (.str ⟨#[44]⟩)))]⟩, ⟨some 94, none, .not (.t 93)⟩] none [0, 1, 4, 7, 94]) (.cond (.t 94) (.exit 3) .skip))))))))) (.seq (.reg [⟨some 95, none, .mv (.t 0)⟩, ⟨some 96, none, .callr 52 [(.t 95), (.k (.c (.str ⟨#[125]⟩)))]⟩] none [4, 7]) (.seq (.reg [⟨some 97, none, .load (.t 7) (some 5)⟩, ⟨none, none, .st (.t 4) (.t 97) (some 5)⟩] none [4]) .ret))))) .skip))))))))))))) (.seq (.reg [⟨some 99, none, .mv (.t 0)⟩, ⟨some 100, none, .callr 53 [(.t 99), (.k (.c (.str ⟨#[44, 93, 125]⟩)))]⟩, ⟨some 101, none, .call 54 [(.t 100)]⟩, ⟨some 98, none, .mv (.t 101)⟩, ⟨some 102, none, .ext (.t 98) 0⟩, ⟨some 103, none, .ext (.t 98) 1⟩, ⟨some 8, none, .mv (.t 102)⟩, ⟨some 9, none, .mv (.t 103)⟩] none [4, 8]) (.seq (.reg [⟨some 104, none, .mv (.t 8)⟩, ⟨some 105, none, .build [(.c (.int .i64 0)), (.c (.int .i64 0)), (.c (.str ⟨#[]⟩)), (.z 1), (.z 5)] [(0, (.k (.c (.int .i64 3))), none), (1, (.t 104), none)]⟩, ⟨none, none, .st (.t 4) (.t 105) (some 5)⟩] none [4]) .ret)))))
theorem chk_rval : chkX Tryd.prog 106 (Tryd.f36.body.getD .skip) x_rval = true := by kernel_rfl
theorem rs_rval : okRs Tryd.prog Tryd.f36.results.toList [.cell 4 (some 5)] = true := by kernel_rfl
theorem call_rval : okCallee Tryd.prog 36 = true := by kernel_rfl
noncomputable def spSkip  : Spec := Spec.of (ι := ByteArray × Nat × ByteArray) [true, false] (fun i => [.ref (rdrC i.1 i.2.1), .d (.one (.str i.2.2))]) (fun i => i.2.1 <= i.1.size /\ lenB 1000000 i.1.size /\ lenB 1000000 i.2.2.size) (fun i => [.d (.one (.bool (skp (tL i.1) i.2.1 (tL i.2.2))))]) (fun i => [.ref (rdrC i.1 (clo (tL i.1) i.2.1 (tL i.2.2))), .gone])
theorem spSkip_inj : ∀ i j : ByteArray × Nat × ByteArray, (fun (i : ByteArray × Nat × ByteArray) => ([.ref (rdrC i.1 i.2.1), .d (.one (.str i.2.2))] : List AV)) i = (fun (i : ByteArray × Nat × ByteArray) => ([.ref (rdrC i.1 i.2.1), .d (.one (.str i.2.2))] : List AV)) j -> i = j := by
 rintro ⟨s, a, p⟩ ⟨s', a', p'⟩ h
 simp only [Prod.mk.injEq]
 simpa [strs_eq, T.enc_eq, encL_eq, F.enc_eq, encF_eq, Tk.enc_eq, encTk_eq, Gn.enc_eq, ints_eq, rdrC_eq, and_assoc] using h
theorem spSkip_md  : (spSkip).md = [true, false] := rfl
theorem spSkip_pre  (s : ByteArray) (a : Nat) (p : ByteArray) : (spSkip).pre [.ref (rdrC s a), .d (.one (.str p))] = (a <= s.size /\ lenB 1000000 s.size /\ lenB 1000000 p.size) := Spec.of_pre' spSkip_inj (s, a, p)
theorem spSkip_res  (s : ByteArray) (a : Nat) (p : ByteArray) : (spSkip).res [.ref (rdrC s a), .d (.one (.str p))] = [.d (.one (.bool (skp (tL s) a (tL p))))] := Spec.of_res spSkip_inj (s, a, p)
theorem spSkip_out  (s : ByteArray) (a : Nat) (p : ByteArray) : (spSkip).out [.ref (rdrC s a), .d (.one (.str p))] = [.ref (rdrC s (clo (tL s) a (tL p))), .gone] := Spec.of_out spSkip_inj (s, a, p)
theorem spSkip_all  (s : ByteArray) (a : Nat) (p : ByteArray) (F : List AV -> List AV -> Prop) : (spSkip).all [.ref (rdrC s a), .d (.one (.str p))] F = F [.d (.one (.bool (skp (tL s) a (tL p))))] [.ref (rdrC s (clo (tL s) a (tL p))), .gone] := by rw [Spec.all_fn rfl, spSkip_res, spSkip_out]
theorem spSkip_ne  (s : ByteArray) (a : Nat) (p : ByteArray) : (spSkip).ne [.ref (rdrC s a), .d (.one (.str p))] = True := Spec.ne_fn rfl _
theorem skip_sound : Sound Tryd.prog 52 spSkip := by
 refine sound_fam (GOK.cons call_HasPrefix hasP_sound GOK.nil) Tryd.func52 (c := Tryd.f52.body.getD .skip) rfl (n := 25) rfl chk_skip rs_skip (fun _ => by simp) ?_ ?_
 ·exact spSkip_inj
 ·rintro ⟨s, a, p⟩ ⟨h1, h2, h3⟩
  simp only [lenB] at h1 h2 h3
  have a1 : (tL p).isPrefixOf (tL (s.extract a s.size)) = skp (tL s) a (tL p) := by rw [ext_tl]; rfl
  have a2 := tL_len p
  by_cases c : skp (tL s) a (tL p) = true
  ·simp only [x_skip, rdrC, rg, go_sem, seval, Prod.fst, a1, c, clo, a2, if_true, spHasP_md, spHasP_pre, spHasP_alts, spHasP_res, spHasP_out]
   repeat' (first | with_reducible assumption | with_reducible refine And.intro ?_ ?_ | intro _)
   all_goals first | omega | skip
  ·have c' : skp (tL s) a (tL p) = false := by simpa using c
   simp only [x_skip, rdrC, rg, go_sem, seval, Prod.fst, a1, c', clo, a2, if_false, spHasP_md, spHasP_pre, spHasP_alts, spHasP_res, spHasP_out]
   repeat' (first | with_reducible assumption | with_reducible refine And.intro ?_ ?_ | intro _)
   all_goals first | omega | skip
theorem upTo_stop {l e : List UInt8} {a : Nat} (h : l.length <= a \/ ∃ c r, l.drop a = c :: r /\ e.contains c = true) : upTo l e a = a := by
 unfold upTo
 rcases h with h | ⟨c, r, h1, h2⟩
 ·rw [List.drop_eq_nil_of_le h]; rfl
 ·rw [h1, List.takeWhile_cons_of_neg (by rw [h2]; simp)]; rfl
theorem upTo_go {l e : List UInt8} {a : Nat} {c : UInt8} (h1 : l.drop a = c :: l.drop (a + 1)) (h2 : e.contains c = false) : upTo l e a = upTo l e (a + 1) := by
 unfold upTo
 rw [h1, List.takeWhile_cons_of_pos (by rw [h2]; rfl), List.length_cons]; omega
noncomputable def spUpTo  : Spec := Spec.of (ι := ByteArray × Nat × ByteArray) [true, false] (fun i => [.ref (rdrC i.1 i.2.1), .d (.one (.str i.2.2))]) (fun i => i.2.1 <= i.1.size /\ lenB 1000000 i.1.size) (fun i => [.d (.one (.str (bL (sub (tL i.1) i.2.1 (upTo (tL i.1) (tL i.2.2) i.2.1)))))]) (fun i => [.ref (rdrC i.1 (upTo (tL i.1) (tL i.2.2) i.2.1)), .gone])
theorem spUpTo_inj : ∀ i j : ByteArray × Nat × ByteArray, (fun (i : ByteArray × Nat × ByteArray) => ([.ref (rdrC i.1 i.2.1), .d (.one (.str i.2.2))] : List AV)) i = (fun (i : ByteArray × Nat × ByteArray) => ([.ref (rdrC i.1 i.2.1), .d (.one (.str i.2.2))] : List AV)) j -> i = j := by
 rintro ⟨s, a, e⟩ ⟨s', a', e'⟩ h
 simp only [Prod.mk.injEq]
 simpa [strs_eq, T.enc_eq, encL_eq, F.enc_eq, encF_eq, Tk.enc_eq, encTk_eq, Gn.enc_eq, ints_eq, rdrC_eq, and_assoc] using h
theorem spUpTo_md  : (spUpTo).md = [true, false] := rfl
theorem spUpTo_pre  (s : ByteArray) (a : Nat) (e : ByteArray) : (spUpTo).pre [.ref (rdrC s a), .d (.one (.str e))] = (a <= s.size /\ lenB 1000000 s.size) := Spec.of_pre' spUpTo_inj (s, a, e)
theorem spUpTo_res  (s : ByteArray) (a : Nat) (e : ByteArray) : (spUpTo).res [.ref (rdrC s a), .d (.one (.str e))] = [.d (.one (.str (bL (sub (tL s) a (upTo (tL s) (tL e) a)))))] := Spec.of_res spUpTo_inj (s, a, e)
theorem spUpTo_out  (s : ByteArray) (a : Nat) (e : ByteArray) : (spUpTo).out [.ref (rdrC s a), .d (.one (.str e))] = [.ref (rdrC s (upTo (tL s) (tL e) a)), .gone] := Spec.of_out spUpTo_inj (s, a, e)
theorem spUpTo_all  (s : ByteArray) (a : Nat) (e : ByteArray) (F : List AV -> List AV -> Prop) : (spUpTo).all [.ref (rdrC s a), .d (.one (.str e))] F = F [.d (.one (.str (bL (sub (tL s) a (upTo (tL s) (tL e) a)))))] [.ref (rdrC s (upTo (tL s) (tL e) a)), .gone] := by rw [Spec.all_fn rfl, spUpTo_res, spUpTo_out]
theorem spUpTo_ne  (s : ByteArray) (a : Nat) (e : ByteArray) : (spUpTo).ne [.ref (rdrC s a), .d (.one (.str e))] = True := Spec.ne_fn rfl _
theorem upTo_sound : Sound Tryd.prog 53 spUpTo := by
 refine sound_fam (GOK.cons call_IndexByte idxB_sound GOK.nil) Tryd.func53 (c := Tryd.f53.body.getD .skip) rfl (n := 51) rfl chk_upTo rs_upTo (fun _ => by simp) ?_ ?_
 ·exact spUpTo_inj
 ·rintro ⟨s, a, e⟩ ⟨h1, h2⟩
  simp only [lenB] at h1 h2
  have hl := tL_len s
  have hu := upTo_le (l := tL s) (e := tL e) (a := a) (by omega)
  rw [hl] at hu
  simp only [x_upTo, rdrC, rg, go_sem, seval, Prod.fst]
  repeat' (first | with_reducible assumption | with_reducible refine And.intro ?_ ?_ | intro _)
  all_goals first | omega | skip
  refine pw_loop (ι := Nat) (fun i => s.size - i) (fun i => a <= i /\ i <= s.size /\ upTo (tL s) (tL e) i = upTo (tL s) (tL e) a)
   (fun i => ⟨[(0, .q (.box 51 0)), (1, .q (.c (.str e))), (5, .q (.c (.int .i64 (a : Int))))], [(51, [.c (.str s), .c (.int .i64 (i : Int))])], []⟩) a ⟨Nat.le_refl _, h1, rfl⟩ (Le.refl _) ?_
  rintro i ⟨g1, g2, g3⟩
  rcases Nat.lt_or_ge i s.size with hlt | hge
  ·obtain ⟨c, b1, b2, b3, b4⟩ := tL_at hlt
   have a1 : ((i : Int) < (s.size : Int)) = True := eq_true (by omega)
   by_cases hc : (tL e).contains c = true
   ·have a2 : (Lib.indexByte (tL e) c < 0) = False := eq_false (by rw [idx_neg, hc]; simp)
    have a3 := upTo_stop (l := tL s) (e := tL e) (a := i) (.inr ⟨c, _, b4, hc⟩)
    rw [g3] at a3
    simp only [rg, go_sem, seval, Prod.fst, a1, b3, a2, a3, ext_sub, Int.toNat_natCast, spIdxB_md, spIdxB_pre, spIdxB_alts, spIdxB_res, spIdxB_out]
    repeat' (first | with_reducible assumption | with_reducible refine And.intro ?_ ?_ | intro _)
    all_goals first | omega | skip
   ·have hc' : (tL e).contains c = false := by simpa using hc
    have a2 : (Lib.indexByte (tL e) c < 0) = True := eq_true (by rw [idx_neg, hc'])
    have a3 := upTo_go (l := tL s) (e := tL e) (a := i) b4 hc'
    simp only [rg, go_sem, seval, Prod.fst, a1, b3, a2, Int.toNat_natCast, spIdxB_md, spIdxB_pre, spIdxB_alts, spIdxB_res, spIdxB_out]
    repeat' (first | with_reducible assumption | with_reducible refine And.intro ?_ ?_ | intro _)
    all_goals first | omega | skip
    exact ⟨i + 1, ⟨by omega, by omega, by rw [<- a3]; exact g3⟩, by omega, Le.of_eq (by simp)⟩
  ·have a1 : ((i : Int) < (s.size : Int)) = False := eq_false (by omega)
   have a3 := upTo_stop (l := tL s) (e := tL e) (a := i) (.inl (by omega))
   rw [g3] at a3
   simp only [rg, go_sem, seval, Prod.fst, a1, a3, ext_sub, Int.toNat_natCast, spIdxB_md, spIdxB_pre, spIdxB_alts, spIdxB_res, spIdxB_out]
   repeat' (first | with_reducible assumption | with_reducible refine And.intro ?_ ?_ | intro _)
   all_goals first | omega | skip
end Go.Proofs.Pw
namespace Go.Proofs.Pw
variable [Globs]
noncomputable def spRdV (k:Nat) : Spec := Spec.of (ι := ByteArray × Nat × Int) [true, false] (fun i => [.ref (rdrC i.1 i.2.1), .d (.one (.int .i64 i.2.2))]) (fun i => (i.2.1 <= i.1.size /\ lenB 1000000 i.1.size /\ 1 <= i.2.2 /\ i.2.2 <= 7) /\ (7 - i.2.2).toNat < k) (fun i => [.d (.agg (rdV (7 - i.2.2).toNat (tL i.1) i.2.1).1.enc)]) (fun i => [.ref (rdrC i.1 (rdV (7 - i.2.2).toNat (tL i.1) i.2.1).2), .gone])
theorem spRdV_inj : ∀ i j : ByteArray × Nat × Int, (fun (i : ByteArray × Nat × Int) => ([.ref (rdrC i.1 i.2.1), .d (.one (.int .i64 i.2.2))] : List AV)) i = (fun (i : ByteArray × Nat × Int) => ([.ref (rdrC i.1 i.2.1), .d (.one (.int .i64 i.2.2))] : List AV)) j -> i = j := by
 rintro ⟨s, a, n⟩ ⟨s', a', n'⟩ h
 simp only [Prod.mk.injEq]
 simpa [strs_eq, T.enc_eq, encL_eq, F.enc_eq, encF_eq, Tk.enc_eq, encTk_eq, Gn.enc_eq, ints_eq, rdrC_eq, and_assoc] using h
theorem spRdV_md (k:Nat) : (spRdV k).md = [true, false] := rfl
theorem spRdV_pre (k:Nat) (s : ByteArray) (a : Nat) (n : Int) : (spRdV k).pre [.ref (rdrC s a), .d (.one (.int .i64 n))] = ((a <= s.size /\ lenB 1000000 s.size /\ 1 <= n /\ n <= 7) /\ (7 - n).toNat < k) := Spec.of_pre' spRdV_inj (s, a, n)
theorem spRdV_res (k:Nat) (s : ByteArray) (a : Nat) (n : Int) : (spRdV k).res [.ref (rdrC s a), .d (.one (.int .i64 n))] = [.d (.agg (rdV (7 - n).toNat (tL s) a).1.enc)] := Spec.of_res spRdV_inj (s, a, n)
theorem spRdV_out (k:Nat) (s : ByteArray) (a : Nat) (n : Int) : (spRdV k).out [.ref (rdrC s a), .d (.one (.int .i64 n))] = [.ref (rdrC s (rdV (7 - n).toNat (tL s) a).2), .gone] := Spec.of_out spRdV_inj (s, a, n)
theorem spRdV_all (k:Nat) (s : ByteArray) (a : Nat) (n : Int) (F : List AV -> List AV -> Prop) : (spRdV k).all [.ref (rdrC s a), .d (.one (.int .i64 n))] F = F [.d (.agg (rdV (7 - n).toNat (tL s) a).1.enc)] [.ref (rdrC s (rdV (7 - n).toNat (tL s) a).2), .gone] := by rw [Spec.all_fn rfl, spRdV_res, spRdV_out]
theorem spRdV_ne (k:Nat) (s : ByteArray) (a : Nat) (n : Int) : (spRdV k).ne [.ref (rdrC s a), .d (.one (.int .i64 n))] = True := Spec.ne_fn rfl _
theorem clo_t {l p : List UInt8} {a : Nat} (h : skp l a p = true) : clo l a p = a + p.length := by unfold clo; rw [if_pos h]
theorem clo_f {l p : List UInt8} {a : Nat} (h : skp l a p = false) : clo l a p = a := by unfold clo; rw [h]; rfl
theorem rdL_y {f : Nat -> T × Nat} {l : List UInt8} {c a : Nat} (h : skp l (f a).2 [44] = true) : rdL f l (c + 1) a = ((f a).1 :: (rdL f l c ((f a).2 + 1)).1, (rdL f l c ((f a).2 + 1)).2) := by rw [rdL, if_pos h]
theorem rdL_n {f : Nat -> T × Nat} {l : List UInt8} {c a : Nat} (h : skp l (f a).2 [44] = false) : rdL f l (c + 1) a = ([(f a).1], (f a).2) := by rw [rdL, h]; rfl
theorem rdL_0 (f : Nat -> T × Nat) (l : List UInt8) (a : Nat) : rdL f l 0 a = ([], a) := rfl
theorem rdM_y {f : Nat -> T × Nat} {l : List UInt8} {c a : Nat} (h : skp l (f (clo l (upTo l [58] a) [58])).2 [44] = true) : rdM f l (c + 1) a = (bL (sub l a (upTo l [58] a)) :: (rdM f l c ((f (clo l (upTo l [58] a) [58])).2 + 1)).1, (f (clo l (upTo l [58] a) [58])).1 :: (rdM f l c ((f (clo l (upTo l [58] a) [58])).2 + 1)).2.1, (rdM f l c ((f (clo l (upTo l [58] a) [58])).2 + 1)).2.2) := by rw [rdM]; exact if_pos h
theorem rdM_n {f : Nat -> T × Nat} {l : List UInt8} {c a : Nat} (h : skp l (f (clo l (upTo l [58] a) [58])).2 [44] = false) : rdM f l (c + 1) a = ([bL (sub l a (upTo l [58] a))], [(f (clo l (upTo l [58] a) [58])).1], (f (clo l (upTo l [58] a) [58])).2) := by rw [rdM]; exact if_neg (by rw [h]; simp)
theorem rdM_0 (f : Nat -> T × Nat) (l : List UInt8) (a : Nat) : rdM f l 0 a = ([], [], a) := rfl
set_option maxHeartbeats 4000000 in
theorem rval_sound (hE : errK) (k : Nat) (hS : Sound Tryd.prog 36 (spRdV k)) : Sound Tryd.prog 36 (spRdV (k + 1)) := by
 refine sound_fam (GOK.cons (l := [(53, spUpTo), (54, spAtoi), (36, spRdV k)]) call_skip skip_sound (GOK.cons (l := [(54, spAtoi), (36, spRdV k)]) call_upTo upTo_sound (GOK.cons (l := [(36, spRdV k)]) call_Atoi (atoi_sound hE) (GOK.cons call_rval hS GOK.nil)))) Tryd.func36 (c := Tryd.f36.body.getD .skip) rfl (n := 106) rfl chk_rval rs_rval (fun _ => by simp) ?_ ?_
 ·exact spRdV_inj
 ·rintro ⟨s, a, n⟩ ⟨⟨h1, h2, h3, h4⟩, h5⟩
  simp only [lenB] at h1 h2 h3 h4 h5
  have hl := tL_len s
  have z1 : strs [] = [] := rfl
  have z2 : encL [] = [] := rfl
  have t1 : tL ⟨#[110, 117, 108, 108]⟩ = [110, 117, 108, 108] := rfl
  have t2 : tL ⟨#[102, 97, 108, 115, 101]⟩ = [102, 97, 108, 115, 101] := rfl
  have t3 : tL ⟨#[116, 114, 117, 101]⟩ = [116, 114, 117, 101] := rfl
  have t4 : tL ⟨#[39]⟩ = [39] := rfl
  have t5 : tL ⟨#[91]⟩ = [91] := rfl
  have t6 : tL ⟨#[93]⟩ = [93] := rfl
  have t7 : tL ⟨#[44]⟩ = [44] := rfl
  have t8 : tL ⟨#[123]⟩ = [123] := rfl
  have t9 : tL ⟨#[125]⟩ = [125] := rfl
  have t10 : tL ⟨#[58]⟩ = [58] := rfl
  have t11 : tL ⟨#[44, 93, 125]⟩ = [44, 93, 125] := rfl
  have q1 : (ByteArray.mk #[110, 117, 108, 108]).size = 4 := rfl
  have q2 : (ByteArray.mk #[102, 97, 108, 115, 101]).size = 5 := rfl
  have q3 : (ByteArray.mk #[116, 114, 117, 101]).size = 4 := rfl
  have q4 : (ByteArray.mk #[39]).size = 1 := rfl
  have q5 : (ByteArray.mk #[91]).size = 1 := rfl
  have q6 : (ByteArray.mk #[93]).size = 1 := rfl
  have q7 : (ByteArray.mk #[44]).size = 1 := rfl
  have q8 : (ByteArray.mk #[123]).size = 1 := rfl
  have q9 : (ByteArray.mk #[125]).size = 1 := rfl
  have q10 : (ByteArray.mk #[58]).size = 1 := rfl
  by_cases c0 : n = 7
  ·subst c0
   have b0 : ((6 : Int) < 7) = True := eq_true (by omega)
   have e : rdV 0 (tL s) a = (T.zero, a) := by rw [rdV]
   simp only [x_rval, rg, go_sem, seval, Prod.fst, b0, e, T.zero, T.enc, z1, z2]
   repeat' (first | with_reducible assumption | with_reducible refine And.intro ?_ ?_ | intro _)
   all_goals first | omega | (unfold lenB; omega) | skip
  obtain ⟨d, he⟩ : ∃ d, (7 - n).toNat = d + 1 := ⟨(7 - n).toNat - 1, by omega⟩
  have he' : (7 - (n + 1)).toNat = d := by omega
  have b0 : ((6 : Int) < n) = False := eq_false (by omega)
  generalize hL : tL s = l at *
  have hrd : ∀ i, i <= s.size -> i <= (rdV d l i).2 /\ (rdV d l i).2 <= s.size := fun i hi => by
   have := rdV_ok d l i (by omega)
   exact ⟨this.1, by have := this.2.1; omega⟩
  by_cases c1 : skp l a [110, 117, 108, 108] = true
  ·have e : rdV (d + 1) l a = (.mk 0 0 ⟨#[]⟩ [] [], a + 4) := by rw [rdV, if_pos c1]
   simp only [x_rval, rg, go_sem, seval, Prod.fst, he, b0, hL, t1, q1, c1, clo_t c1, e, T.enc, z1, z2, spSkip_md, spSkip_pre, spSkip_ne, ↓spSkip_all, spSkip_all]
   repeat' (first | with_reducible assumption | with_reducible refine And.intro ?_ ?_ | intro _)
   all_goals first | omega | (unfold lenB; omega) | skip
  have c1 : skp l a [110, 117, 108, 108] = false := by simpa using c1
  by_cases c2 : skp l a [102, 97, 108, 115, 101] = true
  ·have e : rdV (d + 1) l a = (.mk 1 0 ⟨#[]⟩ [] [], a + 5) := by rw [rdV, c1, if_neg (by simp), if_pos c2]
   simp only [x_rval, rg, go_sem, seval, Prod.fst, he, b0, hL, t1, q1, t2, q2, c1, clo_f c1, c2, clo_t c2, e, T.enc, z1, z2, spSkip_md, spSkip_pre, spSkip_ne, ↓spSkip_all, spSkip_all]
   repeat' (first | with_reducible assumption | with_reducible refine And.intro ?_ ?_ | intro _)
   all_goals first | omega | (unfold lenB; omega) | skip
  have c2 : skp l a [102, 97, 108, 115, 101] = false := by simpa using c2
  by_cases c3 : skp l a [116, 114, 117, 101] = true
  ·have e : rdV (d + 1) l a = (.mk 2 0 ⟨#[]⟩ [] [], a + 4) := by rw [rdV, c1, if_neg (by simp), c2, if_neg (by simp), if_pos c3]
   simp only [x_rval, rg, go_sem, seval, Prod.fst, he, b0, hL, t1, q1, t2, q2, t3, q3, c1, clo_f c1, c2, clo_f c2, c3, clo_t c3, e, T.enc, z1, z2, spSkip_md, spSkip_pre, spSkip_ne, ↓spSkip_all, spSkip_all]
   repeat' (first | with_reducible assumption | with_reducible refine And.intro ?_ ?_ | intro _)
   all_goals first | omega | (unfold lenB; omega) | skip
  have c3 : skp l a [116, 114, 117, 101] = false := by simpa using c3
  by_cases c4 : skp l a [39] = true
  ·have e : rdV (d + 1) l a = (.mk 4 0 (bL (sub l (a + 1) (upTo l [39] (a + 1)))) [] [], clo l (upTo l [39] (a + 1)) [39]) := by rw [rdV, c1, if_neg (by simp), c2, if_neg (by simp), c3, if_neg (by simp), if_pos c4]
   have k0 := skp_len c4 (by simp)
   simp only [List.length_cons, List.length_nil] at k0
   have k1 := upTo_le (l := l) (e := [39]) (a := a + 1) (by omega)
   simp only [x_rval, rg, go_sem, seval, Prod.fst, he, b0, hL, t1, q1, t2, q2, t3, q3, t4, q4, c1, clo_f c1, c2, clo_f c2, c3, clo_f c3, c4, clo_t c4, e, T.enc, z1, z2, List.length_cons, List.length_nil, Nat.zero_add, spSkip_md, spSkip_pre, spSkip_ne, ↓spSkip_all, spSkip_all, spUpTo_md, spUpTo_pre, spUpTo_ne, ↓spUpTo_all, spUpTo_all]
   repeat' (first | with_reducible assumption | with_reducible refine And.intro ?_ ?_ | intro _)
   all_goals first | omega | (unfold lenB; omega) | skip
  have c4 : skp l a [39] = false := by simpa using c4
  by_cases c5 : skp l a [91] = true
  ·have k0 := skp_len c5 (by simp)
   simp only [List.length_cons, List.length_nil] at k0
   by_cases c6 : skp l (a + 1) [93] = true
   ·have e : rdV (d + 1) l a = (.mk 5 0 ⟨#[]⟩ [] [], a + 2) := by rw [rdV, c1, if_neg (by simp), c2, if_neg (by simp), c3, if_neg (by simp), c4, if_neg (by simp), if_pos c5, if_pos c6]
    simp only [x_rval, rg, go_sem, seval, Prod.fst, he, b0, hL, t1, q1, t2, q2, t3, q3, t4, q4, t5, q5, t6, q6, c1, clo_f c1, c2, clo_f c2, c3, clo_f c3, c4, clo_f c4, c5, clo_t c5, c6, clo_t c6, e, T.enc, z1, z2, List.length_cons, List.length_nil, Nat.zero_add, spSkip_md, spSkip_pre, spSkip_ne, ↓spSkip_all, spSkip_all, spUpTo_md, spUpTo_pre, spUpTo_ne, ↓spUpTo_all, spUpTo_all]
    repeat' (first | with_reducible assumption | with_reducible refine And.intro ?_ ?_ | intro _)
    all_goals first | omega | (unfold lenB; omega) | skip
   have c6 : skp l (a + 1) [93] = false := by simpa using c6
   have e : rdV (d + 1) l a = (.mk 5 0 ⟨#[]⟩ [] (rdL (rdV d l) l 61 (a + 1)).1, clo l (rdL (rdV d l) l 61 (a + 1)).2 [93]) := by rw [rdV, c1, if_neg (by simp), c2, if_neg (by simp), c3, if_neg (by simp), c4, if_neg (by simp), if_pos c5, c6, if_neg (by simp)]
   simp only [x_rval, rg, go_sem, seval, Prod.fst, he, b0, hL, t1, q1, t2, q2, t3, q3, t4, q4, t5, q5, t6, q6, c1, clo_f c1, c2, clo_f c2, c3, clo_f c3, c4, clo_f c4, c5, clo_t c5, c6, clo_f c6, List.length_cons, List.length_nil, Nat.zero_add, spSkip_md, spSkip_pre, spSkip_ne, ↓spSkip_all, spSkip_all, spUpTo_md, spUpTo_pre, spUpTo_ne, ↓spUpTo_all, spUpTo_all]
   repeat' (first | with_reducible assumption | with_reducible refine And.intro ?_ ?_ | intro _)
   all_goals first | omega | (unfold lenB; omega) | skip
   refine pw_loop (ι := List T × Nat) (fun i => 61 - i.1.length) (fun i => i.1.length <= 61 /\ i.2 <= s.size /\ (rdL (rdV d l) l 61 (a + 1)).1 = i.1 ++ (rdL (rdV d l) l (61 - i.1.length) i.2).1 /\ (rdL (rdV d l) l 61 (a + 1)).2 = (rdL (rdV d l) l (61 - i.1.length) i.2).2)
    (fun i => ⟨[(0, .q (.box 106 0)), (1, .q (.c (.int .i64 n))), (4, .q (.box 4 0)), (6, .q (.box 6 0))],
     [(106, (rdrC s i.2).map .c), (4, [.c (.int .i64 0), .c (.int .i64 0), .c (.str ⟨#[]⟩), .z 1, .z 5]), (6, [.c (.int .i64 5), .c (.int .i64 0), .c (.str ⟨#[]⟩), .z 1, .own 53])],
     [(53, 5, encL i.1)]⟩) ([], a + 1) ⟨by simp, by show a + 1 <= s.size; omega, rfl, rfl⟩ ?_ ?_
   ·refine (Le.ownB (b := 6) (j := 4) (d := 53) (sz := 5) (qs := [.c (.int .i64 5), .c (.int .i64 0), .c (.str ⟨#[]⟩), .z 1, .z 5]) (by decide) (by simp) rfl (by simp [Q.killO, rdrC]) (by simp [PV.map, Q.killO])).trans (Le.sub (by simp [upd, del]) (by simp [upd, del]) (by simp [upd, del, encL]))
   ·rintro ⟨acc, i⟩ ⟨g1, g2, g3, g4⟩
    simp only at g1 g2 g3 g4
    have hr := hrd i g2
    rcases Nat.lt_or_ge acc.length 61 with hlt | hge
    ·have b1 : ((acc.length : Int) <= 60) = True := eq_true (by omega)
     obtain ⟨c, hc⟩ : ∃ c, 61 - acc.length = c + 1 := ⟨60 - acc.length, by omega⟩
     rw [hc] at g3 g4
     by_cases c7 : skp l (rdV d l i).2 [44] = true
     ·rw [rdL_y c7] at g3 g4
      have k1 := skp_len c7 (by simp)
      simp only [List.length_cons, List.length_nil] at k1
      simp only [rg, go_sem, seval, Prod.fst, he', hL, b1, t7, q7, c7, clo_t c7, encL_len, T.enc_len, List.length_cons, List.length_nil, Nat.zero_add, spSkip_md, spSkip_pre, spSkip_ne, ↓spSkip_all, spSkip_all, spRdV_md, spRdV_pre, spRdV_ne, ↓spRdV_all, spRdV_all]
      repeat' (first | with_reducible assumption | with_reducible refine And.intro ?_ ?_ | intro _)
      all_goals first | omega | (unfold lenB; omega) | skip
      refine ⟨(acc ++ [(rdV d l i).1], (rdV d l i).2 + 1), ⟨by simp; omega, by show (rdV d l i).2 + 1 <= s.size; omega, ?_, ?_⟩, by simp; omega, Le.sub (by simp) (by simp) (by simp [encL_app, encL])⟩
      ·have e7 : 61 - (acc ++ [(rdV d l i).1]).length = c := by simp; omega
       simp only [e7]; rw [g3]; simp
      ·have e7 : 61 - (acc ++ [(rdV d l i).1]).length = c := by simp; omega
       simp only [e7]; exact g4
     ·have c7 : skp l (rdV d l i).2 [44] = false := by simpa using c7
      rw [rdL_n c7] at g3 g4
      simp only [rg, go_sem, seval, Prod.fst, he', he, hL, e, g3, g4, b1, t6, q6, t7, q7, c7, clo_f c7, T.enc, z1, z2, encL_app, encL, encL_len, T.enc_len, List.length_cons, List.length_nil, Nat.zero_add, spSkip_md, spSkip_pre, spSkip_ne, ↓spSkip_all, spSkip_all, spRdV_md, spRdV_pre, spRdV_ne, ↓spRdV_all, spRdV_all]
      repeat' (first | with_reducible assumption | with_reducible refine And.intro ?_ ?_ | intro _)
      all_goals first | omega | (unfold lenB; omega) | skip
    ·have b1 : ((acc.length : Int) <= 60) = False := eq_false (by omega)
     have hc : 61 - acc.length = 0 := by omega
     rw [hc] at g3 g4
     rw [rdL_0] at g3 g4
     simp only [List.append_nil] at g3 g4
     simp only [rg, go_sem, seval, Prod.fst, he', he, hL, e, g3, g4, b1, t6, q6, T.enc, z1, z2, encL_len, T.enc_len, List.length_cons, List.length_nil, Nat.zero_add, spSkip_md, spSkip_pre, spSkip_ne, ↓spSkip_all, spSkip_all, spRdV_md, spRdV_pre, spRdV_ne, ↓spRdV_all, spRdV_all]
     repeat' (first | with_reducible assumption | with_reducible refine And.intro ?_ ?_ | intro _)
     all_goals first | omega | (unfold lenB; omega) | skip
  have c5 : skp l a [91] = false := by simpa using c5
  by_cases c8 : skp l a [123] = true
  ·have k0 := skp_len c8 (by simp)
   simp only [List.length_cons, List.length_nil] at k0
   by_cases c6 : skp l (a + 1) [125] = true
   ·have e : rdV (d + 1) l a = (.mk 6 0 ⟨#[]⟩ [] [], a + 2) := by rw [rdV, c1, if_neg (by simp), c2, if_neg (by simp), c3, if_neg (by simp), c4, if_neg (by simp), c5, if_neg (by simp), if_pos c8, if_pos c6]
    simp only [x_rval, rg, go_sem, seval, Prod.fst, he, b0, hL, t1, q1, t2, q2, t3, q3, t4, q4, t5, q5, t8, q8, t9, q9, c1, clo_f c1, c2, clo_f c2, c3, clo_f c3, c4, clo_f c4, c5, clo_f c5, c8, clo_t c8, c6, clo_t c6, e, T.enc, z1, z2, List.length_cons, List.length_nil, Nat.zero_add, spSkip_md, spSkip_pre, spSkip_ne, ↓spSkip_all, spSkip_all, spUpTo_md, spUpTo_pre, spUpTo_ne, ↓spUpTo_all, spUpTo_all]
    repeat' (first | with_reducible assumption | with_reducible refine And.intro ?_ ?_ | intro _)
    all_goals first | omega | (unfold lenB; omega) | skip
   have c6 : skp l (a + 1) [125] = false := by simpa using c6
   have e : rdV (d + 1) l a = (.mk 6 0 ⟨#[]⟩ (rdM (rdV d l) l 61 (a + 1)).1 (rdM (rdV d l) l 61 (a + 1)).2.1, clo l (rdM (rdV d l) l 61 (a + 1)).2.2 [125]) := by rw [rdV, c1, if_neg (by simp), c2, if_neg (by simp), c3, if_neg (by simp), c4, if_neg (by simp), c5, if_neg (by simp), if_pos c8, c6, if_neg (by simp)]
   simp only [x_rval, rg, go_sem, seval, Prod.fst, he, b0, hL, t1, q1, t2, q2, t3, q3, t4, q4, t5, q5, t8, q8, t9, q9, c1, clo_f c1, c2, clo_f c2, c3, clo_f c3, c4, clo_f c4, c5, clo_f c5, c8, clo_t c8, c6, clo_f c6, List.length_cons, List.length_nil, Nat.zero_add, spSkip_md, spSkip_pre, spSkip_ne, ↓spSkip_all, spSkip_all, spUpTo_md, spUpTo_pre, spUpTo_ne, ↓spUpTo_all, spUpTo_all]
   repeat' (first | with_reducible assumption | with_reducible refine And.intro ?_ ?_ | intro _)
   all_goals first | omega | (unfold lenB; omega) | skip
   refine pw_loop (ι := List ByteArray × List T × Nat) (fun i => 61 - i.2.1.length) (fun i => i.2.1.length <= 61 /\ i.1.length = i.2.1.length /\ i.2.2 <= s.size /\ (rdM (rdV d l) l 61 (a + 1)).1 = i.1 ++ (rdM (rdV d l) l (61 - i.2.1.length) i.2.2).1 /\ (rdM (rdV d l) l 61 (a + 1)).2.1 = i.2.1 ++ (rdM (rdV d l) l (61 - i.2.1.length) i.2.2).2.1 /\ (rdM (rdV d l) l 61 (a + 1)).2.2 = (rdM (rdV d l) l (61 - i.2.1.length) i.2.2).2.2)
    (fun i => ⟨[(0, .q (.box 106 0)), (1, .q (.c (.int .i64 n))), (4, .q (.box 4 0)), (7, .q (.box 7 0))],
     [(106, (rdrC s i.2.2).map .c), (4, [.c (.int .i64 0), .c (.int .i64 0), .c (.str ⟨#[]⟩), .z 1, .z 5]), (7, [.c (.int .i64 6), .c (.int .i64 0), .c (.str ⟨#[]⟩), .own 79, .own 90])],
     [(79, 1, strs i.1), (90, 5, encL i.2.1)]⟩) ([], [], a + 1) ⟨by simp, rfl, by show a + 1 <= s.size; omega, rfl, rfl, rfl⟩ ?_ ?_
   ·refine (Le.ownB (b := 7) (j := 3) (d := 79) (sz := 1) (qs := [.c (.int .i64 6), .c (.int .i64 0), .c (.str ⟨#[]⟩), .z 1, .z 5]) (by decide) (by simp) rfl (by simp [Q.killO, rdrC]) (by simp [PV.map, Q.killO])).trans
     ((Le.ownB (b := 7) (j := 4) (d := 90) (sz := 5) (qs := [.c (.int .i64 6), .c (.int .i64 0), .c (.str ⟨#[]⟩), .own 79, .z 5]) (by decide) (by simp [upd]) rfl (by simp [upd, del, Q.killO, rdrC]) (by simp [PV.map, Q.killO])).trans (Le.sub (by simp [upd, del]) (by simp [upd, del]) (by simp [upd, del, strs, encL])))
   ·rintro ⟨ks, acc, i⟩ ⟨g1, g0, g2, g3, g5, g4⟩
    simp only at g0 g1 g2 g3 g4 g5
    have hu := upTo_le (l := l) (e := [58]) (a := i) (by omega)
    have hw := clo_le (l := l) (p := [58]) (a := upTo l [58] i) hu.2 (by simp)
    have hr := hrd (clo l (upTo l [58] i) [58]) (by omega)
    rcases Nat.lt_or_ge acc.length 61 with hlt | hge
    ·have b1 : ((acc.length : Int) <= 60) = True := eq_true (by omega)
     obtain ⟨c, hc⟩ : ∃ c, 61 - acc.length = c + 1 := ⟨60 - acc.length, by omega⟩
     rw [hc] at g3 g4 g5
     by_cases c7 : skp l (rdV d l (clo l (upTo l [58] i) [58])).2 [44] = true
     ·rw [rdM_y c7] at g3 g4 g5
      have k1 := skp_len c7 (by simp)
      simp only [List.length_cons, List.length_nil] at k1
      simp only [rg, go_sem, seval, Prod.fst, he', hL, b1, t7, q7, t10, q10, c7, clo_t c7, encL_len, strs_len, T.enc_len, List.length_cons, List.length_nil, Nat.zero_add, spSkip_md, spSkip_pre, spSkip_ne, ↓spSkip_all, spSkip_all, spUpTo_md, spUpTo_pre, spUpTo_ne, ↓spUpTo_all, spUpTo_all, spRdV_md, spRdV_pre, spRdV_ne, ↓spRdV_all, spRdV_all]
      repeat' (first | with_reducible assumption | with_reducible refine And.intro ?_ ?_ | intro _)
      all_goals first | omega | (unfold lenB; omega) | skip
      have e7 : ∀ x : T, 61 - (acc ++ [x]).length = c := fun x => by simp; omega
      refine ⟨(ks ++ [bL (sub l i (upTo l [58] i))], acc ++ [(rdV d l (clo l (upTo l [58] i) [58])).1], (rdV d l (clo l (upTo l [58] i) [58])).2 + 1), ⟨by simp; omega, by simp; omega, by show (rdV d l (clo l (upTo l [58] i) [58])).2 + 1 <= s.size; omega, ?_, ?_, ?_⟩, by simp; omega, Le.sub (by simp) (by simp) (by simp [encL_app, encL, strs_app, strs])⟩
      ·simp only [e7]; rw [g3]; simp
      ·simp only [e7]; rw [g5]; simp
      ·simp only [e7]; exact g4
     ·have c7 : skp l (rdV d l (clo l (upTo l [58] i) [58])).2 [44] = false := by simpa using c7
      rw [rdM_n c7] at g3 g4 g5
      simp only [rg, go_sem, seval, Prod.fst, he', he, hL, e, g3, g4, g5, b1, t7, q7, t9, q9, t10, q10, c7, clo_f c7, T.enc, z1, z2, encL_app, encL, strs_app, encL_len, strs_len, T.enc_len, List.length_cons, List.length_nil, Nat.zero_add, spSkip_md, spSkip_pre, spSkip_ne, ↓spSkip_all, spSkip_all, spUpTo_md, spUpTo_pre, spUpTo_ne, ↓spUpTo_all, spUpTo_all, spRdV_md, spRdV_pre, spRdV_ne, ↓spRdV_all, spRdV_all]
      repeat' (first | with_reducible assumption | with_reducible refine And.intro ?_ ?_ | intro _)
      all_goals first | omega | (unfold lenB; omega) | skip
      all_goals simp [strs]
    ·have b1 : ((acc.length : Int) <= 60) = False := eq_false (by omega)
     have hc : 61 - acc.length = 0 := by omega
     rw [hc] at g3 g4 g5
     rw [rdM_0] at g3 g4 g5
     simp only [List.append_nil] at g3 g4 g5
     simp only [rg, go_sem, seval, Prod.fst, he', he, hL, e, g3, g4, g5, b1, t9, q9, T.enc, z1, z2, encL_len, T.enc_len, List.length_cons, List.length_nil, Nat.zero_add, spSkip_md, spSkip_pre, spSkip_ne, ↓spSkip_all, spSkip_all, spRdV_md, spRdV_pre, spRdV_ne, ↓spRdV_all, spRdV_all]
     repeat' (first | with_reducible assumption | with_reducible refine And.intro ?_ ?_ | intro _)
     all_goals first | omega | (unfold lenB; omega) | skip
  have c8 : skp l a [123] = false := by simpa using c8
  have e : rdV (d + 1) l a = (.mk 3 (atoiN (sub l a (upTo l [44, 93, 125] a))) ⟨#[]⟩ [] [], upTo l [44, 93, 125] a) := by rw [rdV, c1, if_neg (by simp), c2, if_neg (by simp), c3, if_neg (by simp), c4, if_neg (by simp), c5, if_neg (by simp), c8, if_neg (by simp)]
  have k1 := upTo_le (l := l) (e := [44, 93, 125]) (a := a) (by omega)
  have k2 := sub_len (l := l) (a := a) k1.2
  simp only [x_rval, rg, go_sem, seval, Prod.fst, he, b0, hL, t1, q1, t2, q2, t3, q3, t4, q4, t5, q5, t8, q8, t11, c1, clo_f c1, c2, clo_f c2, c3, clo_f c3, c4, clo_f c4, c5, clo_f c5, c8, clo_f c8, e, T.enc, z1, z2, tL_bL, bL_size, lenB, List.length_cons, List.length_nil, Nat.zero_add, spSkip_md, spSkip_pre, spSkip_ne, ↓spSkip_all, spSkip_all, spUpTo_md, spUpTo_pre, spUpTo_ne, ↓spUpTo_all, spUpTo_all, spAtoi_md, spAtoi_pre, spAtoi_alts, spAtoi_res, spAtoi_out]
  repeat' (first | with_reducible assumption | with_reducible refine And.intro ?_ ?_ | intro _)
  all_goals first | omega | (unfold lenB; omega) | skip
theorem rval_all (hE : errK) (k : Nat) : Sound Tryd.prog 36 (spRdV k) := by
 induction k with
 | zero => exact Sound.none
 | succ k ih => exact rval_sound hE k ih
noncomputable def spRdVV  : Spec := Spec.of (ι := ByteArray × Nat × Int) [true, false] (fun i => [.ref (rdrC i.1 i.2.1), .d (.one (.int .i64 i.2.2))]) (fun i => i.2.1 <= i.1.size /\ lenB 1000000 i.1.size /\ 1 <= i.2.2 /\ i.2.2 <= 7) (fun i => [.d (.agg (rdV (7 - i.2.2).toNat (tL i.1) i.2.1).1.enc)]) (fun i => [.ref (rdrC i.1 (rdV (7 - i.2.2).toNat (tL i.1) i.2.1).2), .gone])
theorem spRdVV_inj : ∀ i j : ByteArray × Nat × Int, (fun (i : ByteArray × Nat × Int) => ([.ref (rdrC i.1 i.2.1), .d (.one (.int .i64 i.2.2))] : List AV)) i = (fun (i : ByteArray × Nat × Int) => ([.ref (rdrC i.1 i.2.1), .d (.one (.int .i64 i.2.2))] : List AV)) j -> i = j := by
 rintro ⟨s, a, n⟩ ⟨s', a', n'⟩ h
 simp only [Prod.mk.injEq]
 simpa [strs_eq, T.enc_eq, encL_eq, F.enc_eq, encF_eq, Tk.enc_eq, encTk_eq, Gn.enc_eq, ints_eq, rdrC_eq, and_assoc] using h
theorem spRdVV_md  : (spRdVV).md = [true, false] := rfl
theorem spRdVV_pre  (s : ByteArray) (a : Nat) (n : Int) : (spRdVV).pre [.ref (rdrC s a), .d (.one (.int .i64 n))] = (a <= s.size /\ lenB 1000000 s.size /\ 1 <= n /\ n <= 7) := Spec.of_pre' spRdVV_inj (s, a, n)
theorem spRdVV_res  (s : ByteArray) (a : Nat) (n : Int) : (spRdVV).res [.ref (rdrC s a), .d (.one (.int .i64 n))] = [.d (.agg (rdV (7 - n).toNat (tL s) a).1.enc)] := Spec.of_res spRdVV_inj (s, a, n)
theorem spRdVV_out  (s : ByteArray) (a : Nat) (n : Int) : (spRdVV).out [.ref (rdrC s a), .d (.one (.int .i64 n))] = [.ref (rdrC s (rdV (7 - n).toNat (tL s) a).2), .gone] := Spec.of_out spRdVV_inj (s, a, n)
theorem spRdVV_all  (s : ByteArray) (a : Nat) (n : Int) (F : List AV -> List AV -> Prop) : (spRdVV).all [.ref (rdrC s a), .d (.one (.int .i64 n))] F = F [.d (.agg (rdV (7 - n).toNat (tL s) a).1.enc)] [.ref (rdrC s (rdV (7 - n).toNat (tL s) a).2), .gone] := by rw [Spec.all_fn rfl, spRdVV_res, spRdVV_out]
theorem spRdVV_ne  (s : ByteArray) (a : Nat) (n : Int) : (spRdVV).ne [.ref (rdrC s a), .d (.one (.int .i64 n))] = True := Spec.ne_fn rfl _
theorem rvalV_sound (hE : errK) : Sound Tryd.prog 36 spRdVV := Sound.all (μ := fun i => (7 - i.2.2).toNat) (rval_all hE)
end Go.Proofs.Pw
namespace Go.Proofs.Pw
variable [Globs]
def x_l1At : X := (.seq (.reg [⟨some 6, none, .mv (.k (.c (.bool false)))⟩] none [0, 1, 2]) (.seq (.reg [⟨some 7, none, .mv (.t 1)⟩, ⟨some 8, none, .bin false .geq (.t 7) (.k (.c (.int .i64 0)))⟩, ⟨some 9, none, .mv (.t 8)⟩, ⟨some 10, some (9, true), .mv (.t 1)⟩, ⟨some 11, some (9, true), .mv (.t 0)⟩, ⟨some 12, some (9, true), .len (.t 11) true⟩, ⟨some 13, some (9, true), .bin false .lss (.t 10) (.t 12)⟩, ⟨some 14, none, .pick (.t 9) (.t 13) (.k (.c (.bool false)))⟩, ⟨some 15, none, .mv (.t 14)⟩, ⟨some 16, some (15, true), .mv (.t 0)⟩, ⟨some 17, some (15, true), .mv (.t 1)⟩, ⟨some 18, some (15, true), .idx (.t 16) (.t 17)⟩, ⟨some 19, some (15, true), .mv (.t 2)⟩, ⟨some 20, some (15, true), .bin false .eql (.t 18) (.t 19)⟩, ⟨some 21, none, .pick (.t 15) (.t 20) (.k (.c (.bool false)))⟩, ⟨some 6, none, .mv (.t 21)⟩] none [6]) .ret))
theorem chk_l1At : chkX Tryd.prog 22 (Tryd.f61.body.getD .skip) x_l1At = true := by kernel_rfl
theorem rs_l1At : okRs Tryd.prog Tryd.f61.results.toList [.tmp 6] = true := by kernel_rfl
theorem call_l1At : okCallee Tryd.prog 61 = true := by kernel_rfl
def x_l1Letters : X := (.seq (.reg [⟨some 4, none, .mv (.k (.c (.int .i64 0)))⟩] none [0, 1]) (.seq (.block 0 (.loop (.seq (.seq (.reg [⟨some 5, none, .mv (.t 1)⟩, ⟨some 6, none, .mv (.t 0)⟩, ⟨some 7, none, .len (.t 6) true⟩, ⟨some 8, none, .bin false .lss (.t 5) (.t 7)⟩, ⟨some 9, none, .mv (.t 8)⟩, ⟨some 10, some (9, true), .mv (.t 0)⟩, ⟨some 11, some (9, true), .mv (.t 1)⟩, ⟨some 12, some (9, true), .idx (.t 10) (.t 11)⟩, ⟨some 13, some (9, true), .bin false .geq (.t 12) (.k (.c (.int .u8 97)))⟩, ⟨some 14, none, .pick (.t 9) (.t 13) (.k (.c (.bool false)))⟩, ⟨some 15, none, .mv (.t 14)⟩, ⟨some 16, some (15, true), .mv (.t 0)⟩, ⟨some 17, some (15, true), .mv (.t 1)⟩, ⟨some 18, some (15, true), .idx (.t 16) (.t 17)⟩, ⟨some 19, some (15, true), .bin false .leq (.t 18) (.k (.c (.int .u8 122)))⟩, ⟨some 20, none, .pick (.t 15) (.t 19) (.k (.c (.bool false)))⟩] none [0, 1, 20]) (.cond (.t 20) .skip (.exit 0))) (.block 1 (.reg [⟨some 21, none, .mv (.t 1)⟩, ⟨some 22, none, .bin false .add (.t 21) (.k (.c (.int .i64 1)))⟩, ⟨some 1, none, .mv (.t 22)⟩] none [0, 1]))))) (.seq (.reg [⟨some 23, none, .mv (.t 1)⟩, ⟨some 4, none, .mv (.t 23)⟩] none [4]) .ret)))
theorem chk_l1Letters : chkX Tryd.prog 24 (Tryd.f73.body.getD .skip) x_l1Letters = true := by kernel_rfl
theorem rs_l1Letters : okRs Tryd.prog Tryd.f73.results.toList [.tmp 4] = true := by kernel_rfl
theorem call_l1Letters : okCallee Tryd.prog 73 = true := by kernel_rfl
def x_l11Num : X := (.seq (.reg [⟨some 2, none, .mv (.k (.c (.int .i64 0)))⟩, ⟨some 3, none, .mv (.k (.c (.bool false)))⟩] none [0]) (.seq (.reg [⟨some 7, none, .mv (.t 0)⟩, ⟨some 8, none, .len (.t 7) true⟩, ⟨some 9, none, .bin false .gtr (.t 8) (.k (.c (.int .i64 0)))⟩, ⟨some 10, none, .mv (.t 9)⟩, ⟨some 11, some (10, true), .mv (.t 0)⟩, ⟨some 12, some (10, true), .idx (.t 11) (.k (.c (.int .i64 0)))⟩, ⟨some 13, some (10, true), .bin false .eql (.t 12) (.k (.c (.int .u8 45)))⟩, ⟨some 14, none, .pick (.t 10) (.t 13) (.k (.c (.bool false)))⟩, ⟨some 4, none, .mv (.t 14)⟩] none [0, 4]) (.seq (.seq (.reg [⟨some 15, none, .mv (.t 4)⟩] none [0, 4, 15]) (.cond (.t 15) (.reg [⟨some 16, none, .mv (.t 0)⟩, ⟨some 17, none, .sub (.t 16) (some (.k (.c (.int .i64 1)))) none 0⟩, ⟨some 0, none, .mv (.t 17)⟩] none [0, 4]) .skip)) (.seq (.seq (.reg [⟨some 18, none, .mv (.t 0)⟩, ⟨some 19, none, .len (.t 18) true⟩, ⟨some 20, none, .bin false .eql (.t 19) (.k (.c (.int .i64 0)))⟩, ⟨some 21, none, .mv (.t 20)⟩, ⟨some 22, some (21, false), .mv (.t 0)⟩, ⟨some 23, some (21, false), .len (.t 22) true⟩, ⟨some 24, some (21, false), .bin false .gtr (.t 23) (.k (.c (.int .i64 17)))⟩, ⟨some 25, none, .pick (.t 21) (.k (.c (.bool true))) (.t 24)⟩, ⟨some 26, none, .mv (.t 25)⟩, ⟨some 27, some (26, false), .mv (.t 0)⟩, ⟨some 28, some (26, false), .idx (.t 27) (.k (.c (.int .i64 0)))⟩, ⟨some 29, some (26, false), .bin false .eql (.t 28) (.k (.c (.int .u8 48)))⟩, ⟨some 30, some (26, false), .mv (.t 29)⟩, ⟨some 31, some (30, true), .mv (.t 0)⟩, ⟨some 32, some (30, true), .len (.t 31) true⟩, ⟨some 33, some (30, true), .bin false .gtr (.t 32) (.k (.c (.int .i64 1)))⟩, ⟨some 34, some (30, true), .mv (.t 33)⟩, ⟨some 35, some (34, false), .mv (.t 4)⟩, ⟨some 36, some (30, true), .pick (.t 34) (.k (.c (.bool true))) (.t 35)⟩, ⟨some 37, some (26, false), .pick (.t 30) (.t 36) (.k (.c (.bool false)))⟩, ⟨some 38, none, .pick (.t 26) (.k (.c (.bool true))) (.t 37)⟩] none [0, 4, 38]) (.cond (.t 38) (.seq (.reg [⟨some 2, none, .mv (.k (.c (.int .i64 0)))⟩, ⟨some 3, none, .mv (.k (.c (.bool false)))⟩] none [2, 3]) .ret) .skip)) (.seq (.reg [⟨some 5, none, .mv (.k (.c (.int .i64 0)))⟩] none [0, 4, 5]) (.seq (.seq (.reg [⟨some 6, none, .mv (.k (.c (.int .i64 0)))⟩] none [0, 4, 5, 6]) (.block 0 (.loop (.seq (.seq (.reg [⟨some 39, none, .mv (.t 6)⟩, ⟨some 40, none, .mv (.t 0)⟩, ⟨some 41, none, .len (.t 40) true⟩, ⟨some 42, none, .bin false .lss (.t 39) (.t 41)⟩] none [0, 4, 5, 6, 42]) (.cond (.t 42) .skip (.exit 0))) (.seq (.block 1 (.seq (.seq (.reg [⟨some 45, none, .mv (.t 0)⟩, ⟨some 46, none, .mv (.t 6)⟩, ⟨some 47, none, .idx (.t 45) (.t 46)⟩, ⟨some 48, none, .bin false .lss (.t 47) (.k (.c (.int .u8 48)))⟩, ⟨some 49, none, .mv (.t 48)⟩, ⟨some 50, some (49, false), .mv (.t 0)⟩, ⟨some 51, some (49, false), .mv (.t 6)⟩, ⟨some 52, some (49, false), .idx (.t 50) (.t 51)⟩, ⟨some 53, some (49, false), .bin false .gtr (.t 52) (.k (.c (.int .u8 57)))⟩, ⟨some 54, none, .pick (.t 49) (.k (.c (.bool true))) (.t 53)⟩] none [0, 4, 5, 6, 54]) (.cond (.t 54) (.seq (.reg [⟨some 2, none, .mv (.k (.c (.int .i64 0)))⟩, ⟨some 3, none, .mv (.k (.c (.bool false)))⟩] none [2, 3]) .ret) .skip)) (.reg [⟨some 55, none, .mv (.t 5)⟩, ⟨some 56, none, .bin false .mul (.t 55) (.k (.c (.int .i64 10)))⟩, ⟨some 57, none, .mv (.t 0)⟩, ⟨some 58, none, .mv (.t 6)⟩, ⟨some 59, none, .idx (.t 57) (.t 58)⟩, ⟨some 60, none, .bin false .sub (.t 59) (.k (.c (.int .u8 48)))⟩, ⟨some 61, none, .conv .i64 (.t 60)⟩, ⟨some 62, none, .bin false .add (.t 56) (.t 61)⟩, ⟨some 5, none, .mv (.t 62)⟩] none [0, 4, 5, 6]))) (.reg [⟨some 43, none, .mv (.t 6)⟩, ⟨some 44, none, .bin false .add (.t 43) (.k (.c (.int .i64 1)))⟩, ⟨some 6, none, .mv (.t 44)⟩] none [0, 4, 5, 6])))))) (.seq (.seq (.reg [⟨some 63, none, .mv (.t 4)⟩] none [5, 63]) (.cond (.t 63) (.reg [⟨some 64, none, .mv (.t 5)⟩, ⟨some 65, none, .bin false .sub (.k (.c (.int .i64 0))) (.t 64)⟩, ⟨some 5, none, .mv (.t 65)⟩] none [5]) .skip)) (.seq (.reg [⟨some 66, none, .mv (.t 5)⟩, ⟨some 2, none, .mv (.t 66)⟩, ⟨some 3, none, .mv (.k (.c (.bool true)))⟩] none [2, 3]) .ret))))))))
theorem chk_l11Num : chkX Tryd.prog 67 (Tryd.f91.body.getD .skip) x_l11Num = true := by kernel_rfl
theorem rs_l11Num : okRs Tryd.prog Tryd.f91.results.toList [.tmp 2, .tmp 3] = true := by kernel_rfl
theorem call_l11Num : okCallee Tryd.prog 91 = true := by kernel_rfl
def x_l1Word : X := (.seq (.reg [⟨some 4, none, .alloc [(.c (.int .i64 0)), (.c (.int .i64 0)), (.c (.str ⟨#[]⟩)), (.z 1), (.z 5)]⟩, ⟨some 5, none, .mv (.k (.c (.int .i64 0)))⟩] none [0, 1, 4]) (.seq (.reg [⟨some 7, none, .mv (.t 0)⟩, ⟨some 8, none, .mv (.t 1)⟩, ⟨some 9, none, .call 73 [(.t 7), (.t 8)]⟩, ⟨some 6, none, .mv (.t 9)⟩] none [0, 1, 4, 6]) (.seq (.seq (.reg [⟨some 10, none, .mv (.t 0)⟩, ⟨some 11, none, .mv (.t 1)⟩, ⟨some 12, none, .mv (.t 6)⟩, ⟨some 13, none, .sub (.t 10) (some (.t 11)) (some (.t 12)) 0⟩] none [4, 6, 13]) (.block 0 (.seq (.reg [⟨some 15, none, .bin false .eql (.t 13) (.k (.c (.str ⟨#[110, 117, 108, 108]⟩)))⟩, ⟨some 14, none, .mv (.t 15)⟩] none [4, 6, 13, 14]) (.cond (.t 14) (.seq (.reg [⟨some 16, none, .build [(.c (.int .i64 0)), (.c (.int .i64 0)), (.c (.str ⟨#[]⟩)), (.z 1), (.z 5)] []⟩, ⟨some 17, none, .mv (.t 6)⟩, ⟨none, none, .st (.t 4) (.t 16) (some 5)⟩, ⟨some 5, none, .mv (.t 17)⟩] none [4, 5]) .ret) (.seq (.reg [⟨some 19, none, .bin false .eql (.t 13) (.k (.c (.str ⟨#[102, 97, 108, 115, 101]⟩)))⟩, ⟨some 18, none, .mv (.t 19)⟩] none [4, 6, 13, 18]) (.cond (.t 18) (.seq (.reg [⟨some 20, none, .build [(.c (.int .i64 0)), (.c (.int .i64 0)), (.c (.str ⟨#[]⟩)), (.z 1), (.z 5)] [(0, (.k (.c (.int .i64 1))), none)]⟩, ⟨some 21, none, .mv (.t 6)⟩, ⟨none, none, .st (.t 4) (.t 20) (some 5)⟩, ⟨some 5, none, .mv (.t 21)⟩] none [4, 5]) .ret) (.seq (.reg [⟨some 23, none, .bin false .eql (.t 13) (.k (.c (.str ⟨#[116, 114, 117, 101]⟩)))⟩, ⟨some 22, none, .mv (.t 23)⟩] none [4, 6, 22]) (.cond (.t 22) (.seq (.reg [⟨some 24, none, .build [(.c (.int .i64 0)), (.c (.int .i64 0)), (.c (.str ⟨#[]⟩)), (.z 1), (.z 5)] [(0, (.k (.c (.int .i64 2))), none)]⟩, ⟨some 25, none, .mv (.t 6)⟩, ⟨none, none, .st (.t 4) (.t 24) (some 5)⟩, ⟨some 5, none, .mv (.t 25)⟩] none [4, 5]) .ret) .skip)))))))) (.seq (.reg [⟨some 26, none, .build [(.c (.int .i64 0)), (.c (.int .i64 0)), (.c (.str ⟨#[]⟩)), (.z 1), (.z 5)] []⟩, ⟨none, none, .st (.t 4) (.t 26) (some 5)⟩, ⟨some 5, none, .mv (.k (.c (.int .i64 (-1))))⟩] none [4, 5]) .ret))))
theorem chk_l1Word : chkX Tryd.prog 27 (Tryd.f74.body.getD .skip) x_l1Word = true := by kernel_rfl
theorem rs_l1Word : okRs Tryd.prog Tryd.f74.results.toList [.cell 4 (some 5), .tmp 5] = true := by kernel_rfl
theorem call_l1Word : okCallee Tryd.prog 74 = true := by kernel_rfl
def x_l1Num : X := (.seq (.reg [⟨some 4, none, .alloc [(.c (.int .i64 0)), (.c (.int .i64 0)), (.c (.str ⟨#[]⟩)), (.z 1), (.z 5)]⟩, ⟨some 5, none, .mv (.k (.c (.int .i64 0)))⟩] none [0, 1, 4]) (.seq (.reg [⟨some 9, none, .mv (.t 1)⟩, ⟨some 6, none, .mv (.t 9)⟩] none [0, 1, 4, 6]) (.seq (.seq (.reg [⟨some 10, none, .mv (.t 0)⟩, ⟨some 11, none, .mv (.t 6)⟩, ⟨some 12, none, .call 61 [(.t 10), (.t 11), (.k (.c (.int .u8 45)))]⟩] none [0, 1, 4, 6, 12]) (.cond (.t 12) (.reg [⟨some 13, none, .mv (.t 6)⟩, ⟨some 14, none, .bin false .add (.t 13) (.k (.c (.int .i64 1)))⟩, ⟨some 6, none, .mv (.t 14)⟩] none [0, 1, 4, 6]) .skip)) (.seq (.block 0 (.loop (.seq (.seq (.reg [⟨some 15, none, .mv (.t 6)⟩, ⟨some 16, none, .mv (.t 0)⟩, ⟨some 17, none, .len (.t 16) true⟩, ⟨some 18, none, .bin false .lss (.t 15) (.t 17)⟩, ⟨some 19, none, .mv (.t 18)⟩, ⟨some 20, some (19, true), .mv (.t 0)⟩, ⟨some 21, some (19, true), .mv (.t 6)⟩, ⟨some 22, some (19, true), .idx (.t 20) (.t 21)⟩, ⟨some 23, some (19, true), .bin false .geq (.t 22) (.k (.c (.int .u8 48)))⟩, ⟨some 24, none, .pick (.t 19) (.t 23) (.k (.c (.bool false)))⟩, ⟨some 25, none, .mv (.t 24)⟩, ⟨some 26, some (25, true), .mv (.t 0)⟩, ⟨some 27, some (25, true), .mv (.t 6)⟩, ⟨some 28, some (25, true), .idx (.t 26) (.t 27)⟩, ⟨some 29, some (25, true), .bin false .leq (.t 28) (.k (.c (.int .u8 57)))⟩, ⟨some 30, none, .pick (.t 25) (.t 29) (.k (.c (.bool false)))⟩] none [0, 1, 4, 6, 30]) (.cond (.t 30) .skip (.exit 0))) (.block 1 (.reg [⟨some 31, none, .mv (.t 6)⟩, ⟨some 32, none, .bin false .add (.t 31) (.k (.c (.int .i64 1)))⟩, ⟨some 6, none, .mv (.t 32)⟩] none [0, 1, 4, 6]))))) (.seq (.reg [⟨some 34, none, .mv (.t 0)⟩, ⟨some 35, none, .mv (.t 1)⟩, ⟨some 36, none, .mv (.t 6)⟩, ⟨some 37, none, .sub (.t 34) (some (.t 35)) (some (.t 36)) 0⟩, ⟨some 38, none, .call 91 [(.t 37)]⟩, ⟨some 33, none, .mv (.t 38)⟩, ⟨some 39, none, .ext (.t 33) 0⟩, ⟨some 40, none, .ext (.t 33) 1⟩, ⟨some 7, none, .mv (.t 39)⟩, ⟨some 8, none, .mv (.t 40)⟩] none [4, 6, 7, 8]) (.seq (.seq (.reg [⟨some 41, none, .mv (.t 8)⟩, ⟨some 42, none, .not (.t 41)⟩] none [4, 6, 7, 42]) (.cond (.t 42) (.seq (.reg [⟨some 43, none, .build [(.c (.int .i64 0)), (.c (.int .i64 0)), (.c (.str ⟨#[]⟩)), (.z 1), (.z 5)] []⟩, ⟨none, none, .st (.t 4) (.t 43) (some 5)⟩, ⟨some 5, none, .mv (.k (.c (.int .i64 (-1))))⟩] none [4, 5]) .ret) .skip)) (.seq (.reg [⟨some 44, none, .mv (.t 7)⟩, ⟨some 45, none, .build [(.c (.int .i64 0)), (.c (.int .i64 0)), (.c (.str ⟨#[]⟩)), (.z 1), (.z 5)] [(0, (.k (.c (.int .i64 3))), none), (1, (.t 44), none)]⟩, ⟨some 46, none, .mv (.t 6)⟩, ⟨none, none, .st (.t 4) (.t 45) (some 5)⟩, ⟨some 5, none, .mv (.t 46)⟩] none [4, 5]) .ret)))))))
theorem chk_l1Num : chkX Tryd.prog 47 (Tryd.f75.body.getD .skip) x_l1Num = true := by kernel_rfl
theorem rs_l1Num : okRs Tryd.prog Tryd.f75.results.toList [.cell 4 (some 5), .tmp 5] = true := by kernel_rfl
theorem call_l1Num : okCallee Tryd.prog 75 = true := by kernel_rfl
theorem atB_yes {l : List UInt8} {a : Nat} {c x : UInt8} (h : l[a]? = some x) : atB l a c = decide (x = c) := by
 unfold atB; rw [h]
 by_cases e : x = c
 ·subst e; simp
 ·simp [e]
theorem atB_past {l : List UInt8} {a : Nat} {c : UInt8} (h : l.length <= a) : atB l a c = false := by
 unfold atB; rw [List.getElem?_eq_none h]; rfl
theorem u8_eq (x : UInt8) (c : Int) (h : 0 <= c /\ c <= 255) : ((x.toNat : Int) = c) = (x = c.toNat.toUInt8) := propext (by
 constructor
 ·intro e
  have : c.toNat = x.toNat := by omega
  rw [this]; simp
 ·intro e
  have h2 : (c.toNat.toUInt8).toNat = c.toNat := by
   rw [Nat.toUInt8, UInt8.toNat_ofNat']
   omega
  rw [e, h2]; omega)
noncomputable def spAtB  : Spec := Spec.of (ι := ByteArray × Int × Int) [false, false, false] (fun i => [.d (.one (.str i.1)), .d (.one (.int .i64 i.2.1)), .d (.one (.int .u8 i.2.2))]) (fun i => lenB 1000000 i.1.size /\ 0 <= i.2.1 /\ 0 <= i.2.2 /\ i.2.2 <= 255) (fun i => [.d (.one (.bool (atB (tL i.1) i.2.1.toNat i.2.2.toNat.toUInt8)))]) (fun _ => [.gone, .gone, .gone])
theorem spAtB_inj : ∀ i j : ByteArray × Int × Int, (fun (i : ByteArray × Int × Int) => ([.d (.one (.str i.1)), .d (.one (.int .i64 i.2.1)), .d (.one (.int .u8 i.2.2))] : List AV)) i = (fun (i : ByteArray × Int × Int) => ([.d (.one (.str i.1)), .d (.one (.int .i64 i.2.1)), .d (.one (.int .u8 i.2.2))] : List AV)) j -> i = j := by
 rintro ⟨s, a, c⟩ ⟨s', a', c'⟩ h
 simp only [Prod.mk.injEq]
 simpa [strs_eq, T.enc_eq, encL_eq, F.enc_eq, encF_eq, Tk.enc_eq, encTk_eq, Gn.enc_eq, ints_eq, Int.natCast_inj] using h
theorem spAtB_md  : (spAtB).md = [false, false, false] := rfl
theorem spAtB_pre  (s : ByteArray) (a : Int) (c : Int) : (spAtB).pre [.d (.one (.str s)), .d (.one (.int .i64 a)), .d (.one (.int .u8 c))] = (lenB 1000000 s.size /\ 0 <= a /\ 0 <= c /\ c <= 255) := Spec.of_pre' spAtB_inj (s, a, c)
theorem spAtB_alts  : (spAtB).alts = none := rfl
theorem spAtB_res  (s : ByteArray) (a : Int) (c : Int) : (spAtB).res [.d (.one (.str s)), .d (.one (.int .i64 a)), .d (.one (.int .u8 c))] = [.d (.one (.bool (atB (tL s) a.toNat c.toNat.toUInt8)))] := Spec.of_res spAtB_inj (s, a, c)
theorem spAtB_out  (s : ByteArray) (a : Int) (c : Int) : (spAtB).out [.d (.one (.str s)), .d (.one (.int .i64 a)), .d (.one (.int .u8 c))] = [.gone, .gone, .gone] := Spec.of_out spAtB_inj (s, a, c)
theorem atB_sound : Sound Tryd.prog 61 spAtB := by
 refine sound_fam GOK.nil Tryd.func61 (c := Tryd.f61.body.getD .skip) rfl (n := 22) rfl chk_l1At rs_l1At (fun _ => by simp) ?_ ?_
 ·exact spAtB_inj
 ·rintro ⟨s, a, c⟩ ⟨h1, h2, h3, h4⟩
  simp only [lenB] at h1 h2 h3 h4
  have a0 : (0 <= a) = True := eq_true h2
  rcases Nat.lt_or_ge a.toNat s.size with hlt | hge
  ·obtain ⟨x, b1, b2, _, _⟩ := tL_at hlt
   have a1 : (a < (s.size : Int)) = True := eq_true (by omega)
   have b3 := atB_yes (c := c.toNat.toUInt8) b1
   have b4 := u8_eq x c ⟨h3, h4⟩
   simp only [x_l1At, rg, go_sem, seval, Prod.fst, a0, a1, b2, b3, b4]
   repeat' (first | with_reducible assumption | with_reducible refine And.intro ?_ ?_ | intro _)
   all_goals first | omega | skip
  ·have a1 : (a < (s.size : Int)) = False := eq_false (by omega)
   have b3 := atB_past (l := tL s) (a := a.toNat) (c := c.toNat.toUInt8) (by rw [tL_len]; exact hge)
   simp only [x_l1At, rg, go_sem, seval, Prod.fst, a0, a1, b3]
   repeat' (first | with_reducible assumption | with_reducible refine And.intro ?_ ?_ | intro _)
   all_goals first | omega | skip
theorem spanE_stop {p : UInt8 -> Bool} {l : List UInt8} {a : Nat} (h : l.length <= a \/ ∃ c r, l.drop a = c :: r /\ p c = false) : spanE p l a = a := by
 unfold spanE
 rcases h with h | ⟨c, r, h1, h2⟩
 ·rw [List.drop_eq_nil_of_le h]; rfl
 ·rw [h1, List.takeWhile_cons_of_neg (by rw [h2]; simp)]; rfl
theorem spanE_go {p : UInt8 -> Bool} {l : List UInt8} {a : Nat} {c : UInt8} (h1 : l.drop a = c :: l.drop (a + 1)) (h2 : p c = true) : spanE p l a = spanE p l (a + 1) := by
 unfold spanE
 rw [h1, List.takeWhile_cons_of_pos h2, List.length_cons]; omega
noncomputable def spLetters  : Spec := Spec.of (ι := ByteArray × Nat) [false, false] (fun i => [.d (.one (.str i.1)), .d (.one (.int .i64 (i.2 : Int)))]) (fun i => lenB 1000000 i.1.size /\ i.2 <= i.1.size) (fun i => [.d (.one (.int .i64 (spanE ltrB (tL i.1) i.2 : Int)))]) (fun _ => [.gone, .gone])
theorem spLetters_inj : ∀ i j : ByteArray × Nat, (fun (i : ByteArray × Nat) => ([.d (.one (.str i.1)), .d (.one (.int .i64 (i.2 : Int)))] : List AV)) i = (fun (i : ByteArray × Nat) => ([.d (.one (.str i.1)), .d (.one (.int .i64 (i.2 : Int)))] : List AV)) j -> i = j := by
 rintro ⟨s, a⟩ ⟨s', a'⟩ h
 simp only [Prod.mk.injEq]
 simpa [strs_eq, T.enc_eq, encL_eq, F.enc_eq, encF_eq, Tk.enc_eq, encTk_eq, Gn.enc_eq, ints_eq, Int.natCast_inj] using h
theorem spLetters_md  : (spLetters).md = [false, false] := rfl
theorem spLetters_pre  (s : ByteArray) (a : Nat) : (spLetters).pre [.d (.one (.str s)), .d (.one (.int .i64 (a : Int)))] = (lenB 1000000 s.size /\ a <= s.size) := Spec.of_pre' spLetters_inj (s, a)
theorem spLetters_alts  : (spLetters).alts = none := rfl
theorem spLetters_res  (s : ByteArray) (a : Nat) : (spLetters).res [.d (.one (.str s)), .d (.one (.int .i64 (a : Int)))] = [.d (.one (.int .i64 (spanE ltrB (tL s) a : Int)))] := Spec.of_res spLetters_inj (s, a)
theorem spLetters_out  (s : ByteArray) (a : Nat) : (spLetters).out [.d (.one (.str s)), .d (.one (.int .i64 (a : Int)))] = [.gone, .gone] := Spec.of_out spLetters_inj (s, a)
theorem letters_sound : Sound Tryd.prog 73 spLetters := by
 refine sound_fam GOK.nil Tryd.func73 (c := Tryd.f73.body.getD .skip) rfl (n := 24) rfl chk_l1Letters rs_l1Letters (fun _ => by simp) ?_ ?_
 ·exact spLetters_inj
 ·rintro ⟨s, a⟩ ⟨h1, h2⟩
  simp only [lenB] at h1 h2
  have hl := tL_len s
  simp only [x_l1Letters, rg, go_sem, seval, Prod.fst]
  repeat' (first | with_reducible assumption | with_reducible refine And.intro ?_ ?_ | intro _)
  all_goals first | omega | skip
  refine pw_loop (ι := Nat) (fun i => s.size - i) (fun i => i <= s.size /\ spanE ltrB (tL s) i = spanE ltrB (tL s) a)
   (fun i => ⟨[(0, .q (.c (.str s))), (1, .q (.c (.int .i64 (i : Int))))], [], []⟩) a ⟨h2, rfl⟩ (Le.sub (by simp) (by simp) (by simp)) ?_
  rintro i ⟨g1, g2⟩
  rcases Nat.lt_or_ge i s.size with hlt | hge
  ·obtain ⟨x, b1, b2, _, b4⟩ := tL_at hlt
   have a1 : ((i : Int) < (s.size : Int)) = True := eq_true (by omega)
   by_cases hx : ltrB x = true
   ·have hx' := hx
    unfold ltrB at hx'
    simp only [decide_eq_true_eq] at hx'
    have a2 : ((97 : Int) <= x.toNat) = True := eq_true (by omega)
    have a3 : ((x.toNat : Int) <= 122) = True := eq_true (by omega)
    simp only [rg, go_sem, seval, Prod.fst, a1, b2, a2, a3, Int.toNat_natCast]
    repeat' (first | with_reducible assumption | with_reducible refine And.intro ?_ ?_ | intro _)
    all_goals first | omega | skip
    exact ⟨i + 1, ⟨by omega, by rw [<- spanE_go b4 hx]; exact g2⟩, by omega, Le.sub (by simp) (by simp) (by simp)⟩
   ·have hx' : ltrB x = false := by simpa using hx
    have a5 := spanE_stop (p := ltrB) (l := tL s) (a := i) (.inr ⟨x, _, b4, hx'⟩)
    rw [g2] at a5
    unfold ltrB at hx'
    simp only [decide_eq_false_iff_not] at hx'
    by_cases hx2 : 97 <= x.toNat
    ·have a2 : ((97 : Int) <= x.toNat) = True := eq_true (by omega)
     have a3 : ((x.toNat : Int) <= 122) = False := eq_false (by omega)
     simp only [rg, go_sem, seval, Prod.fst, a1, b2, a2, a3, a5, Int.toNat_natCast]
     repeat' (first | with_reducible assumption | with_reducible refine And.intro ?_ ?_ | intro _)
     all_goals first | omega | skip
    ·have a2 : ((97 : Int) <= x.toNat) = False := eq_false (by omega)
     simp only [rg, go_sem, seval, Prod.fst, a1, b2, a2, a5, Int.toNat_natCast]
     repeat' (first | with_reducible assumption | with_reducible refine And.intro ?_ ?_ | intro _)
     all_goals first | omega | skip
  ·have a1 : ((i : Int) < (s.size : Int)) = False := eq_false (by omega)
   have a5 := spanE_stop (p := ltrB) (l := tL s) (a := i) (.inl (by omega))
   rw [g2] at a5
   simp only [rg, go_sem, seval, Prod.fst, a1, a5, Int.toNat_natCast]
   repeat' (first | with_reducible assumption | with_reducible refine And.intro ?_ ?_ | intro _)
   all_goals first | omega | skip
theorem dv_take {m : List UInt8} {i : Nat} {x : UInt8} (h : m[i]? = some x) : dv (m.take (i + 1)) = dv (m.take i) * 10 + (x.toNat - 48) := by
 rw [List.take_add_one, h]
 exact dv_snoc _ _
theorem dig_mem {m : List UInt8} {i : Nat} {x : UInt8} (h : m[i]? = some x) : x ∈ m := List.mem_of_getElem? h
theorem numR_neg {s : List UInt8} (h : s.head? = some 45) : numR s = if numOk true s.tail then some (-(dv s.tail : Int)) else none := by
 unfold numR; rw [if_pos h]
theorem numR_pos {s : List UInt8} (h : s.head? ≠ some 45) : numR s = if numOk false s then some (dv s : Int) else none := by
 unfold numR; rw [if_neg h]
theorem head_at {l : List UInt8} {x : UInt8} (h : l[0]? = some x) : l.head? = some x := by rw [List.head?_eq_getElem?]; exact h
noncomputable def spNum11  : Spec := Spec.of (ι := ByteArray) [false] (fun i => [.d (.one (.str i))]) (fun i => lenB 1000000 i.size) (fun i => [.d (.one (.int .i64 ((numR (tL i)).getD 0))), .d (.one (.bool (numR (tL i)).isSome))]) (fun _ => [.gone])
theorem spNum11_inj : ∀ i j : ByteArray, (fun (i : ByteArray) => ([.d (.one (.str i))] : List AV)) i = (fun (i : ByteArray) => ([.d (.one (.str i))] : List AV)) j -> i = j := by
 intro s s' h
 simpa [strs_eq, T.enc_eq, encL_eq, F.enc_eq, encF_eq, Tk.enc_eq, encTk_eq, Gn.enc_eq, ints_eq, Int.natCast_inj] using h
theorem spNum11_md  : (spNum11).md = [false] := rfl
theorem spNum11_pre  (s : ByteArray) : (spNum11).pre [.d (.one (.str s))] = (lenB 1000000 s.size) := Spec.of_pre' spNum11_inj s
theorem spNum11_alts  : (spNum11).alts = none := rfl
theorem spNum11_res  (s : ByteArray) : (spNum11).res [.d (.one (.str s))] = [.d (.one (.int .i64 ((numR (tL s)).getD 0))), .d (.one (.bool (numR (tL s)).isSome))] := Spec.of_res spNum11_inj s
theorem spNum11_out  (s : ByteArray) : (spNum11).out [.d (.one (.str s))] = [.gone] := Spec.of_out spNum11_inj s
set_option maxHeartbeats 2000000 in
theorem num11_sound : Sound Tryd.prog 91 spNum11 := by
 refine sound_fam GOK.nil Tryd.func91 (c := Tryd.f91.body.getD .skip) rfl (n := 67) rfl chk_l11Num rs_l11Num (fun _ => by simp) ?_ ?_
 ·exact spNum11_inj
 ·intro s h1
  simp only [lenB] at h1
  have hl := tL_len s
  rcases Nat.eq_zero_or_pos s.size with h0 | hpos
  ·have a0 : ((0 : Int) < (s.size : Int)) = False := eq_false (by omega)
   have a1 : ((s.size : Int) = 0) = True := eq_true (by omega)
   have hs : tL s = [] := List.eq_nil_of_length_eq_zero (by omega)
   have e : numR (tL s) = none := by
    rw [hs, numR_pos (by simp), if_neg (fun k => k.1 rfl)]
   simp only [x_l11Num, rg, go_sem, seval, Prod.fst, a0, a1, e, Option.getD_none, Option.isSome_none]
   repeat' (first | with_reducible assumption | with_reducible refine And.intro ?_ ?_ | intro _)
   all_goals first | omega | skip
  have a0 : ((0 : Int) < (s.size : Int)) = True := eq_true (by omega)
  obtain ⟨x, b1, b2, _, b4⟩ := tL_at hpos
  have hh := head_at b1
  by_cases c0 : x = 45
  ·subst c0
   have d1 : ((45 : UInt8).toNat : Int) = 45 := rfl
   have hR := numR_neg hh
   have hm : tL (s.extract 1 s.size) = (tL s).tail := by rw [ext_tl]; simp
   have hz : (s.extract 1 s.size).size = s.size - 1 := by rw [<- tL_len, hm, List.length_tail, hl]
   have hmin : Min.min s.size s.size - 1 = s.size - 1 := by omega
   generalize hg : s.extract 1 s.size = m at *
   rw [<- hm] at hR
   have hlm := tL_len m
   rw [hz] at hlm
   by_cases c1 : s.size - 1 = 0
   ·have a1 : ((m.size : Int) = 0) = True := eq_true (by omega)
    have hn : tL m = [] := List.eq_nil_of_length_eq_zero (by omega)
    rw [if_neg (fun k => k.1 hn)] at hR
    simp only [x_l11Num, rg, go_sem, seval, Prod.fst, a0, b2, d1, hg, a1, hR, Option.getD_none, Option.isSome_none]
    repeat' (first | with_reducible assumption | with_reducible refine And.intro ?_ ?_ | intro _)
    all_goals first | omega | skip
   have a1 : ((m.size : Int) = 0) = False := eq_false (by omega)
   by_cases c2 : 17 < s.size - 1
   ·have a2 : ((17 : Int) < (m.size : Int)) = True := eq_true (by omega)
    rw [if_neg (fun k => by have := k.2.1; omega)] at hR
    simp only [x_l11Num, rg, go_sem, seval, Prod.fst, a0, b2, d1, hg, a1, a2, hR, Option.getD_none, Option.isSome_none]
    repeat' (first | with_reducible assumption | with_reducible refine And.intro ?_ ?_ | intro _)
    all_goals first | omega | skip
   have a2 : ((17 : Int) < (m.size : Int)) = False := eq_false (by omega)
   obtain ⟨y, e1, e2, _, e4⟩ := tL_at (s := m) (i := 0) (by omega)
   by_cases c3 : y = 48
   ·subst c3
    have d2 : ((48 : UInt8).toNat : Int) = 48 := rfl
    rw [if_neg (fun k => k.2.2.1 ⟨head_at e1, .inr rfl⟩)] at hR
    by_cases c4 : 1 < s.size - 1
    ·have a3 : ((1 : Int) < (m.size : Int)) = True := eq_true (by omega)
     simp only [x_l11Num, rg, go_sem, seval, Prod.fst, a0, b2, d1, hg, a1, a2, e2, d2, a3, hR, Option.getD_none, Option.isSome_none]
     repeat' (first | with_reducible assumption | with_reducible refine And.intro ?_ ?_ | intro _)
     all_goals first | omega | skip
    ·have a3 : ((1 : Int) < (m.size : Int)) = False := eq_false (by omega)
     simp only [x_l11Num, rg, go_sem, seval, Prod.fst, a0, b2, d1, hg, a1, a2, e2, d2, a3, hR, Option.getD_none, Option.isSome_none]
     repeat' (first | with_reducible assumption | with_reducible refine And.intro ?_ ?_ | intro _)
     all_goals first | omega | skip
   have a4 : ((y.toNat : Int) = 48) = False := eq_false (fun e => c3 (UInt8.toNat_inj.1 (by have : (48 : UInt8).toNat = 48 := rfl; omega)))
   have hN : (∀ b ∈ tL m, dgtB b = true) -> numOk true (tL m) := fun k => ⟨fun e => by rw [e] at hlm; simp at hlm; omega, by omega, fun k => by rw [head_at e1] at k; exact c3 (Option.some.inj k.1), k⟩
   simp only [x_l11Num, rg, go_sem, seval, Prod.fst, a0, b2, d1, hg, a1, a2, e2, a4]
   repeat' (first | with_reducible assumption | with_reducible refine And.intro ?_ ?_ | intro _)
   all_goals first | omega | skip
   refine pw_loop (ι := Nat) (fun i => m.size - i) (fun i => i <= m.size /\ ∀ b ∈ (tL m).take i, dgtB b = true)
    (fun i => ⟨[(0, .q (.c (.str m))), (4, .q (.c (.bool true))), (5, .q (.c (.int .i64 (dv ((tL m).take i) : Int)))), (6, .q (.c (.int .i64 (i : Int))))], [], []⟩) 0 ⟨Nat.zero_le _, by simp⟩ (Le.sub (by simp [dv]) (by simp) (by simp)) ?_
   rintro i ⟨g1, g2⟩
   have hd := dv_lt ((tL m).take i) g2
   have hp : 10 ^ ((tL m).take i).length <= 10 ^ 17 := Nat.pow_le_pow_right (by omega) (by rw [List.length_take]; omega)
   rcases Nat.lt_or_ge i m.size with hlt | hge
   ·obtain ⟨z, k1, k2, _, k4⟩ := tL_at hlt
    have a5 : ((i : Int) < (m.size : Int)) = True := eq_true (by omega)
    have hz2 : z.toNat < 256 := UInt8.toNat_lt z
    have k5 := dv_take k1
    have hp2 : i < 17 -> 10 ^ ((tL m).take i).length <= 10 ^ 16 := fun hi => Nat.pow_le_pow_right (by omega) (by rw [List.length_take]; omega)
    have hp3 := hp2 (by omega)
    by_cases c5 : z.toNat < 48
    ·have a6 : ((z.toNat : Int) < 48) = True := eq_true (by omega)
     rw [if_neg (fun k => by have := k.2.2.2 z (dig_mem k1); unfold dgtB at this; simp at this; omega)] at hR
     simp only [rg, go_sem, seval, Prod.fst, a5, k2, a6, hR, Int.toNat_natCast, Option.getD_none, Option.isSome_none]
     repeat' (first | with_reducible assumption | with_reducible refine And.intro ?_ ?_ | intro _)
     all_goals first | omega | skip
    have a6 : ((z.toNat : Int) < 48) = False := eq_false (by omega)
    by_cases c6 : 57 < z.toNat
    ·have a7 : ((57 : Int) < (z.toNat : Int)) = True := eq_true (by omega)
     rw [if_neg (fun k => by have := k.2.2.2 z (dig_mem k1); unfold dgtB at this; simp at this; omega)] at hR
     simp only [rg, go_sem, seval, Prod.fst, a5, k2, a6, a7, hR, Int.toNat_natCast, Option.getD_none, Option.isSome_none]
     repeat' (first | with_reducible assumption | with_reducible refine And.intro ?_ ?_ | intro _)
     all_goals first | omega | skip
    have a7 : ((57 : Int) < (z.toNat : Int)) = False := eq_false (by omega)
    simp only [rg, go_sem, seval, Prod.fst, a5, k2, a6, a7, Int.toNat_natCast]
    repeat' (first | with_reducible assumption | with_reducible refine And.intro ?_ ?_ | intro _)
    all_goals first | omega | skip
    refine ⟨i + 1, ⟨by omega, fun b hb => ?_⟩, by omega, Le.sub (by
     have k6 : ((dv ((tL m).take (i + 1)) : Nat) : Int) = (dv ((tL m).take i) : Int) * 10 + ((z.toNat : Int) - 48) := by rw [k5]; omega
     simp [k6]) (by simp) (by simp)⟩
    rw [List.take_add_one, k1] at hb
    rcases List.mem_append.1 hb with hb | hb
    ·exact g2 b hb
    ·simp only [Option.toList_some, List.mem_singleton] at hb
     subst hb; unfold dgtB; simp; omega
   ·have a5 : ((i : Int) < (m.size : Int)) = False := eq_false (by omega)
    have k0 : (tL m).take i = tL m := List.take_of_length_le (by omega)
    rw [k0] at g2 hd hp
    rw [if_pos (hN g2)] at hR
    simp only [rg, go_sem, seval, Prod.fst, a5, k0, hR, Option.getD_some, Option.isSome_some]
    repeat' (first | with_reducible assumption | with_reducible refine And.intro ?_ ?_ | intro _)
    all_goals first | omega | skip
  ·have d1 : ((x.toNat : Int) = 45) = False := eq_false (fun e => c0 (UInt8.toNat_inj.1 (by have : (45 : UInt8).toNat = 45 := rfl; omega)))
   have hR := numR_pos (s := tL s) (by rw [hh]; intro e; exact c0 (Option.some.inj e))
   have a1 : ((s.size : Int) = 0) = False := eq_false (by omega)
   by_cases c2 : 17 < s.size
   ·have a2 : ((17 : Int) < (s.size : Int)) = True := eq_true (by omega)
    rw [if_neg (fun k => by have := k.2.1; omega)] at hR
    simp only [x_l11Num, rg, go_sem, seval, Prod.fst, a0, b2, d1, a1, a2, hR, Option.getD_none, Option.isSome_none]
    repeat' (first | with_reducible assumption | with_reducible refine And.intro ?_ ?_ | intro _)
    all_goals first | omega | skip
   have a2 : ((17 : Int) < (s.size : Int)) = False := eq_false (by omega)
   by_cases c3 : x = 48 /\ 1 < s.size
   ·obtain ⟨rfl, c4⟩ := c3
    have d2 : ((48 : UInt8).toNat : Int) = 48 := rfl
    have d3 : ((48 : Int) = 45) = False := eq_false (by omega)
    rw [if_neg (fun k => k.2.2.1 ⟨hh, .inl (by omega)⟩)] at hR
    have a3 : ((1 : Int) < (s.size : Int)) = True := eq_true (by omega)
    simp only [x_l11Num, rg, go_sem, seval, Prod.fst, a0, b2, d2, d3, a1, a2, a3, hR, Option.getD_none, Option.isSome_none]
    repeat' (first | with_reducible assumption | with_reducible refine And.intro ?_ ?_ | intro _)
    all_goals first | omega | skip
   have hN0 : ¬ ((tL s).head? = some 48 /\ (1 < (tL s).length \/ false = true)) := fun k => by
    rw [hh] at k
    rcases k.2 with k2 | k2
    ·exact c3 ⟨Option.some.inj k.1, by omega⟩
    ·cases k2
   have hN : (∀ b ∈ tL s, dgtB b = true) -> numOk false (tL s) := fun k => ⟨fun e => by rw [e] at hl; simp at hl; omega, by omega, hN0, k⟩
   have key : ∀ i, i <= s.size -> (∀ b ∈ (tL s).take i, dgtB b = true) -> dv ((tL s).take i) < 100000000000000000 /\ (i < s.size -> dv ((tL s).take i) < 10000000000000000) := fun i hi k => by
    have hd := dv_lt ((tL s).take i) k
    have hp : 10 ^ ((tL s).take i).length <= 10 ^ 17 := Nat.pow_le_pow_right (by omega) (by rw [List.length_take]; omega)
    refine ⟨by omega, fun hlt => ?_⟩
    have hp : 10 ^ ((tL s).take i).length <= 10 ^ 16 := Nat.pow_le_pow_right (by omega) (by rw [List.length_take]; omega)
    omega
   by_cases c4 : x = 48
   ·have c5 : ¬ 1 < s.size := fun k => c3 ⟨c4, k⟩
    subst c4
    have d2 : ((48 : UInt8).toNat : Int) = 48 := rfl
    have d3 : ((48 : Int) = 45) = False := eq_false (by omega)
    have a3 : ((1 : Int) < (s.size : Int)) = False := eq_false (by omega)
    have hs : tL s = [48] := by
     have e5 : (tL s).length = 1 := by omega
     match ht : tL s, e5 with
     | [w], _ => rw [ht] at b1; simp at b1; rw [b1]
    have hR2 : numR (tL s) = some 0 := by
     rw [hR, if_pos (hN (by rw [hs]; intro b hb; simp at hb; subst hb; rfl)), hs]; rfl
    simp only [x_l11Num, rg, go_sem, seval, Prod.fst, a0, b2, d2, d3, a1, a2, a3, hR2]
    repeat' (first | with_reducible assumption | with_reducible refine And.intro ?_ ?_ | intro _)
    all_goals first | omega | skip
    refine pw_loop (ι := Nat) (fun i => 1 - i) (fun i => i <= 1)
     (fun i => ⟨[(0, .q (.c (.str s))), (4, .q (.c (.bool false))), (5, .q (.c (.int .i64 0))), (6, .q (.c (.int .i64 (i : Int))))], [], []⟩) 0 (by omega) (Le.sub (by simp) (by simp) (by simp)) ?_
    intro i hi
    rcases Nat.lt_or_ge i 1 with hlt | hge
    ·have : i = 0 := by omega
     subst this
     have a5 : ((0 : Int) < (s.size : Int)) = True := eq_true (by omega)
     simp only [rg, go_sem, seval, Prod.fst, a5, b2, d2, Int.toNat_natCast]
     repeat' (first | with_reducible assumption | with_reducible refine And.intro ?_ ?_ | intro _)
     all_goals first | omega | skip
     exact ⟨1, by omega, by omega, Le.sub (by simp) (by simp) (by simp)⟩
    ·have a5 : ((i : Int) < (s.size : Int)) = False := eq_false (by omega)
     simp only [rg, go_sem, seval, Prod.fst, a5, Option.getD_some, Option.isSome_some]
     repeat' (first | with_reducible assumption | with_reducible refine And.intro ?_ ?_ | intro _)
     all_goals first | omega | skip
   have a4 : ((x.toNat : Int) = 48) = False := eq_false (fun e => c4 (UInt8.toNat_inj.1 (by have : (48 : UInt8).toNat = 48 := rfl; omega)))
   simp only [x_l11Num, rg, go_sem, seval, Prod.fst, a0, b2, d1, a1, a2, a4]
   repeat' (first | with_reducible assumption | with_reducible refine And.intro ?_ ?_ | intro _)
   all_goals first | omega | skip
   refine pw_loop (ι := Nat) (fun i => s.size - i) (fun i => i <= s.size /\ ∀ b ∈ (tL s).take i, dgtB b = true)
    (fun i => ⟨[(0, .q (.c (.str s))), (4, .q (.c (.bool false))), (5, .q (.c (.int .i64 (dv ((tL s).take i) : Int)))), (6, .q (.c (.int .i64 (i : Int))))], [], []⟩) 0 ⟨Nat.zero_le _, by simp⟩ (Le.sub (by simp [dv]) (by simp) (by simp)) ?_
   rintro i ⟨g1, g2⟩
   obtain ⟨hd, hd2⟩ := key i g1 g2
   rcases Nat.lt_or_ge i s.size with hlt | hge
   ·obtain ⟨z, k1, k2, _, k4⟩ := tL_at hlt
    have a5 : ((i : Int) < (s.size : Int)) = True := eq_true (by omega)
    have hz2 : z.toNat < 256 := UInt8.toNat_lt z
    have k5 := dv_take k1
    have hd3 := hd2 hlt
    by_cases c5 : z.toNat < 48
    ·have a6 : ((z.toNat : Int) < 48) = True := eq_true (by omega)
     rw [if_neg (fun k => by have := k.2.2.2 z (dig_mem k1); unfold dgtB at this; simp at this; omega)] at hR
     simp only [rg, go_sem, seval, Prod.fst, a5, k2, a6, hR, Int.toNat_natCast, Option.getD_none, Option.isSome_none]
     repeat' (first | with_reducible assumption | with_reducible refine And.intro ?_ ?_ | intro _)
     all_goals first | omega | skip
    have a6 : ((z.toNat : Int) < 48) = False := eq_false (by omega)
    by_cases c6 : 57 < z.toNat
    ·have a7 : ((57 : Int) < (z.toNat : Int)) = True := eq_true (by omega)
     rw [if_neg (fun k => by have := k.2.2.2 z (dig_mem k1); unfold dgtB at this; simp at this; omega)] at hR
     simp only [rg, go_sem, seval, Prod.fst, a5, k2, a6, a7, hR, Int.toNat_natCast, Option.getD_none, Option.isSome_none]
     repeat' (first | with_reducible assumption | with_reducible refine And.intro ?_ ?_ | intro _)
     all_goals first | omega | skip
    have a7 : ((57 : Int) < (z.toNat : Int)) = False := eq_false (by omega)
    simp only [rg, go_sem, seval, Prod.fst, a5, k2, a6, a7, Int.toNat_natCast]
    repeat' (first | with_reducible assumption | with_reducible refine And.intro ?_ ?_ | intro _)
    all_goals first | omega | skip
    refine ⟨i + 1, ⟨by omega, fun b hb => ?_⟩, by omega, Le.sub (by
     have k6 : ((dv ((tL s).take (i + 1)) : Nat) : Int) = (dv ((tL s).take i) : Int) * 10 + ((z.toNat : Int) - 48) := by rw [k5]; omega
     simp [k6]) (by simp) (by simp)⟩
    rw [List.take_add_one, k1] at hb
    rcases List.mem_append.1 hb with hb | hb
    ·exact g2 b hb
    ·simp only [Option.toList_some, List.mem_singleton] at hb
     subst hb; unfold dgtB; simp; omega
   ·have a5 : ((i : Int) < (s.size : Int)) = False := eq_false (by omega)
    have k0 : (tL s).take i = tL s := List.take_of_length_le (by omega)
    rw [k0] at g2 hd
    rw [if_pos (hN g2)] at hR
    simp only [rg, go_sem, seval, Prod.fst, a5, k0, hR, Option.getD_some, Option.isSome_some]
    repeat' (first | with_reducible assumption | with_reducible refine And.intro ?_ ?_ | intro _)
    all_goals first | omega | skip
end Go.Proofs.Pw
