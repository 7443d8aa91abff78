/- Contracts of the library at this dump. -/
import Derived.Shelf.Strings.Builder1
import Derived.Shelf.Strings.Builder2
import Derived.Shelf.Strings.OnBuilder
import Derived.Shelf.Strings.BuilderF
import Derived.Shelf.Strings.BuilderK
import Derived.Shelf.Strings.Builder2Cap
import Derived.Shelf.Strconv.Itoa0
import Derived.Shelf.Strconv.Itoa1
import Derived.Shelf.LaysM
import Derived.Shelf.Strconv.Itoa2
import Derived.Shelf.Strconv.Itoa3
import Derived.Shelf.Strings.BuilderCap
import Derived.Shelf.Slices.Equal
import Derived.Shelf.Slices.Empties2
import Derived.Test.YtaiacpgnnfinlaaDoorProg
import Derived.Test.YtaiacpgnnfinlaaDoorPwT15
import Derived.Test.YtaiacpgnnfinlaaDoorPwT10
import Derived.KernelRfl
import Derived.Test.YtaiacpgnnfinlaaDoorPwT13
import Derived.Test.YtaiacpgnnfinlaaDoorPwT12
set_option linter.unusedSimpArgs false
set_option linter.unusedVariables false
namespace Go.Proofs
open Go.Shelf
open Go.RowKit
def Tryd.lays156_ren : Go.Shelf.Ren := ⟨fun | 156 => 48 | 165 => 54 | 166 => 55 | 169 => 56 | 240 => 58 | 241 => 59 | 276 => 64 | 277 => 65 | n => n, fun | 31 => 23 | 9 => 9 | 3 => 3 | 4 => 4 | 0 => 0 | 20 => 20 | 72 => 71 | 76 => 75 | 70 => 69 | 37 => 22 | 75 => 74 | 127 => 78 | 164 => 85 | 5 => 5 | 80 => 48 | n => n, fun | n => n⟩
theorem Tryd.lays156 : Go.Proofs.Lays.n156 Tryd.prog Tryd.lays156_ren := {
  mixed := by kernel_rfl
  f156 := Tryd.func48.trans (congrArg some (by kernel_rfl))
  f165 := Tryd.func54.trans (congrArg some (by kernel_rfl))
  f166 := Tryd.func55.trans (congrArg some (by kernel_rfl))
  f169 := Tryd.func56.trans (congrArg some (by kernel_rfl))
  f240 := Tryd.func58.trans (congrArg some (by kernel_rfl))
  f241 := Tryd.func59.trans (congrArg some (by kernel_rfl))
  f276 := Tryd.func64.trans (congrArg some (by kernel_rfl))
  f277 := Tryd.func65.trans (congrArg some (by kernel_rfl))
  t0 := Tryd.underlying0
  a0 := Tryd.isAgg0
  z0 := Tryd.sizeOf0
  v0 := Tryd.zeroValue0
  t3 := Tryd.underlying3
  a3 := Tryd.isAgg3
  z3 := Tryd.sizeOf3
  v3 := Tryd.zeroValue3
  t4 := Tryd.underlying4
  a4 := Tryd.isAgg4
  z4 := Tryd.sizeOf4
  v4 := Tryd.zeroValue4
  t9 := Tryd.underlying9
  a9 := Tryd.isAgg9
  z9 := Tryd.sizeOf9
  v9 := Tryd.zeroValue9
  t20 := Tryd.underlying20
  a20 := Tryd.isAgg20
  z20 := Tryd.sizeOf20
  v20 := Tryd.zeroValue20
  t31 := Tryd.underlying23
  a31 := Tryd.isAgg23
  z31 := Tryd.sizeOf23
  v31 := Tryd.zeroValue23
  t37 := Tryd.underlying22
  a37 := Tryd.isAgg22
  z37 := Tryd.sizeOf22
  v37 := Tryd.zeroValue22
  t70 := Tryd.underlying69
  a70 := Tryd.isAgg69
  z70 := Tryd.sizeOf69
  v70 := Tryd.zeroValue69
  t72 := Tryd.underlying71
  a72 := Tryd.isAgg71
  z72 := Tryd.sizeOf71
  v72 := Tryd.zeroValue71
  t75 := Tryd.underlying74
  a75 := Tryd.isAgg74
  z75 := Tryd.sizeOf74
  v75 := Tryd.zeroValue74
  t76 := Tryd.underlying75
  a76 := Tryd.isAgg75
  z76 := Tryd.sizeOf75
  v76 := Tryd.zeroValue75
  t127 := Tryd.underlying78
  a127 := Tryd.isAgg78
  z127 := Tryd.sizeOf78
  v127 := Tryd.zeroValue78
  t164 := Tryd.underlying85
  a164 := Tryd.isAgg85
  z164 := Tryd.sizeOf85
  v164 := Tryd.zeroValue85 }
theorem Tryd.Builder_Extra_156 : Builder.Extra Tryd.prog Tryd.lays156_ren := {
  sizeBuilder := by kernel_rfl
  liesBuilder := by kernel_rfl
  t5 := Tryd.underlying5
  a5 := Tryd.isAgg5
  z5 := Tryd.sizeOf5
  v5 := Tryd.zeroValue5
  infoByte := by kernel_rfl
  cellsByte := by kernel_rfl
  sizeByte := by kernel_rfl
  neB5 := by decide }
theorem Tryd.strings_Join_none (a : Option Addr) (c : Nat) (sep : ByteArray) (w : World) :
    Calls Tryd.prog 48 #[.slice a 0 c, .string sep] w fun e w' => e = .returned (.string ⟨#[]⟩) ∧ w' = w := Any.strings_Join_none Tryd.lays156 Tryd.Builder_Extra_156 a c sep w
theorem Tryd.strings_Join (bk o c : Nat) (xs : List ByteArray) (sep : ByteArray) (w : World) (hcells : ∀ (j : Nat) x, xs[j]? = some x → w.cell? ⟨bk, o + j, none⟩ = some (.string x)) (hbk : bk < w.heap.size) (hN : xs.length ≤ 140737488355328) (hcap : xs.length ≤ c) (hlen : (Lib.join (xs.map (·.data.toList)) sep.data.toList).length ≤ 140737488355328) :
    Calls Tryd.prog 48 #[.slice (some ⟨bk, o, none⟩) xs.length c, .string sep] w fun e w' => e = .returned (.string ⟨(Lib.join (xs.map (·.data.toList)) sep.data.toList).toArray⟩) ∧ Below w.heap.size w w' := Any.strings_Join Tryd.lays156 Tryd.Builder_Extra_156 bk o c xs sep w hcells hbk hN hcap hlen
def Tryd.laysM171_ren : Go.Shelf.Ren := ⟨fun | 171 => 41 | 243 => 49 | 246 => 57 | 283 => 60 | 284 => 61 | 285 => 62 | 286 => 63 | 129 => 67 | 317 => 66 | 318 => 68 | 319 => 69 | 320 => 70 | 337 => 71 | 338 => 72 | n => n, fun | 3 => 3 | 9 => 9 | 2 => 2 | 4 => 4 | 171 => 79 | 0 => 0 | 53 => 80 | 37 => 22 | 5 => 5 | 173 => 83 | 212 => 89 | 51 => 90 | 20 => 20 | 213 => 91 | 46 => 93 | 232 => 96 | 233 => 97 | n => n, fun | 17 => 2 | 18 => 4 | 19 => 5 | n => n⟩
theorem Tryd.laysM171 : Go.Proofs.LaysM.n171 Tryd.prog Tryd.laysM171_ren := {
  mixed := by kernel_rfl
  f129 := Tryd.func67.trans (congrArg some (by kernel_rfl))
  f171 := Tryd.func41.trans (congrArg some (by kernel_rfl))
  f243 := Tryd.func49.trans (congrArg some (by kernel_rfl))
  f246 := Tryd.func57.trans (congrArg some (by kernel_rfl))
  f283 := Tryd.func60.trans (congrArg some (by kernel_rfl))
  f284 := Tryd.func61.trans (congrArg some (by kernel_rfl))
  f285 := Tryd.func62.trans (congrArg some (by kernel_rfl))
  f286 := Tryd.func63.trans (congrArg some (by kernel_rfl))
  f317 := Tryd.func66.trans (congrArg some (by kernel_rfl))
  f318 := Tryd.func68.trans (congrArg some (by kernel_rfl))
  f319 := Tryd.func69.trans (congrArg some (by kernel_rfl))
  f320 := Tryd.func70.trans (congrArg some (by kernel_rfl))
  f337 := Tryd.func71.trans (congrArg some (by kernel_rfl))
  f338 := Tryd.func72.trans (congrArg some (by kernel_rfl))
  t0 := Tryd.underlying0
  a0 := Tryd.isAgg0
  z0 := Tryd.sizeOf0
  v0 := Tryd.zeroValue0
  t2 := Tryd.underlying2
  a2 := Tryd.isAgg2
  z2 := Tryd.sizeOf2
  v2 := Tryd.zeroValue2
  t3 := Tryd.underlying3
  a3 := Tryd.isAgg3
  z3 := Tryd.sizeOf3
  v3 := Tryd.zeroValue3
  t4 := Tryd.underlying4
  a4 := Tryd.isAgg4
  z4 := Tryd.sizeOf4
  v4 := Tryd.zeroValue4
  t5 := Tryd.underlying5
  a5 := Tryd.isAgg5
  z5 := Tryd.sizeOf5
  v5 := Tryd.zeroValue5
  t9 := Tryd.underlying9
  a9 := Tryd.isAgg9
  z9 := Tryd.sizeOf9
  v9 := Tryd.zeroValue9
  t20 := Tryd.underlying20
  a20 := Tryd.isAgg20
  z20 := Tryd.sizeOf20
  v20 := Tryd.zeroValue20
  t37 := Tryd.underlying22
  a37 := Tryd.isAgg22
  z37 := Tryd.sizeOf22
  v37 := Tryd.zeroValue22
  t46 := Tryd.underlying93
  a46 := Tryd.isAgg93
  z46 := Tryd.sizeOf93
  v46 := Tryd.zeroValue93
  t51 := Tryd.underlying90
  a51 := Tryd.isAgg90
  z51 := Tryd.sizeOf90
  v51 := Tryd.zeroValue90
  t53 := Tryd.underlying80
  a53 := Tryd.isAgg80
  z53 := Tryd.sizeOf80
  v53 := Tryd.zeroValue80
  t171 := Tryd.underlying79
  a171 := Tryd.isAgg79
  z171 := Tryd.sizeOf79
  v171 := Tryd.zeroValue79
  t173 := Tryd.underlying83
  a173 := Tryd.isAgg83
  z173 := Tryd.sizeOf83
  v173 := Tryd.zeroValue83
  t212 := Tryd.underlying89
  a212 := Tryd.isAgg89
  z212 := Tryd.sizeOf89
  v212 := Tryd.zeroValue89
  t213 := Tryd.underlying91
  a213 := Tryd.isAgg91
  z213 := Tryd.sizeOf91
  t232 := Tryd.underlying96
  a232 := Tryd.isAgg96
  z232 := Tryd.sizeOf96
  v232 := Tryd.zeroValue96
  t233 := Tryd.underlying97
  a233 := Tryd.isAgg97
  z233 := Tryd.sizeOf97
  v233 := Tryd.zeroValue97
  g17 := by kernel_rfl
  g18 := by kernel_rfl
  g19 := by kernel_rfl
  i0 := by kernel_rfl
  i2 := by kernel_rfl
  i3 := by kernel_rfl
  i4 := by kernel_rfl
  i5 := by kernel_rfl
  i9 := by kernel_rfl
  i20 := by kernel_rfl
  i37 := by kernel_rfl
  i46 := by kernel_rfl
  i51 := by kernel_rfl
  i53 := by kernel_rfl
  i171 := by kernel_rfl
  i173 := by kernel_rfl
  i212 := by kernel_rfl
  i232 := by kernel_rfl
  i233 := by kernel_rfl
  m17 := by kernel_rfl
  m18 := by kernel_rfl
  m19 := by kernel_rfl }
open Go.RowKit Go.Sort Go.Lib in
theorem Tryd.strconv_Itoa (n : Int) (h0 : -9223372036854775808 ≤ n) (h1 : n ≤ 9223372036854775807) (w : World) (htab : Lib.TabIs Tryd.prog w "internal/strconv.uint64pow10" .u64 Lib.pow10Tab) :
    Calls Tryd.prog 41 #[.int .i64 n] w fun e w' => e = .returned (.string ⟨(Lib.itoa n).toArray⟩) ∧ ∃ k os, w' = grow (w.drewN k) os := Any.strconv_Itoa Tryd.laysM171 n h0 h1 w htab
end Go.Proofs
/- Numbers as texts, texts joined: the library's functions, by what is proved of them. -/
set_option linter.unusedSimpArgs false
set_option maxRecDepth 20000
namespace Go.Proofs.Pw
open Go.RowKit Go.Sort
set_option linter.unusedSectionVars false
variable [Globs]
theorem call_Itoa : okCallee Go.Proofs.Tryd.prog 41 = true := by kernel_rfl
theorem call_Join : okCallee Go.Proofs.Tryd.prog 48 = true := by kernel_rfl
/-- The library's table is told. -/
def tabK [Globs] : Prop := ∃ g, Go.Proofs.Tryd.prog.globalNamed "internal/strconv.uint64pow10" = some g ∧ (g, Lib.pow10Tab.map (fun z => Value.int .u64 z)) ∈ Globs.K
theorem Fr.grown (X : Nat → Prop) (w : World) (k : Nat) (os : Array Obj) : Fr X w.heap.size w (grow (w.drewN k) os) :=
  ⟨rfl, rfl, rfl, by simp [grow, World.drewN], fun i hi _ => by
    show (w.heap ++ os)[i]? = w.heap[i]?
    rw [Array.getElem?_append_left hi]⟩
noncomputable def spItoa  : Spec := Spec.of (ι := Int) [false] (fun i => [.d (.one (.int .i64 i))]) (fun i => i64 i) (fun i => [.d (.one (.str (itoaB i)))]) (fun _ => [.gone])
theorem spItoa_inj : ∀ i j : Int, (fun (i : Int) => ([.d (.one (.int .i64 i))] : List AV)) i = (fun (i : Int) => ([.d (.one (.int .i64 i))] : List AV)) j → i = j := by
  intro n n' h
  simpa [strs_eq, T.enc_eq, encL_eq, F.enc_eq, encF_eq, Tk.enc_eq, encTk_eq, Gn.enc_eq, ints_eq] using h
theorem spItoa_md  : (spItoa).md = [false] := rfl
theorem spItoa_pre  (n : Int) : (spItoa).pre [.d (.one (.int .i64 n))] = (i64 n) := Spec.of_pre' spItoa_inj n
theorem spItoa_alts  : (spItoa).alts = none := rfl
theorem spItoa_res  (n : Int) : (spItoa).res [.d (.one (.int .i64 n))] = [.d (.one (.str (itoaB n)))] := Spec.of_res spItoa_inj n
theorem spItoa_out  (n : Int) : (spItoa).out [.d (.one (.int .i64 n))] = [.gone] := Spec.of_out spItoa_inj n
theorem itoa_sound (hK : tabK) : Sound Go.Proofs.Tryd.prog 41 spItoa := by
  rintro args ⟨n, rfl, hn⟩ w S vs fps hG hS hF ha hA
  cases hA with
  | cons h1 h2 =>
    cases h2
    obtain ⟨hr, hfp⟩ := h1
    cases hr
    obtain ⟨g, hg, hk⟩ := hK
    obtain ⟨_, t, x, hx⟩ := hG.2 g _ hk
    have htab : Lib.TabIs Go.Proofs.Tryd.prog w "internal/strconv.uint64pow10" .u64 Lib.pow10Tab := by
      unfold Lib.TabIs World.var?
      rw [hg]
      simp only [Option.bind_some, hx]
    refine (Go.Proofs.Tryd.strconv_Itoa n hn.1 hn.2 w htab).mono ?_
    rintro e w' ⟨rfl, k, os, rfl⟩
    refine ⟨[.d (.one (.str (itoaB n)))], [.gone], (Spec.may_none spItoa_alts).2 ⟨(spItoa_res n).symm, (spItoa_out n).symm⟩, _, S, [fun _ => False], [fun _ => False], rfl, ⟨.str _, fun _ h => h⟩, .cons (fun _ h => h) .nil, fun g hg => .inl hg, fun g hg => ?_, ?_, ?_, Fr.grown _ w k os⟩
    · exact Nat.lt_of_lt_of_le (hS g hg) (Fr.grown (fun _ => False) w k os).size
    · exact ⟨fun g h => h.elim, fun g h => h.elim, fun g h => h.elim, fun g h => h.elim, trivial⟩
    · rintro g ⟨p, hp, hpg⟩
      simp only [List.cons_append, List.nil_append, List.mem_cons, List.not_mem_nil, or_false] at hp
      rcases hp with rfl | rfl <;> exact hpg.elim
theorem Fr.below {B : Nat} (X : Nat → Prop) {w w' : World} (h : Below B w w') : Fr X B w w' := ⟨h.os, h.tape, h.output, h.size, fun k hk _ => h.block k hk⟩
theorem strs_nil_iff {xs : List ByteArray} (h : strs xs = []) : xs = [] := by cases xs <;> simp_all [strs]
theorem join_end {xs : List ByteArray} {sep : ByteArray} {w w' : World} {S : Nat → Prop} {r : RV} {fp fp2 : Nat → Prop} {v2 : Value} (hp : Priv w S 1 (strs xs) r) (hf : ∀ g, fp g ↔ pblk r g) (hb : Below w.heap.size w w') (hS : ∀ g, S g → g < w.heap.size) (ha : Apart S [fp, fp2]) (hf2 : ∀ g, ¬ fp2 g) :
    ∃ S' rfs fps', RepR w' S' [.d (.one (.str (joinB xs sep)))] (.string (joinB xs sep)) rfs ∧ All3 (RepA w' S') [.own 1 (strs xs), .gone] [r.v, v2] fps' ∧
      (∀ g, S' g → S g ∨ w.heap.size ≤ g ∨ Any [fp, fp2] g) ∧ (∀ g, S' g → g < w'.heap.size) ∧
      Apart S' (rfs ++ fps') ∧ (∀ g, Any (rfs ++ fps') g → (w.heap.size ≤ g ∨ Any [fp, fp2] g) ∧ g < w'.heap.size) ∧ Fr (Any [fp, fp2]) w.heap.size w w' := by
  have hlt : ∀ g, pblk r g → g < w.heap.size := fun g hg => hp.lt hg
  have hp' : Priv w' S 1 (strs xs) r := hp.move (fun _ h => h) (fun g hg => hb.block g (hS g hg)) (fun g hg => hb.block g (hlt g hg))
  refine ⟨S, [fun _ => False], [fp, fp2], ⟨.str _, fun _ h => h⟩, .cons ⟨by decide, r, rfl, hp', hf⟩ (.cons hf2 .nil), fun g hg => .inl hg, fun g hg => Nat.lt_of_lt_of_le (hS g hg) hb.size, ⟨fun g h => h.elim, fun g h => h.elim, ha⟩, ?_, Fr.below _ hb⟩
  rintro g ⟨p, hp1, hpg⟩
  simp only [List.cons_append, List.nil_append, List.mem_cons, List.not_mem_nil, or_false] at hp1
  rcases hp1 with rfl | rfl | rfl
  · exact hpg.elim
  · exact ⟨.inr ⟨_, by simp, hpg⟩, Nat.lt_of_lt_of_le (hlt g ((hf g).1 hpg)) hb.size⟩
  · exact absurd hpg (hf2 g)
noncomputable def spJoin  : Spec := Spec.of (ι := (List ByteArray) × ByteArray) [true, false] (fun i => [.own 1 (strs i.1), .d (.one (.str i.2))]) (fun i => lenB 140737488355328 i.1.length ∧ lenB 140737488355328 (joinB i.1 i.2).size) (fun i => [.d (.one (.str (joinB i.1 i.2)))]) (fun i => [.own 1 (strs i.1), .gone])
theorem spJoin_inj : ∀ i j : (List ByteArray) × ByteArray, (fun (i : (List ByteArray) × ByteArray) => ([.own 1 (strs i.1), .d (.one (.str i.2))] : List AV)) i = (fun (i : (List ByteArray) × ByteArray) => ([.own 1 (strs i.1), .d (.one (.str i.2))] : List AV)) j → i = j := by
  rintro ⟨xs, sep⟩ ⟨xs', sep'⟩ h
  simp only [Prod.mk.injEq]
  simpa [strs_eq, T.enc_eq, encL_eq, F.enc_eq, encF_eq, Tk.enc_eq, encTk_eq, Gn.enc_eq, ints_eq] using h
theorem spJoin_md  : (spJoin).md = [true, false] := rfl
theorem spJoin_pre  (xs : List ByteArray) (sep : ByteArray) : (spJoin).pre [.own 1 (strs xs), .d (.one (.str sep))] = (lenB 140737488355328 xs.length ∧ lenB 140737488355328 (joinB xs sep).size) := Spec.of_pre' spJoin_inj (xs, sep)
theorem spJoin_alts  : (spJoin).alts = none := rfl
theorem spJoin_res  (xs : List ByteArray) (sep : ByteArray) : (spJoin).res [.own 1 (strs xs), .d (.one (.str sep))] = [.d (.one (.str (joinB xs sep)))] := Spec.of_res spJoin_inj (xs, sep)
theorem spJoin_out  (xs : List ByteArray) (sep : ByteArray) : (spJoin).out [.own 1 (strs xs), .d (.one (.str sep))] = [.own 1 (strs xs), .gone] := Spec.of_out spJoin_inj (xs, sep)
theorem join_sound : Sound Go.Proofs.Tryd.prog 48 spJoin := by
  rintro args ⟨⟨xs, sep⟩, rfl, hn, hj⟩ w S vs fps hG hS hF ha hA
  simp only [lenB] at hn hj
  cases hA with
  | cons h1 h2 =>
    rename_i v fp vs fps
    cases h2 with
    | cons h2 h3 =>
      rename_i v2 fp2 vs fps
      cases h3
      obtain ⟨hr, hfp⟩ := h2
      cases hr
      obtain ⟨_, r, rfl, hp, hf⟩ := h1
      have key : ∀ (e : Ending) w', e = .returned (.string (joinB xs sep)) ∧ Below w.heap.size w w' → ∃ r' o, spJoin.may [.own 1 (strs xs), .d (.one (.str sep))] r' o ∧ ∃ v S' rfs fps', e = .returned v ∧ RepR w' S' r' v rfs ∧ All3 (RepA w' S') o [r.v, .string sep] fps' ∧
          (∀ g, S' g → S g ∨ w.heap.size ≤ g ∨ Any [fp, fp2] g) ∧ (∀ g, S' g → g < w'.heap.size) ∧
          Apart S' (rfs ++ fps') ∧ (∀ g, Any (rfs ++ fps') g → (w.heap.size ≤ g ∨ Any [fp, fp2] g) ∧ g < w'.heap.size) ∧ Fr (Any [fp, fp2]) w.heap.size w w' := fun e w' ⟨he, hb⟩ => by
        obtain ⟨S', rfs, fps', k1, k2, k3⟩ := join_end (sep := sep) (v2 := .string sep) hp hf hb hS ha hfp
        exact ⟨_, _, (Spec.may_none spJoin_alts).2 ⟨(spJoin_res xs sep).symm, (spJoin_out xs sep).symm⟩, _, S', rfs, fps', he, k1, k2, k3⟩
      have k := hp.repX (by decide)
      generalize hes : strs xs = es at k
      generalize hv : r.v = v at k key
      cases k with
      | pl hr => cases hr
      | nil h0 hh =>
        rename_i a
        have hx := strs_nil_iff hes
        subst hx
        refine (Go.Proofs.Tryd.strings_Join_none a 0 sep w).mono ?_
        rintro e w' ⟨rfl, rfl⟩
        exact key _ _ ⟨rfl, Below.refl _ _⟩
      | own ψ h0 hh hg hcl hcm hsz hes1 hD hψ hd u hu hrr =>
        rename_i g cap cur ty
        have hlen : es.length = xs.length := by rw [← hes, strs_len]
        have hgl : g < w.heap.size := by
          rcases Nat.lt_or_ge g w.heap.size with h | h
          · exact h
          · rw [Array.getElem?_eq_none h] at hg; cases hg
        have hcell : ∀ (j : Nat) x, xs[j]? = some x → w.cell? ⟨g, 0 + j, none⟩ = some (.string x) := fun j x hx => by
          have he : es[j]? = some [C.str x] := by rw [← hes]; simp [strs, hx]
          have q1 := hu j 0 _ _ he rfl
          have q2 := hrr j 0 _ _ he rfl
          have q3 : u (j * 1 + 0) = .string x := by
            generalize u (j * 1 + 0) = z at q2
            cases q2 with
            | pl h => cases h; rfl
          rw [q3] at q1
          unfold World.cell?
          simp only [hg]
          simpa using q1
        rw [hlen] at key ⊢
        refine (Go.Proofs.Tryd.strings_Join g 0 cap xs sep w hcell hgl (by omega) (by omega) (by have e : (joinB xs sep).size = _ := bL_size _; omega)).mono ?_
        rintro e w' ⟨rfl, hb⟩
        exact key _ _ ⟨rfl, hb⟩
end Go.Proofs.Pw
/- Texts of trees: both programs. -/
set_option linter.unusedSimpArgs false
set_option maxRecDepth 20000
namespace Go.Proofs.Pw
set_option linter.unusedSectionVars false
variable [Globs]
def x_textI : X := (.seq (.reg [⟨some 1, none, .box (.t 0) (some 5)⟩, ⟨some 2, none, .mv (.k (.c (.str ⟨#[]⟩)))⟩] none [1]) (.seq (.seq (.reg [⟨some 7, none, .fa (.t 1) 0⟩, ⟨some 8, none, .load (.t 7) none⟩] none [1, 8]) (.block 0 (.seq (.reg [⟨some 10, none, .bin false .eql (.t 8) (.k (.c (.int .i64 0)))⟩, ⟨some 9, none, .mv (.t 10)⟩] none [1, 8, 9]) (.cond (.t 9) (.seq (.reg [⟨some 2, none, .mv (.k (.c (.str ⟨#[110, 117, 108, 108]⟩)))⟩] none [2]) .ret) (.seq (.reg [⟨some 12, none, .bin false .eql (.t 8) (.k (.c (.int .i64 1)))⟩, ⟨some 11, none, .mv (.t 12)⟩] none [1, 8, 11]) (.cond (.t 11) (.seq (.reg [⟨some 2, none, .mv (.k (.c (.str ⟨#[102, 97, 108, 115, 101]⟩)))⟩] none [2]) .ret) (.seq (.reg [⟨some 14, none, .bin false .eql (.t 8) (.k (.c (.int .i64 2)))⟩, ⟨some 13, none, .mv (.t 14)⟩] none [1, 8, 13]) (.cond (.t 13) (.seq (.reg [⟨some 2, none, .mv (.k (.c (.str ⟨#[116, 114, 117, 101]⟩)))⟩] none [2]) .ret) (.seq (.reg [⟨some 16, none, .bin false .eql (.t 8) (.k (.c (.int .i64 3)))⟩, ⟨some 15, none, .mv (.t 16)⟩] none [1, 8, 15]) (.cond (.t 15) (.seq (.reg [⟨some 17, none, .fa (.t 1) 1⟩, ⟨some 18, none, .load (.t 17) none⟩, ⟨some 19, none, .call 41 [(.t 18)]⟩, ⟨some 2, none, .mv (.t 19)⟩] none [2]) .ret) (.seq (.reg [⟨some 21, none, .bin false .eql (.t 8) (.k (.c (.int .i64 4)))⟩, ⟨some 20, none, .mv (.t 21)⟩] none [1, 20]) (.cond (.t 20) (.seq (.reg [⟨some 22, none, .fa (.t 1) 2⟩, ⟨some 23, none, .load (.t 22) none⟩, ⟨some 24, none, .bin false .add (.k (.c (.str ⟨#[39]⟩))) (.t 23)⟩, ⟨some 25, none, .bin false .add (.t 24) (.k (.c (.str ⟨#[39]⟩)))⟩, ⟨some 2, none, .mv (.t 25)⟩] none [2]) .ret) .skip)))))))))))) (.seq (.reg [⟨some 26, none, .bsl 1 []⟩, ⟨some 3, none, .mv (.t 26)⟩] none [1, 3]) (.seq (.seq (.reg [⟨some 27, none, .fa (.t 1) 4⟩, ⟨some 28, none, .load (.t 27) none⟩, ⟨some 29, none, .len (.t 28) false⟩, ⟨some 30, none, .mv (.k (.c (.int .i64 0)))⟩] none [1, 3, 28, 29, 30]) (.block 1 (.loop (.seq (.reg [⟨some 31, none, .bin false .lss (.t 30) (.t 29)⟩] none [1, 3, 28, 29, 30, 31]) (.seq (.cond (.t 31) .skip (.exit 1)) (.seq (.block 2 (.seq (.reg [⟨some 32, none, .mv (.t 30)⟩, ⟨some 33, none, .ia (.t 28) (.t 30) 5⟩, ⟨some 34, none, .load (.t 33) (some 5)⟩, ⟨some 5, none, .alloc [(.c (.int .i64 0)), (.c (.int .i64 0)), (.c (.str ⟨#[]⟩)), (.z 1), (.z 5)]⟩, ⟨some 4, none, .mv (.t 32)⟩, ⟨none, none, .st (.t 5) (.t 34) (some 5)⟩] none [1, 3, 4, 5, 28, 29, 30]) (.seq (.reg [⟨some 35, none, .load (.t 5) (some 5)⟩, ⟨some 36, none, .call 40 [(.t 35)]⟩, ⟨some 6, none, .mv (.t 36)⟩] none [1, 3, 4, 6, 28, 29, 30]) (.seq (.seq (.reg [⟨some 37, none, .fa (.t 1) 0⟩, ⟨some 38, none, .load (.t 37) none⟩, ⟨some 39, none, .bin false .eql (.t 38) (.k (.c (.int .i64 6)))⟩] none [1, 3, 4, 6, 28, 29, 30, 39]) (.cond (.t 39) (.reg [⟨some 40, none, .fa (.t 1) 3⟩, ⟨some 41, none, .load (.t 40) none⟩, ⟨some 42, none, .mv (.t 4)⟩, ⟨some 43, none, .ia (.t 41) (.t 42) 1⟩, ⟨some 44, none, .load (.t 43) none⟩, ⟨some 45, none, .bin false .add (.t 44) (.k (.c (.str ⟨#[58]⟩)))⟩, ⟨some 46, none, .mv (.t 6)⟩, ⟨some 47, none, .bin false .add (.t 45) (.t 46)⟩, ⟨some 6, none, .mv (.t 47)⟩] none [1, 3, 6, 28, 29, 30]) .skip)) (.reg [⟨some 48, none, .mv (.t 3)⟩, ⟨some 49, none, .mv (.t 6)⟩, ⟨some 50, none, .bsl 1 [((.t 49), none)]⟩, ⟨some 51, none, .app (.t 48) (.t 50) 1 16 []⟩, ⟨some 3, none, .mv (.t 51)⟩] none [1, 3, 28, 29, 30]))))) (.reg [⟨some 52, none, .bin false .add (.t 30) (.k (.c (.int .i64 1)))⟩, ⟨some 30, none, .mv (.t 52)⟩] none [1, 3, 28, 29, 30]))))))) (.seq (.seq (.reg [⟨some 53, none, .fa (.t 1) 0⟩, ⟨some 54, none, .load (.t 53) none⟩, ⟨some 55, none, .bin false .eql (.t 54) (.k (.c (.int .i64 6)))⟩] none [3, 55]) (.cond (.t 55) (.seq (.reg [⟨some 56, none, .mv (.t 3)⟩, ⟨some 57, none, .call 48 [(.t 56), (.k (.c (.str ⟨#[44]⟩)))]⟩, ⟨some 58, none, .bin false .add (.k (.c (.str ⟨#[123]⟩))) (.t 57)⟩, ⟨some 59, none, .bin false .add (.t 58) (.k (.c (.str ⟨#[125]⟩)))⟩, ⟨some 2, none, .mv (.t 59)⟩] none [2]) .ret) .skip)) (.seq (.reg [⟨some 60, none, .mv (.t 3)⟩, ⟨some 61, none, .call 48 [(.t 60), (.k (.c (.str ⟨#[44]⟩)))]⟩, ⟨some 62, none, .bin false .add (.k (.c (.str ⟨#[91]⟩))) (.t 61)⟩, ⟨some 63, none, .bin false .add (.t 62) (.k (.c (.str ⟨#[93]⟩)))⟩, ⟨some 2, none, .mv (.t 63)⟩] none [2]) .ret))))))
theorem chk_textI : chkX Go.Proofs.Tryd.prog 64 (Go.Proofs.Tryd.f40.body.getD .skip) x_textI = true := by kernel_rfl
theorem rs_textI : okRs Go.Proofs.Tryd.prog Go.Proofs.Tryd.f40.results.toList [.tmp 2] = true := by kernel_rfl
theorem call_textI : okCallee Go.Proofs.Tryd.prog 40 = true := by kernel_rfl
attribute [go_sem] bytesL flatC
def okTx (t : T) : Prop := (∃ d, formT t d) ∧ sizeT t ≤ 60
theorem okTx_of {t : T} (h : okT t) : okTx t := ⟨⟨_, h.1⟩, okT_size h⟩
theorem okTx_kid {k n : Int} {s : ByteArray} {ks : List ByteArray} {l : List T} (h : okTx (.mk k n s ks l)) {t : T} (ht : t ∈ l) : okTx t := by
  obtain ⟨⟨d, h1⟩, h2⟩ := h
  simp only [formT] at h1
  simp only [sizeT] at h2
  exact ⟨⟨_, formL_mem.1 h1.2.2.2.2.2.2.2.2.2.2.2 t ht⟩, by have := sizeL_mem' ht; omega⟩
theorem okTx_size {t : T} (h : okTx t) : (textT t).size ≤ 2400 := by
  obtain ⟨⟨d, h1⟩, h2⟩ := h
  have := textT_size h1; omega
noncomputable def spTxt (k:Nat) : Spec := Spec.of (ι := T) [false] (fun i => [.d (.agg i.enc)]) (fun i => (okTx i) ∧ SizeOf.sizeOf i < k) (fun i => [.d (.one (.str (textT i)))]) (fun _ => [.gone])
theorem spTxt_inj : ∀ i j : T, (fun (i : T) => ([.d (.agg i.enc)] : List AV)) i = (fun (i : T) => ([.d (.agg i.enc)] : List AV)) j → i = j := by
  intro t t' h
  simpa [strs_eq, T.enc_eq, encL_eq, F.enc_eq, encF_eq, Tk.enc_eq, encTk_eq, Gn.enc_eq, ints_eq] using h
theorem spTxt_md (k:Nat) : (spTxt k).md = [false] := rfl
theorem spTxt_pre (k:Nat) (t : T) : (spTxt k).pre [.d (.agg t.enc)] = ((okTx t) ∧ SizeOf.sizeOf t < k) := Spec.of_pre' spTxt_inj t
theorem spTxt_alts (k:Nat) : (spTxt k).alts = none := rfl
theorem spTxt_res (k:Nat) (t : T) : (spTxt k).res [.d (.agg t.enc)] = [.d (.one (.str (textT t)))] := Spec.of_res spTxt_inj t
theorem spTxt_out (k:Nat) (t : T) : (spTxt k).out [.d (.agg t.enc)] = [.gone] := Spec.of_out spTxt_inj t
noncomputable def spTxtV  : Spec := Spec.of (ι := T) [false] (fun i => [.d (.agg i.enc)]) (fun i => okTx i) (fun i => [.d (.one (.str (textT i)))]) (fun _ => [.gone])
theorem spTxtV_inj : ∀ i j : T, (fun (i : T) => ([.d (.agg i.enc)] : List AV)) i = (fun (i : T) => ([.d (.agg i.enc)] : List AV)) j → i = j := by
  intro t t' h
  simpa [strs_eq, T.enc_eq, encL_eq, F.enc_eq, encF_eq, Tk.enc_eq, encTk_eq, Gn.enc_eq, ints_eq] using h
theorem spTxtV_md  : (spTxtV).md = [false] := rfl
theorem spTxtV_pre  (t : T) : (spTxtV).pre [.d (.agg t.enc)] = (okTx t) := Spec.of_pre' spTxtV_inj t
theorem spTxtV_alts  : (spTxtV).alts = none := rfl
theorem spTxtV_res  (t : T) : (spTxtV).res [.d (.agg t.enc)] = [.d (.one (.str (textT t)))] := Spec.of_res spTxtV_inj t
theorem spTxtV_out  (t : T) : (spTxtV).out [.d (.agg t.enc)] = [.gone] := Spec.of_out spTxtV_inj t
set_option maxHeartbeats 2000000 in
theorem txtI_sound (hK : tabK) (k : Nat) (hS : Sound Go.Proofs.Tryd.prog 40 (spTxt k)) : Sound Go.Proofs.Tryd.prog 40 (spTxt (k + 1)) := by
  refine sound_fam (GOK.cons (l := [(40, spTxt k), (48, spJoin)]) call_Itoa (itoa_sound hK) (GOK.cons (l := [(48, spJoin)]) call_textI hS (GOK.cons call_Join join_sound GOK.nil))) Go.Proofs.Tryd.func40 (c := Go.Proofs.Tryd.f40.body.getD .skip) rfl (n := 64) rfl chk_textI rs_textI (fun _ => by simp) ?_ ?_
  · exact spTxt_inj
  · rintro t ⟨h1, h4⟩
    obtain ⟨kk, n, s, ks, l⟩ := t
    have hkid := fun t ht => okTx_kid h1 (t := t) ht
    have hT := okTx_size h1
    obtain ⟨⟨d, h1⟩, h2⟩ := h1
    have hks := keys_small h1
    have e3 : SizeOf.sizeOf l < k := by have e : SizeOf.sizeOf (T.mk kk n s ks l) < k + 1 := h4
                                        rw [T.mk.sizeOf_spec] at e; omega
    clear h4
    simp only [formT] at h1
    obtain ⟨f1, f2, f3, f4, f5, f6, f7, f8, f9, f10, f11, f12⟩ := h1
    have f13 := f10.2
    simp only [sizeT] at h2
    have f14 := len_sizeL l
    have hz := fun i => join_take (k := kk) hks f12 (by omega) i
    have q1 : (ByteArray.mk #[39]).size = 1 := rfl
    have q2 : (ByteArray.mk #[123]).size = 1 := rfl
    have q3 : (ByteArray.mk #[125]).size = 1 := rfl
    have q4 : (ByteArray.mk #[91]).size = 1 := rfl
    have q5 : (ByteArray.mk #[93]).size = 1 := rfl
    have q6 : (ByteArray.mk #[58]).size = 1 := rfl
    have hkk : kk = 0 ∨ kk = 1 ∨ kk = 2 ∨ kk = 3 ∨ kk = 4 ∨ kk = 5 ∨ kk = 6 := by omega
    rcases hkk with rfl | rfl | rfl | rfl | rfl | hkk
    · simp only [x_textI, T.enc, rg, go_sem, seval, Prod.fst, textT]
      repeat' (first | with_reducible assumption | with_reducible refine And.intro ?_ ?_ | intro _)
    · simp only [x_textI, T.enc, rg, go_sem, seval, Prod.fst, textT]
      repeat' (first | with_reducible assumption | with_reducible refine And.intro ?_ ?_ | intro _)
      all_goals first | omega | simp
    · simp only [x_textI, T.enc, rg, go_sem, seval, Prod.fst, textT]
      repeat' (first | with_reducible assumption | with_reducible refine And.intro ?_ ?_ | intro _)
      all_goals first | omega | simp
    · simp only [x_textI, T.enc, rg, go_sem, seval, Prod.fst, textT, spItoa_md, spItoa_pre, spItoa_alts, spItoa_res, spItoa_out]
      repeat' (first | with_reducible assumption | with_reducible refine And.intro ?_ ?_ | intro _)
      all_goals first | omega | (unfold i64; omega) | simp
    · simp only [x_textI, T.enc, rg, go_sem, seval, Prod.fst, textT, q1]
      repeat' (first | with_reducible assumption | with_reducible refine And.intro ?_ ?_ | intro _)
      all_goals first | omega | simp
    have b0 : (kk = 0) = False := eq_false (by omega)
    have b1 : (kk = 1) = False := eq_false (by omega)
    have b2 : (kk = 2) = False := eq_false (by omega)
    have b3 : (kk = 3) = False := eq_false (by omega)
    have b4 : (kk = 4) = False := eq_false (by omega)
    simp only [x_textI, T.enc, rg, go_sem, seval, Prod.fst, b0, b1, b2, b3, b4, encL_len]
    repeat' (first | with_reducible assumption | with_reducible refine And.intro ?_ ?_ | intro _)
    all_goals first | omega | skip
    have hA : (l.length : Int) = l.length := rfl
    refine pw_loop (ι := Nat) (fun i => l.length - i) (fun i => i ≤ l.length)
      (fun i => ⟨[(1, .q (.box 1 0)), (3, .q (.own 51)), (28, .q (.c (.row 5 (encL l)))), (29, .q (.c (.int .i64 l.length))), (30, .q (.c (.int .i64 i)))],
        [(1, [.c (.int .i64 kk), .c (.int .i64 n), .c (.str s), .c (.row 1 (strs ks)), .c (.row 5 (encL l))])], [(51, 1, strs ((textLs kk ks l).take i))]⟩) 0 (Nat.zero_le _) ?_ ?_
    · refine Le.own (t := 3) (d := 51) (sz := 1) (by decide) (by simp) (by simp [Q.killO]) ?_
      simp [PV.map, Q.killO, strs]
    intro i hi
    rcases Nat.lt_or_ge i l.length with hlt | hge
    · obtain ⟨t, ht, _, hmem⟩ := drop_at hlt
      have a1 := encL_at ht
      have a2 : ((i : Int) < (l.length : Int)) = True := by simp; omega
      have a4 := size_mem hmem
      have a5 := hkid t hmem
      have a6 := T.enc_len t
      have a7 := okTx_size a5
      have a9 := textLs_take kk l ks i t ht
      have a10 : ((textLs kk ks l).take i).length = i := by rw [List.length_take, textLs_len]; omega
      rcases hkk with hkk | hkk
      · have b5 : (kk = 6) = False := eq_false (by omega)
        simp only [b5, if_false] at a9
        simp only [rg, go_sem, seval, Prod.fst, a1, a2, a6, a10, b5, encL_len, strs_len, spTxt_md, spTxt_pre, spTxt_alts, spTxt_res, spTxt_out]
        repeat' (first | with_reducible assumption | with_reducible refine And.intro ?_ ?_ | intro _)
        all_goals first | omega | with_reducible assumption | skip
        refine ⟨i + 1, hlt, by omega, ?_⟩
        rw [a9, strs_app]
        exact Le.sub (by simp) (by simp) (by simp [strs])
      · have b5 : (kk = 6) = True := eq_true (by omega)
        obtain ⟨key, hkey⟩ : ∃ y, ks[i]? = some y := ⟨ks[i]'(by have := (f11 hkk).1; omega), List.getElem?_eq_getElem _⟩
        have b6 := strs_at hkey
        have b7 : ks.getD i ⟨#[]⟩ = key := by simp [List.getD, hkey]
        have b8 := hks key (List.mem_of_getElem? hkey)
        have b9 := (f11 hkk).1
        simp only [b5, if_true, b7] at a9
        simp only [rg, go_sem, seval, Prod.fst, a1, a2, a6, a10, b5, b6, q6, encL_len, strs_len, ByteArray.size_append, spTxt_md, spTxt_pre, spTxt_alts, spTxt_res, spTxt_out]
        repeat' (first | with_reducible assumption | with_reducible refine And.intro ?_ ?_ | intro _)
        all_goals first | omega | with_reducible assumption | skip
        refine ⟨i + 1, hlt, by omega, ?_⟩
        rw [a9, strs_app]
        exact Le.sub (by simp) (by simp) (by simp [strs])
    · have a2 : ((i : Int) < (l.length : Int)) = False := by simp; omega
      have a3 : (textLs kk ks l).take i = textLs kk ks l := List.take_of_length_le (by rw [textLs_len]; exact hge)
      have a4 := hz i
      have a5 := textLs_len kk ks l
      rw [a3] at a4
      rcases hkk with hkk | hkk
      · have b5 : (kk = 6) = False := eq_false (by omega)
        simp only [rg, go_sem, seval, Prod.fst, a2, a3, a5, b5, encL_len, q4, q5, ByteArray.size_append, lenB, spJoin_md, spJoin_pre, spJoin_alts, spJoin_res, spJoin_out]
        repeat' (first | with_reducible assumption | with_reducible refine And.intro ?_ ?_ | intro _)
        all_goals first | omega | with_reducible assumption | skip
        all_goals (simp only [textT, b0, b1, b2, b3, b4, b5, if_false])
      · have b5 : (kk = 6) = True := eq_true (by omega)
        simp only [rg, go_sem, seval, Prod.fst, a2, a3, a5, b5, encL_len, q2, q3, ByteArray.size_append, lenB, spJoin_md, spJoin_pre, spJoin_alts, spJoin_res, spJoin_out]
        repeat' (first | with_reducible assumption | with_reducible refine And.intro ?_ ?_ | intro _)
        all_goals first | omega | with_reducible assumption | skip
        all_goals (simp only [textT, b0, b1, b2, b3, b4, b5, if_false, if_true])
theorem txtI_all (hK : tabK) (k : Nat) : Sound Go.Proofs.Tryd.prog 40 (spTxt k) := by
  induction k with
  | zero => exact Sound.none
  | succ k ih => exact txtI_sound hK k ih
theorem txtIV_sound (hK : tabK) : Sound Go.Proofs.Tryd.prog 40 spTxtV := Sound.all (μ := fun t => SizeOf.sizeOf t) (txtI_all hK)
end Go.Proofs.Pw
/- Texts of filters: both programs. -/
set_option linter.unusedSimpArgs false
set_option maxRecDepth 20000
namespace Go.Proofs.Pw
set_option linter.unusedSectionVars false
variable [Globs]
def x_ftextI : X := (.seq (.reg [⟨some 1, none, .box (.t 0) (some 9)⟩, ⟨some 2, none, .mv (.k (.c (.str ⟨#[]⟩)))⟩] none [1]) (.seq (.reg [⟨some 6, none, .glb 1⟩, ⟨some 7, none, .fa (.t 1) 0⟩, ⟨some 8, none, .load (.t 7) none⟩, ⟨some 9, none, .ia (.t 6) (.t 8) 1⟩, ⟨some 10, none, .load (.t 9) none⟩, ⟨some 3, none, .mv (.t 10)⟩] none [1, 3]) (.seq (.seq (.reg [⟨some 11, none, .fa (.t 1) 0⟩, ⟨some 12, none, .load (.t 11) none⟩] none [1, 3, 12]) (.block 0 (.seq (.reg [⟨some 14, none, .bin false .eql (.t 12) (.k (.c (.int .i64 2)))⟩, ⟨some 13, none, .mv (.t 14)⟩] none [1, 3, 12, 13]) (.cond (.t 13) (.reg [⟨some 15, none, .fa (.t 1) 3⟩, ⟨some 16, none, .load (.t 15) (some 5)⟩, ⟨some 17, none, .call 40 [(.t 16)]⟩, ⟨some 18, none, .bin false .add (.k (.c (.str ⟨#[61]⟩))) (.t 17)⟩, ⟨some 3, none, .mv (.t 18)⟩] none [1, 3]) (.seq (.reg [⟨some 20, none, .bin false .eql (.t 12) (.k (.c (.int .i64 3)))⟩, ⟨some 19, none, .mv (.t 20)⟩] none [1, 3, 12, 19]) (.cond (.t 19) (.reg [⟨some 21, none, .fa (.t 1) 2⟩, ⟨some 22, none, .load (.t 21) none⟩, ⟨some 23, none, .bin false .add (.k (.c (.str ⟨#[46]⟩))) (.t 22)⟩, ⟨some 24, none, .bin false .add (.t 23) (.k (.c (.str ⟨#[58]⟩)))⟩, ⟨some 3, none, .mv (.t 24)⟩] none [1, 3]) (.seq (.reg [⟨some 26, none, .bin false .eql (.t 12) (.k (.c (.int .i64 4)))⟩, ⟨some 25, none, .mv (.t 26)⟩] none [1, 3, 12, 25]) (.cond (.t 25) (.reg [⟨some 27, none, .fa (.t 1) 1⟩, ⟨some 28, none, .load (.t 27) none⟩, ⟨some 29, none, .call 41 [(.t 28)]⟩, ⟨some 30, none, .bin false .add (.k (.c (.str ⟨#[91]⟩))) (.t 29)⟩, ⟨some 31, none, .bin false .add (.t 30) (.k (.c (.str ⟨#[93]⟩)))⟩, ⟨some 3, none, .mv (.t 31)⟩] none [1, 3]) (.seq (.reg [⟨some 33, none, .bin false .eql (.t 12) (.k (.c (.int .i64 21)))⟩, ⟨some 32, none, .mv (.t 33)⟩] none [1, 3, 32]) (.cond (.t 32) (.reg [⟨some 34, none, .fa (.t 1) 2⟩, ⟨some 35, none, .load (.t 34) none⟩, ⟨some 36, none, .bin false .add (.k (.c (.str ⟨#[109, 97, 107, 101, 58]⟩))) (.t 35)⟩, ⟨some 3, none, .mv (.t 36)⟩] none [1, 3]) .skip)))))))))) (.seq (.seq (.reg [⟨some 37, none, .fa (.t 1) 8⟩, ⟨some 38, none, .load (.t 37) none⟩, ⟨some 39, none, .len (.t 38) false⟩, ⟨some 40, none, .mv (.k (.c (.int .i64 0)))⟩] none [3, 38, 39, 40]) (.block 1 (.loop (.seq (.reg [⟨some 41, none, .bin false .lss (.t 40) (.t 39)⟩] none [3, 38, 39, 40, 41]) (.seq (.cond (.t 41) .skip (.exit 1)) (.seq (.block 2 (.seq (.reg [⟨some 42, none, .ia (.t 38) (.t 40) 9⟩, ⟨some 43, none, .load (.t 42) (some 9)⟩, ⟨some 5, none, .alloc [(.c (.int .i64 0)), (.c (.int .i64 0)), (.c (.str ⟨#[]⟩)), (.c (.int .i64 0)), (.c (.int .i64 0)), (.c (.str ⟨#[]⟩)), (.z 1), (.z 5), (.z 9)]⟩, ⟨none, none, .st (.t 5) (.t 43) (some 9)⟩] none [3, 5, 38, 39, 40]) (.reg [⟨some 44, none, .mv (.t 3)⟩, ⟨some 45, none, .load (.t 5) (some 9)⟩, ⟨some 46, none, .call 22 [(.t 45)]⟩, ⟨some 47, none, .bin false .add (.k (.c (.str ⟨#[32]⟩))) (.t 46)⟩, ⟨some 48, none, .bin false .add (.t 44) (.t 47)⟩, ⟨some 3, none, .mv (.t 48)⟩] none [3, 38, 39, 40]))) (.reg [⟨some 49, none, .bin false .add (.t 40) (.k (.c (.int .i64 1)))⟩, ⟨some 40, none, .mv (.t 49)⟩] none [3, 38, 39, 40]))))))) (.seq (.reg [⟨some 50, none, .mv (.t 3)⟩, ⟨some 2, none, .mv (.t 50)⟩] none [2]) .ret)))))
theorem chk_ftextI : chkX Go.Proofs.Tryd.prog 51 (Go.Proofs.Tryd.f22.body.getD .skip) x_ftextI = true := by kernel_rfl
theorem rs_ftextI : okRs Go.Proofs.Tryd.prog Go.Proofs.Tryd.f22.results.toList [.tmp 2] = true := by kernel_rfl
theorem call_ftextI : okCallee Go.Proofs.Tryd.prog 22 = true := by kernel_rfl
def x_FiltTextI : X := (.seq (.reg [⟨some 1, none, .box (.t 0) (some 9)⟩, ⟨some 2, none, .mv (.k (.c (.str ⟨#[]⟩)))⟩] none [1]) (.seq (.seq (.reg [⟨some 3, none, .load (.t 1) (some 9)⟩, ⟨some 4, none, .call 11 [(.t 3)]⟩, ⟨some 5, none, .not (.t 4)⟩] none [1, 5]) (.cond (.t 5) (.seq (.reg [⟨some 2, none, .mv (.k (.c (.str ⟨#[]⟩)))⟩] none [2]) .ret) .skip)) (.seq (.reg [⟨some 6, none, .load (.t 1) (some 9)⟩, ⟨some 7, none, .call 22 [(.t 6)]⟩, ⟨some 2, none, .mv (.t 7)⟩] none [2]) .ret)))
theorem chk_FiltTextI : chkX Go.Proofs.Tryd.prog 8 (Go.Proofs.Tryd.f12.body.getD .skip) x_FiltTextI = true := by kernel_rfl
theorem rs_FiltTextI : okRs Go.Proofs.Tryd.prog Go.Proofs.Tryd.f12.results.toList [.tmp 2] = true := by kernel_rfl
theorem call_FiltTextI : okCallee Go.Proofs.Tryd.prog 12 = true := by kernel_rfl
theorem wtab_len : wtab.length = 22 := rfl
theorem foldVal (vk vn : Int) (vs : ByteArray) (vks : List ByteArray) (vl : List T) : DV.agg [C.int .i64 vk, C.int .i64 vn, C.str vs, C.row 1 (strs vks), C.row 5 (encL vl)] = DV.agg (T.mk vk vn vs vks vl).enc := rfl
def F.hd : F → ByteArray
  | .mk k n s v _ => headB k n s v
theorem q32 : (ByteArray.mk #[32]).size = 1 := rfl
noncomputable def spTxF (k:Nat) : Spec := Spec.of (ι := F) [false] (fun i => [.d (.agg i.enc)]) (fun i => (okTF i) ∧ SizeOf.sizeOf i < k) (fun i => [.d (.one (.str (textF i)))]) (fun _ => [.gone])
theorem spTxF_inj : ∀ i j : F, (fun (i : F) => ([.d (.agg i.enc)] : List AV)) i = (fun (i : F) => ([.d (.agg i.enc)] : List AV)) j → i = j := by
  intro t t' h
  simpa [strs_eq, T.enc_eq, encL_eq, F.enc_eq, encF_eq, Tk.enc_eq, encTk_eq, Gn.enc_eq, ints_eq, and_assoc] using h
theorem spTxF_md (k:Nat) : (spTxF k).md = [false] := rfl
theorem spTxF_pre (k:Nat) (t : F) : (spTxF k).pre [.d (.agg t.enc)] = ((okTF t) ∧ SizeOf.sizeOf t < k) := Spec.of_pre' spTxF_inj t
theorem spTxF_alts (k:Nat) : (spTxF k).alts = none := rfl
theorem spTxF_res (k:Nat) (t : F) : (spTxF k).res [.d (.agg t.enc)] = [.d (.one (.str (textF t)))] := Spec.of_res spTxF_inj t
theorem spTxF_out (k:Nat) (t : F) : (spTxF k).out [.d (.agg t.enc)] = [.gone] := Spec.of_out spTxF_inj t
noncomputable def spTxFV  : Spec := Spec.of (ι := F) [false] (fun i => [.d (.agg i.enc)]) (fun i => okTF i) (fun i => [.d (.one (.str (textF i)))]) (fun _ => [.gone])
theorem spTxFV_inj : ∀ i j : F, (fun (i : F) => ([.d (.agg i.enc)] : List AV)) i = (fun (i : F) => ([.d (.agg i.enc)] : List AV)) j → i = j := by
  intro t t' h
  simpa [strs_eq, T.enc_eq, encL_eq, F.enc_eq, encF_eq, Tk.enc_eq, encTk_eq, Gn.enc_eq, ints_eq, and_assoc] using h
theorem spTxFV_md  : (spTxFV).md = [false] := rfl
theorem spTxFV_pre  (t : F) : (spTxFV).pre [.d (.agg t.enc)] = (okTF t) := Spec.of_pre' spTxFV_inj t
theorem spTxFV_alts  : (spTxFV).alts = none := rfl
theorem spTxFV_res  (t : F) : (spTxFV).res [.d (.agg t.enc)] = [.d (.one (.str (textF t)))] := Spec.of_res spTxFV_inj t
theorem spTxFV_out  (t : F) : (spTxFV).out [.d (.agg t.enc)] = [.gone] := Spec.of_out spTxFV_inj t
noncomputable def spFiltText  : Spec := Spec.of (ι := F) [false] (fun i => [.d (.agg i.enc)]) (fun i => i.fit 140737488355328 ∧ smallF i ∧ sizeF i ≤ 1048577) (fun i => [.d (.one (.str (filtText i)))]) (fun _ => [.gone])
theorem spFiltText_inj : ∀ i j : F, (fun (i : F) => ([.d (.agg i.enc)] : List AV)) i = (fun (i : F) => ([.d (.agg i.enc)] : List AV)) j → i = j := by
  intro t t' h
  simpa [strs_eq, T.enc_eq, encL_eq, F.enc_eq, encF_eq, Tk.enc_eq, encTk_eq, Gn.enc_eq, ints_eq, and_assoc] using h
theorem spFiltText_md  : (spFiltText).md = [false] := rfl
theorem spFiltText_pre  (t : F) : (spFiltText).pre [.d (.agg t.enc)] = (t.fit 140737488355328 ∧ smallF t ∧ sizeF t ≤ 1048577) := Spec.of_pre' spFiltText_inj t
theorem spFiltText_alts  : (spFiltText).alts = none := rfl
theorem spFiltText_res  (t : F) : (spFiltText).res [.d (.agg t.enc)] = [.d (.one (.str (filtText t)))] := Spec.of_res spFiltText_inj t
theorem spFiltText_out  (t : F) : (spFiltText).out [.d (.agg t.enc)] = [.gone] := Spec.of_out spFiltText_inj t
set_option maxHeartbeats 2000000 in
theorem txFI_sound (hK : tabK) (hW : get? 1 Globs.G = some wtabC) (k : Nat) (hS : Sound Go.Proofs.Tryd.prog 22 (spTxF k)) : Sound Go.Proofs.Tryd.prog 22 (spTxF (k + 1)) := by
  refine sound_fam (GOK.cons (l := [(22, spTxF k), (40, spTxtV)]) call_Itoa (itoa_sound hK) (GOK.cons (l := [(40, spTxtV)]) call_ftextI hS (GOK.cons call_textI (txtIV_sound hK) GOK.nil))) Go.Proofs.Tryd.func22 (c := Go.Proofs.Tryd.f22.body.getD .skip) rfl (n := 51) rfl chk_ftextI rs_ftextI (fun _ => by simp) ?_ ?_
  · exact spTxF_inj
  · rintro t ⟨h1, h4⟩
    have hT := okTF_size h1
    obtain ⟨kk, n, s, v, l⟩ := t
    have hkid := fun t ht => okTF_kid h1 (t := t) ht
    obtain ⟨⟨d, h1⟩, h2⟩ := h1
    have e3 : SizeOf.sizeOf l < k := by have e : SizeOf.sizeOf (F.mk kk n s v l) < k + 1 := h4
                                        rw [F.mk.sizeOf_spec] at e; omega
    clear h4
    simp only [formF] at h1
    obtain ⟨f1, f2, f3, f4, f5, f6, f7, f8, f9⟩ := h1
    simp only [sizeF] at h2
    have f10 := kidsOf_range (show 0 ≤ kidsOf kk by omega)
    have f14 := len_sizeFL l
    have f11 := f4.2
    have f12 : okTx v := okTx_of f7
    have f13 := okTx_size f12
    have f15 := itoaB_size (n := n) (by omega) (by omega)
    have hb := headB_size (s := s) (v := v) (show 0 ≤ kk ∧ kk ≤ 21 by omega) ⟨f5, f6⟩ f4.2 f7
    have hz : ∀ i, (headB kk n s v ++ textFs (l.take i)).size ≤ 40000 := fun i => by
      have a := textFs_size (formFL_take f8 i)
      have b := sizeFL_take l i
      rw [ByteArray.size_append]; omega
    obtain ⟨vk, vn, vs, vks, vl⟩ := v
    have q1 : (ByteArray.mk #[61]).size = 1 := rfl
    have q2 : (ByteArray.mk #[46]).size = 1 := rfl
    have q3 : (ByteArray.mk #[58]).size = 1 := rfl
    have q4 : (ByteArray.mk #[91]).size = 1 := rfl
    have q5 : (ByteArray.mk #[93]).size = 1 := rfl
    have q6 : (ByteArray.mk #[109, 97, 107, 101, 58]).size = 5 := rfl
    have a6 := strs_at (wtab_at (i := kk.toNat) (by omega))
    have i64n : i64 n := by unfold i64; omega
    by_cases c2 : kk = 2
    · subst c2
      have a7 : (strs wtab).getD 2 [] = [C.str ⟨#[]⟩] := rfl
      simp only [x_ftextI, F.enc, T.enc, List.cons_append, List.nil_append, rg, go_sem, seval, Prod.fst, hW, wtabC, a7, strs_len, wtab_len, encF_len, foldVal, q1, spTxtV_md, spTxtV_pre, spTxtV_alts, spTxtV_res, spTxtV_out]
      repeat' (first | with_reducible assumption | with_reducible refine And.intro ?_ ?_ | intro _)
      all_goals first | omega | with_reducible assumption | skip
      refine pw_loop (ι := Nat) (fun i => l.length - i) (fun i => i ≤ l.length)
        (fun i => ⟨[(3, .q (.c (.str (headB 2 n s (.mk vk vn vs vks vl) ++ textFs (l.take i))))), (38, .q (.c (.row 9 (encF l)))), (39, .q (.c (.int .i64 l.length))), (40, .q (.c (.int .i64 i)))],
          [], []⟩) 0 (Nat.zero_le _) ?_ ?_
      · exact Le.sub (by simp [textFs, ba_nil', headB]) (by simp) (by simp)
      intro i hi
      rcases Nat.lt_or_ge i l.length with hlt | hge
      · obtain ⟨t, ht, _, hmem⟩ := drop_at hlt
        have a1 := encF_at ht
        have a2 : ((i : Int) < (l.length : Int)) = True := by simp; omega
        have a4 := size_mem hmem
        have a5 := hkid t hmem
        have a6 := F.enc_len t
        have a7 := okTF_size a5
        have a8 := hz i
        have a9 := textFs_take ht
        rw [ByteArray.size_append] at a8
        simp only [rg, go_sem, seval, Prod.fst, a1, a2, a6, encF_len, q32, ByteArray.size_append, spTxF_md, spTxF_pre, spTxF_alts, spTxF_res, spTxF_out]
        repeat' (first | with_reducible assumption | with_reducible refine And.intro ?_ ?_ | intro _)
        all_goals first | omega | with_reducible assumption | skip
        refine ⟨i + 1, hlt, by omega, ?_⟩
        rw [a9]
        exact Le.sub (by simp [ba_assoc]) (by simp) (by simp)
      · have a2 : ((i : Int) < (l.length : Int)) = False := by simp; omega
        have a3 : l.take i = l := List.take_of_length_le hge
        simp only [rg, go_sem, seval, Prod.fst, a2, a3, encF_len, textF]
    by_cases c3 : kk = 3
    · subst c3
      have a7 : (strs wtab).getD 3 [] = [C.str ⟨#[]⟩] := rfl
      simp only [x_ftextI, F.enc, T.enc, List.cons_append, List.nil_append, rg, go_sem, seval, Prod.fst, hW, wtabC, a7, strs_len, wtab_len, encF_len, q2, q3, ByteArray.size_append]
      repeat' (first | with_reducible assumption | with_reducible refine And.intro ?_ ?_ | intro _)
      all_goals first | omega | with_reducible assumption | skip
      refine pw_loop (ι := Nat) (fun i => l.length - i) (fun i => i ≤ l.length)
        (fun i => ⟨[(3, .q (.c (.str (headB 3 n s (.mk vk vn vs vks vl) ++ textFs (l.take i))))), (38, .q (.c (.row 9 (encF l)))), (39, .q (.c (.int .i64 l.length))), (40, .q (.c (.int .i64 i)))],
          [], []⟩) 0 (Nat.zero_le _) ?_ ?_
      · exact Le.sub (by simp [textFs, ba_nil', headB]) (by simp) (by simp)
      intro i hi
      rcases Nat.lt_or_ge i l.length with hlt | hge
      · obtain ⟨t, ht, _, hmem⟩ := drop_at hlt
        have a1 := encF_at ht
        have a2 : ((i : Int) < (l.length : Int)) = True := by simp; omega
        have a4 := size_mem hmem
        have a5 := hkid t hmem
        have a6 := F.enc_len t
        have a7 := okTF_size a5
        have a8 := hz i
        have a9 := textFs_take ht
        rw [ByteArray.size_append] at a8
        simp only [rg, go_sem, seval, Prod.fst, a1, a2, a6, encF_len, q32, ByteArray.size_append, spTxF_md, spTxF_pre, spTxF_alts, spTxF_res, spTxF_out]
        repeat' (first | with_reducible assumption | with_reducible refine And.intro ?_ ?_ | intro _)
        all_goals first | omega | with_reducible assumption | skip
        refine ⟨i + 1, hlt, by omega, ?_⟩
        rw [a9]
        exact Le.sub (by simp [ba_assoc]) (by simp) (by simp)
      · have a2 : ((i : Int) < (l.length : Int)) = False := by simp; omega
        have a3 : l.take i = l := List.take_of_length_le hge
        simp only [rg, go_sem, seval, Prod.fst, a2, a3, encF_len, textF]
    by_cases c4 : kk = 4
    · subst c4
      have a7 : (strs wtab).getD 4 [] = [C.str ⟨#[]⟩] := rfl
      simp only [x_ftextI, F.enc, T.enc, List.cons_append, List.nil_append, rg, go_sem, seval, Prod.fst, hW, wtabC, a7, strs_len, wtab_len, encF_len, q4, q5, ByteArray.size_append, spItoa_md, spItoa_pre, spItoa_alts, spItoa_res, spItoa_out]
      repeat' (first | with_reducible assumption | with_reducible refine And.intro ?_ ?_ | intro _)
      all_goals first | omega | with_reducible assumption | skip
      refine pw_loop (ι := Nat) (fun i => l.length - i) (fun i => i ≤ l.length)
        (fun i => ⟨[(3, .q (.c (.str (headB 4 n s (.mk vk vn vs vks vl) ++ textFs (l.take i))))), (38, .q (.c (.row 9 (encF l)))), (39, .q (.c (.int .i64 l.length))), (40, .q (.c (.int .i64 i)))],
          [], []⟩) 0 (Nat.zero_le _) ?_ ?_
      · exact Le.sub (by simp [textFs, ba_nil', headB]) (by simp) (by simp)
      intro i hi
      rcases Nat.lt_or_ge i l.length with hlt | hge
      · obtain ⟨t, ht, _, hmem⟩ := drop_at hlt
        have a1 := encF_at ht
        have a2 : ((i : Int) < (l.length : Int)) = True := by simp; omega
        have a4 := size_mem hmem
        have a5 := hkid t hmem
        have a6 := F.enc_len t
        have a7 := okTF_size a5
        have a8 := hz i
        have a9 := textFs_take ht
        rw [ByteArray.size_append] at a8
        simp only [rg, go_sem, seval, Prod.fst, a1, a2, a6, encF_len, q32, ByteArray.size_append, spTxF_md, spTxF_pre, spTxF_alts, spTxF_res, spTxF_out]
        repeat' (first | with_reducible assumption | with_reducible refine And.intro ?_ ?_ | intro _)
        all_goals first | omega | with_reducible assumption | skip
        refine ⟨i + 1, hlt, by omega, ?_⟩
        rw [a9]
        exact Le.sub (by simp [ba_assoc]) (by simp) (by simp)
      · have a2 : ((i : Int) < (l.length : Int)) = False := by simp; omega
        have a3 : l.take i = l := List.take_of_length_le hge
        simp only [rg, go_sem, seval, Prod.fst, a2, a3, encF_len, textF]
    by_cases c21 : kk = 21
    · subst c21
      have a7 : (strs wtab).getD 21 [] = [C.str ⟨#[]⟩] := rfl
      simp only [x_ftextI, F.enc, T.enc, List.cons_append, List.nil_append, rg, go_sem, seval, Prod.fst, hW, wtabC, a7, strs_len, wtab_len, encF_len, q6]
      repeat' (first | with_reducible assumption | with_reducible refine And.intro ?_ ?_ | intro _)
      all_goals first | omega | with_reducible assumption | skip
      refine pw_loop (ι := Nat) (fun i => l.length - i) (fun i => i ≤ l.length)
        (fun i => ⟨[(3, .q (.c (.str (headB 21 n s (.mk vk vn vs vks vl) ++ textFs (l.take i))))), (38, .q (.c (.row 9 (encF l)))), (39, .q (.c (.int .i64 l.length))), (40, .q (.c (.int .i64 i)))],
          [], []⟩) 0 (Nat.zero_le _) ?_ ?_
      · exact Le.sub (by simp [textFs, ba_nil', headB]) (by simp) (by simp)
      intro i hi
      rcases Nat.lt_or_ge i l.length with hlt | hge
      · obtain ⟨t, ht, _, hmem⟩ := drop_at hlt
        have a1 := encF_at ht
        have a2 : ((i : Int) < (l.length : Int)) = True := by simp; omega
        have a4 := size_mem hmem
        have a5 := hkid t hmem
        have a6 := F.enc_len t
        have a7 := okTF_size a5
        have a8 := hz i
        have a9 := textFs_take ht
        rw [ByteArray.size_append] at a8
        simp only [rg, go_sem, seval, Prod.fst, a1, a2, a6, encF_len, q32, ByteArray.size_append, spTxF_md, spTxF_pre, spTxF_alts, spTxF_res, spTxF_out]
        repeat' (first | with_reducible assumption | with_reducible refine And.intro ?_ ?_ | intro _)
        all_goals first | omega | with_reducible assumption | skip
        refine ⟨i + 1, hlt, by omega, ?_⟩
        rw [a9]
        exact Le.sub (by simp [ba_assoc]) (by simp) (by simp)
      · have a2 : ((i : Int) < (l.length : Int)) = False := by simp; omega
        have a3 : l.take i = l := List.take_of_length_le hge
        simp only [rg, go_sem, seval, Prod.fst, a2, a3, encF_len, textF]
    have b2 : (kk = 2) = False := eq_false c2
    have b3 : (kk = 3) = False := eq_false c3
    have b4 : (kk = 4) = False := eq_false c4
    have b5 : (kk = 21) = False := eq_false c21
    · simp only [x_ftextI, F.enc, T.enc, List.cons_append, List.nil_append, rg, go_sem, seval, Prod.fst, hW, wtabC, a6, b2, b3, b4, b5, strs_len, wtab_len, encF_len]
      repeat' (first | with_reducible assumption | with_reducible refine And.intro ?_ ?_ | intro _)
      all_goals first | omega | with_reducible assumption | skip
      refine pw_loop (ι := Nat) (fun i => l.length - i) (fun i => i ≤ l.length)
        (fun i => ⟨[(3, .q (.c (.str (headB kk n s (.mk vk vn vs vks vl) ++ textFs (l.take i))))), (38, .q (.c (.row 9 (encF l)))), (39, .q (.c (.int .i64 l.length))), (40, .q (.c (.int .i64 i)))],
          [], []⟩) 0 (Nat.zero_le _) ?_ ?_
      · exact Le.sub (by simp [textFs, ba_nil', headB, c2, c3, c4, c21]) (by simp) (by simp)
      intro i hi
      rcases Nat.lt_or_ge i l.length with hlt | hge
      · obtain ⟨t, ht, _, hmem⟩ := drop_at hlt
        have a1 := encF_at ht
        have a2 : ((i : Int) < (l.length : Int)) = True := by simp; omega
        have a4 := size_mem hmem
        have a5 := hkid t hmem
        have a6 := F.enc_len t
        have a7 := okTF_size a5
        have a8 := hz i
        have a9 := textFs_take ht
        rw [ByteArray.size_append] at a8
        simp only [rg, go_sem, seval, Prod.fst, a1, a2, a6, encF_len, q32, ByteArray.size_append, spTxF_md, spTxF_pre, spTxF_alts, spTxF_res, spTxF_out]
        repeat' (first | with_reducible assumption | with_reducible refine And.intro ?_ ?_ | intro _)
        all_goals first | omega | with_reducible assumption | skip
        refine ⟨i + 1, hlt, by omega, ?_⟩
        rw [a9]
        exact Le.sub (by simp [ba_assoc]) (by simp) (by simp)
      · have a2 : ((i : Int) < (l.length : Int)) = False := by simp; omega
        have a3 : l.take i = l := List.take_of_length_le hge
        simp only [rg, go_sem, seval, Prod.fst, a2, a3, encF_len, textF]
theorem txFI_all (hK : tabK) (hW : get? 1 Globs.G = some wtabC) (k : Nat) : Sound Go.Proofs.Tryd.prog 22 (spTxF k) := by
  induction k with
  | zero => exact Sound.none
  | succ k ih => exact txFI_sound hK hW k ih
theorem txFIV_sound (hK : tabK) (hW : get? 1 Globs.G = some wtabC) : Sound Go.Proofs.Tryd.prog 22 spTxFV := Sound.all (μ := fun t => SizeOf.sizeOf t) (txFI_all hK hW)
theorem filtTextI_sound (hK : tabK) (hW : get? 1 Globs.G = some wtabC) (hG : get? 0 Globs.G = some ktabC) : Sound Go.Proofs.Tryd.prog 12 spFiltText := by
  refine sound_fam (GOK.cons (l := [(22, spTxFV)]) call_FiltOkI (filtOkI_sound hG) (GOK.cons call_ftextI (txFIV_sound hK hW) GOK.nil)) Go.Proofs.Tryd.func12 (c := Go.Proofs.Tryd.f12.body.getD .skip) rfl (n := 8) rfl chk_FiltTextI rs_FiltTextI (fun _ => by simp) ?_ ?_
  · exact spFiltText_inj
  · rintro t ⟨h1, h2, h3⟩
    by_cases c : okF t
    · have h4 := okTF_of c
      have e : ((okFI t 1 16).1 = true) = True := eq_true ((okFI_iff t).2 c)
      simp only [x_FiltTextI, rg, go_sem, seval, Prod.fst, F.enc_len, e, c, filtText, if_true, spFiltOkI_md, spFiltOkI_pre, spFiltOkI_alts, spFiltOkI_res, spFiltOkI_out, spTxFV_md, spTxFV_pre, spTxFV_alts, spTxFV_res, spTxFV_out]
      repeat' (first | with_reducible assumption | with_reducible refine And.intro ?_ ?_ | intro _)
      all_goals first | omega | with_reducible assumption | skip
    · have e : ((okFI t 1 16).1 = true) = False := eq_false (fun h => c ((okFI_iff t).1 h))
      simp only [x_FiltTextI, rg, go_sem, seval, Prod.fst, F.enc_len, e, c, filtText, if_false, spFiltOkI_md, spFiltOkI_pre, spFiltOkI_alts, spFiltOkI_res, spFiltOkI_out]
      repeat' (first | with_reducible assumption | with_reducible refine And.intro ?_ ?_ | intro _)
      all_goals first | omega | with_reducible assumption | skip
end Go.Proofs.Pw
