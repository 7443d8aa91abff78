/- Numbers as texts, texts joined: the library's functions, by what is proved of them. -/
import Derived.Test.YtclhfblnbfmdiaaDoorPwT16
import Derived.Test.YtclhfblnbfmdiaaDoorPwT17
import Derived.Test.YtclhfblnbfmdiaaDoorPwT10
import Derived.KernelRfl
import Derived.Test.YtclhfblnbfmdiaaDoorPwT14
import Derived.Test.YtclhfblnbfmdiaaDoorPwT11
import Derived.Test.YtclhfblnbfmdiaaDoorPwT13
import Derived.Test.YtclhfblnbfmdiaaDoorPwT12
import Derived.Test.YtclhfblnbfmdiaaDoorPwT9
import Derived.ProofKit
import Derived.ChangeOld
import Derived.Below
import Derived.Carry
import Derived.SizedLaws
import Derived.ChangeArms
import Derived.ChangeVars
import Derived.WalkSmall
import Derived.ChangeSlices
import Derived.LaidHandle
import Derived.Lib.LaidTab
import Derived.LaidMore
set_option linter.unusedSimpArgs false
set_option linter.unusedVariables false
set_option linter.unusedSimpArgs false
set_option maxRecDepth 20000
namespace Go.Proofs.Pw
open Go.RowKit Go.Sort
set_option linter.unusedSectionVars false
variable [Globs]
theorem call_Itoa : okCallee Go.Proofs.Tryd.prog 21 = true := by kernel_rfl
/-- The library's table is told. -/
def tabK [Globs] : Prop := ∃ g, Go.Proofs.Tryd.prog.globalNamed "internal/strconv.uint64pow10" = some g ∧ (g, Lib.pow10Tab.map (fun z => Value.int .u64 z)) ∈ Globs.K
theorem Fr.grown (X : Nat → Prop) (w : World) (k : Nat) (os : Array Obj) : Fr X w.heap.size w (grow (w.drewN k) os) :=
  ⟨rfl, rfl, rfl, by simp [grow, World.drewN], fun i hi _ => by
    show (w.heap ++ os)[i]? = w.heap[i]?
    rw [Array.getElem?_append_left hi]⟩
noncomputable def spItoa  : Spec := Spec.of (ι := Int) [false] (fun i => [.d (.one (.int .i64 i))]) (fun i => i64 i) (fun i => [.d (.one (.str (itoaB i)))]) (fun _ => [.gone])
theorem spItoa_inj : ∀ i j : Int, (fun (i : Int) => ([.d (.one (.int .i64 i))] : List AV)) i = (fun (i : Int) => ([.d (.one (.int .i64 i))] : List AV)) j → i = j := by
  intro n n' h
  simpa [strs_eq, T.enc_eq, encL_eq, F.enc_eq, encF_eq, Tk.enc_eq, encTk_eq, Gn.enc_eq, ints_eq] using h
theorem spItoa_md  : (spItoa).md = [false] := rfl
theorem spItoa_pre  (n : Int) : (spItoa).pre [.d (.one (.int .i64 n))] = (i64 n) := Spec.of_pre' spItoa_inj n
theorem spItoa_alts  : (spItoa).alts = none := rfl
theorem spItoa_res  (n : Int) : (spItoa).res [.d (.one (.int .i64 n))] = [.d (.one (.str (itoaB n)))] := Spec.of_res spItoa_inj n
theorem spItoa_out  (n : Int) : (spItoa).out [.d (.one (.int .i64 n))] = [.gone] := Spec.of_out spItoa_inj n
theorem itoa_sound (hK : tabK) : Sound Go.Proofs.Tryd.prog 21 spItoa := by
  rintro args ⟨n, rfl, hn⟩ w S vs fps hG hS hF ha hA
  cases hA with
  | cons h1 h2 =>
    cases h2
    obtain ⟨hr, hfp⟩ := h1
    cases hr
    obtain ⟨g, hg, hk⟩ := hK
    obtain ⟨_, t, x, hx⟩ := hG.2 g _ hk
    have htab : Lib.TabIs Go.Proofs.Tryd.prog w "internal/strconv.uint64pow10" .u64 Lib.pow10Tab := by
      unfold Lib.TabIs World.var?
      rw [hg]
      simp only [Option.bind_some, hx]
    refine (Go.Proofs.Tryd.strconv_Itoa n hn.1 hn.2 w htab).mono ?_
    rintro e w' ⟨rfl, k, os, rfl⟩
    refine ⟨[.d (.one (.str (itoaB n)))], [.gone], (Spec.may_none spItoa_alts).2 ⟨(spItoa_res n).symm, (spItoa_out n).symm⟩, _, S, [fun _ => False], [fun _ => False], rfl, ⟨.str _, fun _ h => h⟩, .cons (fun _ h => h) .nil, fun g hg => .inl hg, fun g hg => ?_, ?_, ?_, Fr.grown _ w k os⟩
    · exact Nat.lt_of_lt_of_le (hS g hg) (Fr.grown (fun _ => False) w k os).size
    · exact ⟨fun g h => h.elim, fun g h => h.elim, fun g h => h.elim, fun g h => h.elim, trivial⟩
    · rintro g ⟨p, hp, hpg⟩
      simp only [List.cons_append, List.nil_append, List.mem_cons, List.not_mem_nil, or_false] at hp
      rcases hp with rfl | rfl <;> exact hpg.elim
theorem Fr.below {B : Nat} (X : Nat → Prop) {w w' : World} (h : Below B w w') : Fr X B w w' := ⟨h.os, h.tape, h.output, h.size, fun k hk _ => h.block k hk⟩
end Go.Proofs.Pw
/- Texts of trees: both programs. -/
set_option linter.unusedSimpArgs false
set_option maxRecDepth 20000
namespace Go.Proofs.Pw
set_option linter.unusedSectionVars false
variable [Globs]
def x_l11Dec : X := (.seq (.reg [⟨some 2, none, .mv (.k (.c (.str ⟨#[]⟩)))⟩] none [0]) (.seq (.seq (.reg [⟨some 4, none, .mv (.t 0)⟩, ⟨some 5, none, .bin false .lss (.t 4) (.k (.c (.int .i64 (-9223372036854775807))))⟩] none [0, 5]) (.cond (.t 5) (.seq (.reg [⟨some 2, none, .mv (.k (.c (.str ⟨#[45, 57, 50, 50, 51, 51, 55, 50, 48, 51, 54, 56, 53, 52, 55, 55, 53, 56, 48, 56]⟩)))⟩] none [2]) .ret) .skip)) (.seq (.seq (.reg [⟨some 6, none, .mv (.t 0)⟩, ⟨some 7, none, .bin false .lss (.t 6) (.k (.c (.int .i64 0)))⟩] none [0, 7]) (.cond (.t 7) (.seq (.reg [⟨some 8, none, .mv (.t 0)⟩, ⟨some 9, none, .bin false .sub (.k (.c (.int .i64 0))) (.t 8)⟩, ⟨some 10, none, .call 42 [(.t 9)]⟩, ⟨some 11, none, .bin false .add (.k (.c (.str ⟨#[45]⟩))) (.t 10)⟩, ⟨some 2, none, .mv (.t 11)⟩] none [2]) .ret) .skip)) (.seq (.reg [⟨some 3, none, .mv (.k (.c (.str ⟨#[]⟩)))⟩] none [0, 3]) (.seq (.block 0 (.loop (.seq (.seq (.reg [⟨some 12, none, .mv (.t 0)⟩, ⟨some 13, none, .bin false .gtr (.t 12) (.k (.c (.int .i64 9)))⟩] none [0, 3, 13]) (.cond (.t 13) .skip (.exit 0))) (.block 1 (.seq (.reg [⟨some 14, none, .mv (.t 0)⟩, ⟨some 15, none, .bin false .rem (.t 14) (.k (.c (.int .i64 10)))⟩, ⟨some 16, none, .bin false .add (.k (.c (.int .i64 48))) (.t 15)⟩, ⟨some 17, none, .conv .u8 (.t 16)⟩, ⟨some 18, none, .bsl 1 [((.t 17), none)]⟩, ⟨some 19, none, .bts (.t 18)⟩, ⟨some 20, none, .mv (.t 3)⟩, ⟨some 21, none, .bin false .add (.t 19) (.t 20)⟩, ⟨some 3, none, .mv (.t 21)⟩] none [0, 3]) (.reg [⟨some 22, none, .mv (.t 0)⟩, ⟨some 23, none, .bin false .quo (.t 22) (.k (.c (.int .i64 10)))⟩, ⟨some 0, none, .mv (.t 23)⟩] none [0, 3])))))) (.seq (.reg [⟨some 24, none, .mv (.t 0)⟩, ⟨some 25, none, .bin false .add (.k (.c (.int .i64 48))) (.t 24)⟩, ⟨some 26, none, .conv .u8 (.t 25)⟩, ⟨some 27, none, .bsl 1 [((.t 26), none)]⟩, ⟨some 28, none, .bts (.t 27)⟩, ⟨some 29, none, .mv (.t 3)⟩, ⟨some 30, none, .bin false .add (.t 28) (.t 29)⟩, ⟨some 2, none, .mv (.t 30)⟩] none [2]) .ret))))))
theorem chk_l11Dec : chkX Go.Proofs.Tryd.prog 31 (Go.Proofs.Tryd.f42.body.getD .skip) x_l11Dec = true := by kernel_rfl
theorem rs_l11Dec : okRs Go.Proofs.Tryd.prog Go.Proofs.Tryd.f42.results.toList [.tmp 2] = true := by kernel_rfl
theorem call_l11Dec : okCallee Go.Proofs.Tryd.prog 42 = true := by kernel_rfl
attribute [go_sem] bytesL flatC
theorem bytesS1 (n : Int) : (bytesS [n]).size = 1 := rfl
noncomputable def spDec (k:Nat) : Spec := Spec.of (ι := Int) [false] (fun i => [.d (.one (.int .i64 i))]) (fun i => (-1000000 ≤ i ∧ i ≤ 1000000) ∧ (if i < 0 then 1 else 0) < k) (fun i => [.d (.one (.str (itoaB i)))]) (fun _ => [.gone])
theorem spDec_inj : ∀ i j : Int, (fun (i : Int) => ([.d (.one (.int .i64 i))] : List AV)) i = (fun (i : Int) => ([.d (.one (.int .i64 i))] : List AV)) j → i = j := by
  intro n n' h
  simpa [strs_eq, T.enc_eq, encL_eq, F.enc_eq, encF_eq, Tk.enc_eq, encTk_eq, Gn.enc_eq, ints_eq] using h
theorem spDec_md (k:Nat) : (spDec k).md = [false] := rfl
theorem spDec_pre (k:Nat) (n : Int) : (spDec k).pre [.d (.one (.int .i64 n))] = ((-1000000 ≤ n ∧ n ≤ 1000000) ∧ (if n < 0 then 1 else 0) < k) := Spec.of_pre' spDec_inj n
theorem spDec_alts (k:Nat) : (spDec k).alts = none := rfl
theorem spDec_res (k:Nat) (n : Int) : (spDec k).res [.d (.one (.int .i64 n))] = [.d (.one (.str (itoaB n)))] := Spec.of_res spDec_inj n
theorem spDec_out (k:Nat) (n : Int) : (spDec k).out [.d (.one (.int .i64 n))] = [.gone] := Spec.of_out spDec_inj n
theorem dec_sound (k : Nat) (hS : Sound Go.Proofs.Tryd.prog 42 (spDec k)) : Sound Go.Proofs.Tryd.prog 42 (spDec (k + 1)) := by
  refine sound_fam (GOK.cons call_l11Dec hS GOK.nil) Go.Proofs.Tryd.func42 (c := Go.Proofs.Tryd.f42.body.getD .skip) rfl (n := 31) rfl chk_l11Dec rs_l11Dec (fun _ => by simp) ?_ ?_
  · exact spDec_inj
  · rintro n ⟨⟨h1, h2⟩, h3⟩
    have a1 : (n < -9223372036854775807) = False := eq_false (by omega)
    by_cases c : n < 0
    · have a2 : (n < 0) = True := eq_true c
      have e := itoaB_neg c
      have z := itoaB_size (n := 0 - n) (by omega) (by omega)
      have e1 : (ByteArray.mk #[45]).size = 1 := rfl
      have m : (if (0 : Int) - n < 0 then 1 else 0) < k := by rw [if_neg (by omega)]; rw [if_pos c] at h3; omega
      simp only [x_l11Dec, rg, go_sem, seval, a1, a2, e1, spDec_md, spDec_pre, spDec_alts, spDec_res, spDec_out]
      repeat' (first | with_reducible assumption | with_reducible refine And.intro ?_ ?_ | intro _)
      all_goals first | omega | assumption | exact e | exact e.symm | skip
    · have a2 : (n < 0) = False := eq_false c
      simp only [x_l11Dec, rg, go_sem, seval, a1, a2]
      refine pw_loop (ι := Int × ByteArray) (fun i => i.1.toNat) (fun i => 0 ≤ i.1 ∧ i.1 ≤ n ∧ i.2.size + i.1 ≤ n ∧ decB i.1.toNat ++ i.2 = itoaB n)
        (fun i => ⟨[(0, .q (.c (.int .i64 i.1))), (3, .q (.c (.str i.2)))], [], []⟩) (n, ⟨#[]⟩) ⟨by omega, by omega, by simp [ByteArray.size], by rw [itoaB_pos (by omega), ba_nil']⟩ (Le.refl _) ?_
      rintro ⟨m, out⟩ ⟨g1, g2, g3, g4⟩
      simp only at g1 g2 g3 g4
      by_cases c2 : 9 < m
      · have a3 : (9 < m) = True := eq_true c2
        have e1 : m.tdiv 10 = m / 10 := Int.tdiv_eq_ediv_of_nonneg (by omega)
        have e2 : m.tmod 10 = m % 10 := Int.tmod_eq_emod_of_nonneg (by omega)
        have e3 : (m / 10).toNat = m.toNat / 10 := by omega
        have e4 : ((48 + m.toNat % 10 : Nat) : Int) = 48 + m % 10 := by omega
        have e5 := decB_step (u := m.toNat) (by omega) out
        rw [e4, ← e3] at e5
        simp only [rg, go_sem, seval, a3, e1, e2, bytesS1]
        repeat' (first | with_reducible assumption | with_reducible refine And.intro ?_ ?_ | intro _)
        all_goals first | omega | skip
        exact ⟨(m / 10, bytesS [48 + m % 10] ++ out), ⟨by omega, by omega, by simp only [ByteArray.size_append, bytesS1]; omega, by simp only; rw [← e5]; exact g4⟩, by simp only; omega, Le.refl _⟩
      · have a3 : (9 < m) = False := eq_false c2
        have e4 : ((48 + m.toNat : Nat) : Int) = 48 + m := by omega
        have e5 := decB_small (u := m.toNat) (by omega)
        rw [e4] at e5
        rw [e5] at g4
        simp only [rg, go_sem, seval, a3, bytesS1]
        repeat' (first | with_reducible assumption | with_reducible refine And.intro ?_ ?_ | intro _)
        all_goals first | omega | exact g4 | exact g4.symm | skip
theorem dec_all (k : Nat) : Sound Go.Proofs.Tryd.prog 42 (spDec k) := by
  induction k with
  | zero => exact Sound.none
  | succ k ih => exact dec_sound k ih
noncomputable def spDecV  : Spec := Spec.of (ι := Int) [false] (fun i => [.d (.one (.int .i64 i))]) (fun i => -1000000 ≤ i ∧ i ≤ 1000000) (fun i => [.d (.one (.str (itoaB i)))]) (fun _ => [.gone])
theorem spDecV_inj : ∀ i j : Int, (fun (i : Int) => ([.d (.one (.int .i64 i))] : List AV)) i = (fun (i : Int) => ([.d (.one (.int .i64 i))] : List AV)) j → i = j := by
  intro n n' h
  simpa [strs_eq, T.enc_eq, encL_eq, F.enc_eq, encF_eq, Tk.enc_eq, encTk_eq, Gn.enc_eq, ints_eq] using h
theorem spDecV_md  : (spDecV).md = [false] := rfl
theorem spDecV_pre  (n : Int) : (spDecV).pre [.d (.one (.int .i64 n))] = (-1000000 ≤ n ∧ n ≤ 1000000) := Spec.of_pre' spDecV_inj n
theorem spDecV_alts  : (spDecV).alts = none := rfl
theorem spDecV_res  (n : Int) : (spDecV).res [.d (.one (.int .i64 n))] = [.d (.one (.str (itoaB n)))] := Spec.of_res spDecV_inj n
theorem spDecV_out  (n : Int) : (spDecV).out [.d (.one (.int .i64 n))] = [.gone] := Spec.of_out spDecV_inj n
theorem decV_sound : Sound Go.Proofs.Tryd.prog 42 spDecV := Sound.all (μ := fun n => if n < 0 then 1 else 0) dec_all
end Go.Proofs.Pw
/- Texts of ways, of trees that may be none, and of edits: both programs. -/
set_option linter.unusedSimpArgs false
set_option maxRecDepth 20000
namespace Go.Proofs.Pw
set_option linter.unusedSectionVars false
variable [Globs]
def x_l3Text : X := (.seq (.reg [⟨some 1, none, .box (.t 0) (some 3)⟩, ⟨some 2, none, .mv (.k (.c (.str ⟨#[]⟩)))⟩] none [1]) (.seq (.seq (.reg [⟨some 3, none, .fa (.t 1) 0⟩, ⟨some 4, none, .load (.t 3) none⟩] none [1, 4]) (.cond (.t 4) (.seq (.reg [⟨some 5, none, .fa (.t 1) 1⟩, ⟨some 6, none, .load (.t 5) none⟩, ⟨some 7, none, .bin false .add (.k (.c (.str ⟨#[46]⟩))) (.t 6)⟩, ⟨some 2, none, .mv (.t 7)⟩] none [2]) .ret) .skip)) (.seq (.reg [⟨some 8, none, .fa (.t 1) 2⟩, ⟨some 9, none, .load (.t 8) none⟩, ⟨some 10, none, .call 42 [(.t 9)]⟩, ⟨some 11, none, .bin false .add (.k (.c (.str ⟨#[91]⟩))) (.t 10)⟩, ⟨some 12, none, .bin false .add (.t 11) (.k (.c (.str ⟨#[93]⟩)))⟩, ⟨some 2, none, .mv (.t 12)⟩] none [2]) .ret)))
theorem chk_l3Text : chkX Go.Proofs.Tryd.prog 13 (Go.Proofs.Tryd.f23.body.getD .skip) x_l3Text = true := by kernel_rfl
theorem rs_l3Text : okRs Go.Proofs.Tryd.prog Go.Proofs.Tryd.f23.results.toList [.tmp 2] = true := by kernel_rfl
theorem call_l3Text : okCallee Go.Proofs.Tryd.prog 23 = true := by kernel_rfl
def x_PathText : X := (.seq (.reg [⟨some 2, none, .mv (.k (.c (.str ⟨#[]⟩)))⟩] none [0]) (.seq (.seq (.reg [⟨some 5, none, .mv (.t 0)⟩, ⟨some 6, none, .call 22 [(.t 5)]⟩, ⟨some 7, none, .not (.t 6)⟩] none [0, 7]) (.cond (.t 7) (.seq (.reg [⟨some 2, none, .mv (.k (.c (.str ⟨#[]⟩)))⟩] none [2]) .ret) .skip)) (.seq (.reg [⟨some 3, none, .mv (.k (.c (.str ⟨#[36]⟩)))⟩] none [0, 3]) (.seq (.seq (.reg [⟨some 4, none, .mv (.k (.c (.int .i64 0)))⟩] none [0, 3, 4]) (.block 0 (.loop (.seq (.seq (.reg [⟨some 8, none, .mv (.t 4)⟩, ⟨some 9, none, .mv (.t 0)⟩, ⟨some 10, none, .len (.t 9) false⟩, ⟨some 11, none, .bin false .lss (.t 8) (.t 10)⟩] none [0, 3, 4, 11]) (.cond (.t 11) .skip (.exit 0))) (.seq (.block 1 (.reg [⟨some 14, none, .mv (.t 3)⟩, ⟨some 15, none, .mv (.t 0)⟩, ⟨some 16, none, .mv (.t 4)⟩, ⟨some 17, none, .ia (.t 15) (.t 16) 3⟩, ⟨some 18, none, .load (.t 17) (some 3)⟩, ⟨some 19, none, .call 23 [(.t 18)]⟩, ⟨some 20, none, .bin false .add (.t 14) (.t 19)⟩, ⟨some 3, none, .mv (.t 20)⟩] none [0, 3, 4])) (.reg [⟨some 12, none, .mv (.t 4)⟩, ⟨some 13, none, .bin false .add (.t 12) (.k (.c (.int .i64 1)))⟩, ⟨some 4, none, .mv (.t 13)⟩] none [0, 3, 4])))))) (.seq (.reg [⟨some 21, none, .mv (.t 3)⟩, ⟨some 2, none, .mv (.t 21)⟩] none [2]) .ret)))))
theorem chk_PathText : chkX Go.Proofs.Tryd.prog 22 (Go.Proofs.Tryd.f9.body.getD .skip) x_PathText = true := by kernel_rfl
theorem rs_PathText : okRs Go.Proofs.Tryd.prog Go.Proofs.Tryd.f9.results.toList [.tmp 2] = true := by kernel_rfl
theorem call_PathText : okCallee Go.Proofs.Tryd.prog 9 = true := by kernel_rfl
def x_PathTextI : X := (.seq (.reg [⟨some 2, none, .mv (.k (.c (.str ⟨#[]⟩)))⟩] none [0]) (.seq (.seq (.reg [⟨some 6, none, .mv (.t 0)⟩, ⟨some 7, none, .call 20 [(.t 6)]⟩, ⟨some 8, none, .not (.t 7)⟩] none [0, 8]) (.cond (.t 8) (.seq (.reg [⟨some 2, none, .mv (.k (.c (.str ⟨#[]⟩)))⟩] none [2]) .ret) .skip)) (.seq (.reg [⟨some 3, none, .mv (.k (.c (.str ⟨#[36]⟩)))⟩] none [0, 3]) (.seq (.seq (.reg [⟨some 9, none, .mv (.t 0)⟩, ⟨some 10, none, .len (.t 9) false⟩, ⟨some 11, none, .mv (.k (.c (.int .i64 0)))⟩] none [3, 9, 10, 11]) (.block 0 (.loop (.seq (.reg [⟨some 12, none, .bin false .lss (.t 11) (.t 10)⟩] none [3, 9, 10, 11, 12]) (.seq (.cond (.t 12) .skip (.exit 0)) (.seq (.block 1 (.seq (.reg [⟨some 13, none, .ia (.t 9) (.t 11) 3⟩, ⟨some 14, none, .load (.t 13) (some 3)⟩, ⟨some 5, none, .alloc [(.c (.bool false)), (.c (.str ⟨#[]⟩)), (.c (.int .i64 0))]⟩, ⟨none, none, .st (.t 5) (.t 14) (some 3)⟩] none [3, 5, 9, 10, 11]) (.seq (.reg [⟨some 15, none, .fa (.t 5) 0⟩, ⟨some 16, none, .load (.t 15) none⟩] none [3, 5, 9, 10, 11, 16]) (.cond (.t 16) (.reg [⟨some 17, none, .mv (.t 3)⟩, ⟨some 18, none, .fa (.t 5) 1⟩, ⟨some 19, none, .load (.t 18) none⟩, ⟨some 20, none, .bin false .add (.k (.c (.str ⟨#[46]⟩))) (.t 19)⟩, ⟨some 21, none, .bin false .add (.t 17) (.t 20)⟩, ⟨some 3, none, .mv (.t 21)⟩] none [3, 9, 10, 11]) (.reg [⟨some 22, none, .mv (.t 3)⟩, ⟨some 23, none, .fa (.t 5) 2⟩, ⟨some 24, none, .load (.t 23) none⟩, ⟨some 25, none, .call 21 [(.t 24)]⟩, ⟨some 26, none, .bin false .add (.k (.c (.str ⟨#[91]⟩))) (.t 25)⟩, ⟨some 27, none, .bin false .add (.t 26) (.k (.c (.str ⟨#[93]⟩)))⟩, ⟨some 28, none, .bin false .add (.t 22) (.t 27)⟩, ⟨some 3, none, .mv (.t 28)⟩] none [3, 9, 10, 11]))))) (.reg [⟨some 29, none, .bin false .add (.t 11) (.k (.c (.int .i64 1)))⟩, ⟨some 11, none, .mv (.t 29)⟩] none [3, 9, 10, 11]))))))) (.seq (.reg [⟨some 30, none, .mv (.t 3)⟩, ⟨some 2, none, .mv (.t 30)⟩] none [2]) .ret)))))
theorem chk_PathTextI : chkX Go.Proofs.Tryd.prog 31 (Go.Proofs.Tryd.f8.body.getD .skip) x_PathTextI = true := by kernel_rfl
theorem rs_PathTextI : okRs Go.Proofs.Tryd.prog Go.Proofs.Tryd.f8.results.toList [.tmp 2] = true := by kernel_rfl
theorem call_PathTextI : okCallee Go.Proofs.Tryd.prog 8 = true := by kernel_rfl
theorem q46 : (ByteArray.mk #[46]).size = 1 := rfl
theorem q91 : (ByteArray.mk #[91]).size = 1 := rfl
theorem q93 : (ByteArray.mk #[93]).size = 1 := rfl
theorem stp_num {s : Stp} (h : stpOk s) (c : ¬ s.map = true) : -60 ≤ s.at' ∧ s.at' ≤ 59 := by
  unfold stpOk at h
  rw [if_neg c] at h; exact h.2
theorem stp_key {s : Stp} (h : stpOk s) : s.key.size ≤ 12 := by
  unfold stpOk at h
  split at h
  · exact h.1.2
  · rw [h.1]; decide
noncomputable def spL3Text  : Spec := Spec.of (ι := Stp) [false] (fun i => [.d (.agg i.enc)]) (fun i => stpOk i) (fun i => [.d (.one (.str (stepB i)))]) (fun _ => [.gone])
theorem spL3Text_inj : ∀ i j : Stp, (fun (i : Stp) => ([.d (.agg i.enc)] : List AV)) i = (fun (i : Stp) => ([.d (.agg i.enc)] : List AV)) j → i = j := by
  intro s s' h
  simpa [strs_eq, T.enc_eq, encL_eq, F.enc_eq, encF_eq, Tk.enc_eq, encTk_eq, Gn.enc_eq, ints_eq, encS_eq, encE_eq, Stp.enc_eq] using h
theorem spL3Text_md  : (spL3Text).md = [false] := rfl
theorem spL3Text_pre  (s : Stp) : (spL3Text).pre [.d (.agg s.enc)] = (stpOk s) := Spec.of_pre' spL3Text_inj s
theorem spL3Text_alts  : (spL3Text).alts = none := rfl
theorem spL3Text_res  (s : Stp) : (spL3Text).res [.d (.agg s.enc)] = [.d (.one (.str (stepB s)))] := Spec.of_res spL3Text_inj s
theorem spL3Text_out  (s : Stp) : (spL3Text).out [.d (.agg s.enc)] = [.gone] := Spec.of_out spL3Text_inj s
theorem l3Text_sound : Sound Go.Proofs.Tryd.prog 23 spL3Text := by
  refine sound_fam (GOK.cons call_l11Dec decV_sound GOK.nil) Go.Proofs.Tryd.func23 (c := Go.Proofs.Tryd.f23.body.getD .skip) rfl (n := 13) rfl chk_l3Text rs_l3Text (fun _ => by simp) ?_ ?_
  · exact spL3Text_inj
  · intro s h
    change stpOk s at h
    have hk := stp_key h
    have hn := stp_num h
    obtain ⟨m, k, n⟩ := s
    cases m with
    | true =>
      simp only at hk
      simp only [x_l3Text, rg, go_sem, seval, Prod.fst, Stp.enc, stepB, q46, if_true]
      repeat' (first | with_reducible assumption | with_reducible refine And.intro ?_ ?_ | intro _)
      all_goals first | omega | with_reducible assumption | skip
    | false =>
      have hn' := hn (by simp)
      simp only at hn' hk
      have z := itoaB_size (n := n) (by omega) (by omega)
      simp only [x_l3Text, rg, go_sem, seval, Prod.fst, Stp.enc, stepB, q91, q93, ByteArray.size_append, Bool.false_eq_true, if_false, spDecV_md, spDecV_pre, spDecV_alts, spDecV_res, spDecV_out]
      repeat' (first | with_reducible assumption | with_reducible refine And.intro ?_ ?_ | intro _)
      all_goals first | omega | with_reducible assumption | skip
noncomputable def spPathText  : Spec := Spec.of (ι := (List Stp)) [false] (fun i => [.d (.one (.row 3 (encS i)))]) (fun i => wayFit i) (fun i => [.d (.one (.str (pathText i)))]) (fun _ => [.gone])
theorem spPathText_inj : ∀ i j : (List Stp), (fun (i : (List Stp)) => ([.d (.one (.row 3 (encS i)))] : List AV)) i = (fun (i : (List Stp)) => ([.d (.one (.row 3 (encS i)))] : List AV)) j → i = j := by
  intro p p' h
  simpa [strs_eq, T.enc_eq, encL_eq, F.enc_eq, encF_eq, Tk.enc_eq, encTk_eq, Gn.enc_eq, ints_eq, encS_eq, encE_eq, Stp.enc_eq] using h
theorem spPathText_md  : (spPathText).md = [false] := rfl
theorem spPathText_pre  (p : List Stp) : (spPathText).pre [.d (.one (.row 3 (encS p)))] = (wayFit p) := Spec.of_pre' spPathText_inj p
theorem spPathText_alts  : (spPathText).alts = none := rfl
theorem spPathText_res  (p : List Stp) : (spPathText).res [.d (.one (.row 3 (encS p)))] = [.d (.one (.str (pathText p)))] := Spec.of_res spPathText_inj p
theorem spPathText_out  (p : List Stp) : (spPathText).out [.d (.one (.row 3 (encS p)))] = [.gone] := Spec.of_out spPathText_inj p
theorem pathText_sound : Sound Go.Proofs.Tryd.prog 9 spPathText := by
  refine sound_fam (GOK.cons (l := [(23, spL3Text)]) call_PathOk PathOk_sound (GOK.cons call_l3Text l3Text_sound GOK.nil)) Go.Proofs.Tryd.func9 (c := Go.Proofs.Tryd.f9.body.getD .skip) rfl (n := 22) rfl chk_PathText rs_PathText (fun _ => by simp) ?_ ?_
  · exact spPathText_inj
  · intro p h
    change wayFit p at h
    by_cases c : wayOk p
    · have hl := c.2
      have hz := fun i => stepsB_take_size c i
      have e1 : (ByteArray.mk #[36]).size = 1 := rfl
      simp only [x_PathText, rg, go_sem, seval, Prod.fst, c, encS_len, spPathOk_md, spPathOk_pre, spPathOk_alts, spPathOk_res, spPathOk_out]
      repeat' (first | with_reducible assumption | with_reducible refine And.intro ?_ ?_ | intro _)
      all_goals first | omega | with_reducible assumption | skip
      refine pw_loop (ι := Nat) (fun i => p.length - i) (fun i => i ≤ p.length)
        (fun i => ⟨[(0, .q (.c (.row 3 (encS p)))), (3, .q (.c (.str (⟨#[36]⟩ ++ stepsB (p.take i))))), (4, .q (.c (.int .i64 i)))], [], []⟩) 0 (Nat.zero_le _) (Le.of_eq (by simp [stepsB, ba_nil'])) ?_
      intro i hi
      rcases Nat.lt_or_ge i p.length with hlt | hge
      · obtain ⟨s, hs, _, hmem⟩ := drop_at hlt
        have a1 := encS_at hs
        have a2 : ((i : Int) < (p.length : Int)) = True := by simp; omega
        have a3 := c.1 s hmem
        have a4 := stepB_size a3
        have a5 := hz i
        have a6 : s.enc.length = 3 := rfl
        have a7 := stepsB_take hs
        simp only [rg, go_sem, seval, Prod.fst, a1, a2, a6, encS_len, e1, ByteArray.size_append, spL3Text_md, spL3Text_pre, spL3Text_alts, spL3Text_res, spL3Text_out]
        repeat' (first | with_reducible assumption | with_reducible refine And.intro ?_ ?_ | intro _)
        all_goals first | omega | with_reducible assumption | skip
        refine ⟨i + 1, hlt, by omega, Le.of_eq ?_⟩
        rw [a7]
        simp [ba_assoc]
      · have a2 : ((i : Int) < (p.length : Int)) = False := by simp; omega
        have a3 : p.take i = p := List.take_of_length_le hge
        simp only [rg, go_sem, seval, Prod.fst, a2, a3, encS_len, pathText, c, if_true]
    · simp only [x_PathText, rg, go_sem, seval, Prod.fst, c, encS_len, pathText, if_false, spPathOk_md, spPathOk_pre, spPathOk_alts, spPathOk_res, spPathOk_out]
      repeat' (first | with_reducible assumption | with_reducible refine And.intro ?_ ?_ | intro _)
      all_goals first | omega | with_reducible assumption | skip
theorem pathTextI_sound (hK : tabK) : Sound Go.Proofs.Tryd.prog 8 spPathText := by
  refine sound_fam (GOK.cons (l := [(21, spItoa)]) call_PathOkI PathOkI_sound (GOK.cons call_Itoa (itoa_sound hK) GOK.nil)) Go.Proofs.Tryd.func8 (c := Go.Proofs.Tryd.f8.body.getD .skip) rfl (n := 31) rfl chk_PathTextI rs_PathTextI (fun _ => by simp) ?_ ?_
  · exact spPathText_inj
  · intro p h
    change wayFit p at h
    by_cases c : wayOk p
    · have hl := c.2
      have hz := fun i => stepsB_take_size c i
      have e1 : (ByteArray.mk #[36]).size = 1 := rfl
      simp only [x_PathTextI, rg, go_sem, seval, Prod.fst, c, encS_len, spPathOkI_md, spPathOkI_pre, spPathOkI_alts, spPathOkI_res, spPathOkI_out]
      repeat' (first | with_reducible assumption | with_reducible refine And.intro ?_ ?_ | intro _)
      all_goals first | omega | with_reducible assumption | skip
      refine pw_loop (ι := Nat) (fun i => p.length - i) (fun i => i ≤ p.length)
        (fun i => ⟨[(3, .q (.c (.str (⟨#[36]⟩ ++ stepsB (p.take i))))), (9, .q (.c (.row 3 (encS p)))), (10, .q (.c (.int .i64 p.length))), (11, .q (.c (.int .i64 i)))], [], []⟩) 0 (Nat.zero_le _) (Le.of_eq (by simp [stepsB, ba_nil'])) ?_
      intro i hi
      rcases Nat.lt_or_ge i p.length with hlt | hge
      · obtain ⟨s, hs, _, hmem⟩ := drop_at hlt
        have a1 := encS_at hs
        have a2 : ((i : Int) < (p.length : Int)) = True := by simp; omega
        have a3 := c.1 s hmem
        have a4 := stepB_size a3
        have a5 := hz i
        have a7 := stepsB_take hs
        have hk := stp_key a3
        have hn := stp_num a3
        obtain ⟨m, k, n⟩ := s
        cases m with
        | true =>
          simp only at hk
          simp only [stepB, if_true] at a7
          simp only [rg, go_sem, seval, Prod.fst, a1, a2, encS_len, Stp.enc, e1, q46, ByteArray.size_append]
          repeat' (first | with_reducible assumption | with_reducible refine And.intro ?_ ?_ | intro _)
          all_goals first | omega | with_reducible assumption | skip
          refine ⟨i + 1, hlt, by omega, ?_⟩
          rw [a7]
          exact Le.sub (by simp [ba_assoc]) (by simp) (by simp)
        | false =>
          have hn' := hn (by simp)
          simp only at hn' hk
          have z := itoaB_size (n := n) (by omega) (by omega)
          have z2 : i64 n := by unfold i64; omega
          simp only [stepB, Bool.false_eq_true, if_false] at a7
          simp only [rg, go_sem, seval, Prod.fst, a1, a2, encS_len, Stp.enc, e1, q91, q93, ByteArray.size_append, spItoa_md, spItoa_pre, spItoa_alts, spItoa_res, spItoa_out]
          repeat' (first | with_reducible assumption | with_reducible refine And.intro ?_ ?_ | intro _)
          all_goals first | omega | with_reducible assumption | skip
          refine ⟨i + 1, hlt, by omega, ?_⟩
          rw [a7]
          exact Le.sub (by simp [ba_assoc]) (by simp) (by simp)
      · have a2 : ((i : Int) < (p.length : Int)) = False := by simp; omega
        have a3 : p.take i = p := List.take_of_length_le hge
        simp only [rg, go_sem, seval, Prod.fst, a2, a3, encS_len, pathText, c, if_true]
    · simp only [x_PathTextI, rg, go_sem, seval, Prod.fst, c, encS_len, pathText, if_false, spPathOkI_md, spPathOkI_pre, spPathOkI_alts, spPathOkI_res, spPathOkI_out]
      repeat' (first | with_reducible assumption | with_reducible refine And.intro ?_ ?_ | intro _)
      all_goals first | omega | with_reducible assumption | skip
end Go.Proofs.Pw
/- Ways: the given program's PathPut, its answer told as data. -/
set_option linter.unusedSimpArgs false
set_option maxRecDepth 20000
namespace Go.Proofs.Pw
set_option linter.unusedSectionVars false
variable [Globs]
noncomputable def spPathPutI  : Spec := Spec.of (ι := T × (List Stp) × T) [false, false, false] (fun i => [.d (.agg i.1.enc), .d (.one (.row 3 (encS i.2.1))), .d (.agg i.2.2.enc)]) (fun i => i.1.fit 140737488355328 ∧ sizeT i.1 ≤ 1048577 ∧ wayFit i.2.1 ∧ i.2.2.fit 140737488355328 ∧ sizeT i.2.2 ≤ 1048577) (fun i => [.d (.agg (optT (pathPutO i.1 i.2.1 i.2.2)).enc), .d (.one (.bool (decide ((pathPutO i.1 i.2.1 i.2.2).isSome = true))))]) (fun _ => [.gone, .gone, .gone])
theorem spPathPutI_inj : ∀ i j : T × (List Stp) × T, (fun (i : T × (List Stp) × T) => ([.d (.agg i.1.enc), .d (.one (.row 3 (encS i.2.1))), .d (.agg i.2.2.enc)] : List AV)) i = (fun (i : T × (List Stp) × T) => ([.d (.agg i.1.enc), .d (.one (.row 3 (encS i.2.1))), .d (.agg i.2.2.enc)] : List AV)) j → i = j := by
  rintro ⟨v, p, x⟩ ⟨v', p', x'⟩ h
  simp only [Prod.mk.injEq]
  simpa [strs_eq, T.enc_eq, encL_eq, F.enc_eq, encF_eq, Tk.enc_eq, encTk_eq, Gn.enc_eq, ints_eq, encS_eq] using h
theorem spPathPutI_md  : (spPathPutI).md = [false, false, false] := rfl
theorem spPathPutI_pre  (v : T) (p : List Stp) (x : T) : (spPathPutI).pre [.d (.agg v.enc), .d (.one (.row 3 (encS p))), .d (.agg x.enc)] = (v.fit 140737488355328 ∧ sizeT v ≤ 1048577 ∧ wayFit p ∧ x.fit 140737488355328 ∧ sizeT x ≤ 1048577) := Spec.of_pre' spPathPutI_inj (v, p, x)
theorem spPathPutI_alts  : (spPathPutI).alts = none := rfl
theorem spPathPutI_res  (v : T) (p : List Stp) (x : T) : (spPathPutI).res [.d (.agg v.enc), .d (.one (.row 3 (encS p))), .d (.agg x.enc)] = [.d (.agg (optT (pathPutO v p x)).enc), .d (.one (.bool (decide ((pathPutO v p x).isSome = true))))] := Spec.of_res spPathPutI_inj (v, p, x)
theorem spPathPutI_out  (v : T) (p : List Stp) (x : T) : (spPathPutI).out [.d (.agg v.enc), .d (.one (.row 3 (encS p))), .d (.agg x.enc)] = [.gone, .gone, .gone] := Spec.of_out spPathPutI_inj (v, p, x)
set_option maxHeartbeats 2000000 in
theorem PathPutI_sound : Sound Go.Proofs.Tryd.prog 11 spPathPutI := by
  refine sound_fam (GOK.cons (l := [(20, spPathOkI), (26, spPthPutT), (25, spTold)]) call_ValOkI valOkI_sound (GOK.cons call_PathOkI PathOkI_sound (GOK.cons call_pathPut pthPutT_sound (GOK.cons call_told told_sound GOK.nil)))) Go.Proofs.Tryd.func11 (c := Go.Proofs.Tryd.f11.body.getD .skip) rfl (n := 31) rfl chk_PathPutI rs_PathPutI (fun _ => by simp) ?_ ?_
  · exact spPathPutI_inj
  · rintro ⟨v, p, x⟩ ⟨h1, h2, h3, h4, h5⟩
    simp only at h1 h2 h3 h4 h5
    have f0 := T.enc_len v
    have fx := T.enc_len x
    by_cases c1 : okT v
    · have d1 : ((okI v 1 60).1 = true) = True := eq_true ((okI_iff _).2 c1)
      by_cases c2 : wayOk p
      · have d2 := eq_true c2
        by_cases c3 : okT x
        · have e := pathPutO_ok2 c1 c2 c3
          have d3 : ((okI x 1 60).1 = true) = True := eq_true ((okI_iff _).2 c3)
          have ot : okT (optT (wputO v p x)) := optT_ok fun y h => wputO_ok c3 h
          have w1 := toldT_wput (v := v) (p := p) c3
          have ft := T.enc_len (optT (wputO v p x))
          have g1 := T.fit_mono (B := 2000000) (by decide) (okT_fit ot)
          have ot' := eq_true ot
          simp only [x_PathPutI, rg, go_sem, seval, Prod.fst, f0, fx, ft, e, d1, d2, d3, w1, ot', spValOkI_md, spValOkI_pre, spValOkI_alts, spValOkI_res, spValOkI_out, spPathOkI_md, spPathOkI_pre, spPathOkI_alts, spPathOkI_res, spPathOkI_out, spPthPutT_md, spPthPutT_pre, spPthPutT_alts, spPthPutT_res, spPthPutT_out, spTold_md, spTold_pre, spTold_alts, spTold_res, spTold_out, decide_eq_true_eq, and_true]
          repeat' (first | with_reducible assumption | with_reducible refine And.intro ?_ ?_ | intro _)
          all_goals first | omega | assumption | exact c2.1 _ ‹_› | skip
        · have e := pathPutO_not (v := v) (p := p) (x := x) (fun h => c3 h.2.2)
          have d3 : ((okI x 1 60).1 = true) = False := eq_false (fun h => c3 ((okI_iff _).1 h))
          have w1 : optT none = T.zero := rfl
          have w2 : ((none : Option T).isSome = true) = False := by simp
          simp only [x_PathPutI, rg, go_sem, seval, Prod.fst, f0, fx, e, d1, d2, d3, w1, w2, spValOkI_md, spValOkI_pre, spValOkI_alts, spValOkI_res, spValOkI_out, spPathOkI_md, spPathOkI_pre, spPathOkI_alts, spPathOkI_res, spPathOkI_out, T.zero_enc]
          repeat' (first | with_reducible assumption | with_reducible refine And.intro ?_ ?_ | intro _)
          all_goals first | omega | assumption | skip
      · have e := pathPutO_not (v := v) (p := p) (x := x) (fun h => c2 h.2.1)
        have d2 := eq_false c2
        have w1 : optT none = T.zero := rfl
        have w2 : ((none : Option T).isSome = true) = False := by simp
        simp only [x_PathPutI, rg, go_sem, seval, Prod.fst, f0, fx, e, d1, d2, w1, w2, spValOkI_md, spValOkI_pre, spValOkI_alts, spValOkI_res, spValOkI_out, spPathOkI_md, spPathOkI_pre, spPathOkI_alts, spPathOkI_res, spPathOkI_out, T.zero_enc]
        repeat' (first | with_reducible assumption | with_reducible refine And.intro ?_ ?_ | intro _)
        all_goals first | omega | assumption | skip
    · have e := pathPutO_not (v := v) (p := p) (x := x) (fun h => c1 h.1)
      have d1 : ((okI v 1 60).1 = true) = False := eq_false (fun h => c1 ((okI_iff _).1 h))
      have w1 : optT none = T.zero := rfl
      have w2 : ((none : Option T).isSome = true) = False := by simp
      simp only [x_PathPutI, rg, go_sem, seval, Prod.fst, f0, fx, e, d1, w1, w2, spValOkI_md, spValOkI_pre, spValOkI_alts, spValOkI_res, spValOkI_out, spPathOkI_md, spPathOkI_pre, spPathOkI_alts, spPathOkI_res, spPathOkI_out, T.zero_enc]
      repeat' (first | with_reducible assumption | with_reducible refine And.intro ?_ ?_ | intro _)
      all_goals first | omega | assumption | skip
end Go.Proofs.Pw
/- What a law is told of a row of octets. -/
namespace Go.Proofs.Pw
def bytes (bs : List Int) : Prop := (∀ b ∈ bs, 0 ≤ b ∧ b ≤ 255) ∧ lenB 140737488355328 bs.length
end Go.Proofs.Pw
/- FnPathAll: the law, run. -/
set_option linter.unusedSimpArgs false
set_option maxRecDepth 20000
namespace Go.Proofs.Pw
set_option linter.unusedSectionVars false
variable [Globs]
def x_DrawPathAll : X := (.seq (.reg [⟨some 2, none, .alloc [(.c (.int .i64 0)), (.c (.int .i64 0)), (.c (.str ⟨#[]⟩)), (.z 1), (.z 5)]⟩] none [0, 2]) (.seq (.reg [⟨some 3, none, .mv (.t 0)⟩, ⟨some 4, none, .call 14 [(.t 3)]⟩, ⟨some 5, none, .callr 13 [(.t 4)]⟩, ⟨none, none, .st (.t 2) (.t 5) (some 5)⟩] none [2]) .ret))
theorem chk_DrawPathAll : chkX Go.Proofs.Tryd.prog 6 (Go.Proofs.Tryd.f4.body.getD .skip) x_DrawPathAll = true := by kernel_rfl
theorem rs_DrawPathAll : okRs Go.Proofs.Tryd.prog Go.Proofs.Tryd.f4.results.toList [.cell 2 (some 5)] = true := by kernel_rfl
theorem call_DrawPathAll : okCallee Go.Proofs.Tryd.prog 4 = true := by kernel_rfl
def x_lawPA : X := (.seq (.reg [⟨some 2, none, .mv (.k (.c (.bool false)))⟩] none [0]) (.seq (.seq (.reg [⟨some 12, none, .mv (.t 0)⟩, ⟨some 13, none, .len (.t 12) false⟩, ⟨some 14, none, .bin false .gtr (.t 13) (.k (.c (.int .i64 1048576)))⟩] none [0, 14]) (.cond (.t 14) (.seq (.reg [⟨some 2, none, .mv (.k (.c (.bool true)))⟩] none [2]) .ret) .skip)) (.seq (.reg [⟨some 15, none, .mv (.t 0)⟩, ⟨some 16, none, .callr 4 [(.t 15)]⟩, ⟨some 3, none, .alloc [(.c (.int .i64 0)), (.c (.int .i64 0)), (.c (.str ⟨#[]⟩)), (.z 1), (.z 5)]⟩, ⟨none, none, .st (.t 3) (.t 16) (some 5)⟩] none [3]) (.seq (.reg [⟨some 17, none, .load (.t 3) (some 5)⟩, ⟨some 18, none, .call 5 [(.t 17)]⟩, ⟨some 4, none, .mv (.t 18)⟩] none [3, 4]) (.seq (.reg [⟨some 19, none, .load (.t 3) (some 5)⟩, ⟨some 20, none, .call 6 [(.t 19)]⟩, ⟨some 5, none, .mv (.t 20)⟩] none [3, 4, 5]) (.seq (.seq (.reg [⟨some 21, none, .mv (.t 4)⟩, ⟨some 22, none, .len (.t 21) false⟩, ⟨some 23, none, .mv (.t 5)⟩, ⟨some 24, none, .len (.t 23) false⟩, ⟨some 25, none, .bin false .neq (.t 22) (.t 24)⟩, ⟨some 26, none, .mv (.t 25)⟩, ⟨some 27, some (26, false), .mv (.t 4)⟩, ⟨some 28, some (26, false), .len (.t 27) false⟩, ⟨some 29, some (26, false), .load (.t 3) (some 5)⟩, ⟨some 30, some (26, false), .call 7 [(.t 29)]⟩, ⟨some 31, some (26, false), .bin false .neq (.t 28) (.t 30)⟩, ⟨some 32, none, .pick (.t 26) (.k (.c (.bool true))) (.t 31)⟩] none [3, 4, 5, 32]) (.cond (.t 32) (.seq (.reg [⟨some 2, none, .mv (.k (.c (.bool false)))⟩] none [2]) .ret) .skip)) (.seq (.seq (.reg [⟨some 6, none, .mv (.k (.c (.int .i64 0)))⟩] none [3, 4, 5, 6]) (.block 0 (.loop (.seq (.seq (.reg [⟨some 33, none, .mv (.t 6)⟩, ⟨some 34, none, .mv (.t 4)⟩, ⟨some 35, none, .len (.t 34) false⟩, ⟨some 36, none, .bin false .lss (.t 33) (.t 35)⟩] none [3, 4, 5, 6, 36]) (.cond (.t 36) .skip (.exit 0))) (.seq (.block 1 (.seq (.seq (.reg [⟨some 39, none, .mv (.t 4)⟩, ⟨some 40, none, .mv (.t 6)⟩, ⟨some 41, none, .ia (.t 39) (.t 40) 1⟩, ⟨some 42, none, .load (.t 41) none⟩, ⟨some 43, none, .call 8 [(.t 42)]⟩, ⟨some 44, none, .mv (.t 5)⟩, ⟨some 45, none, .mv (.t 6)⟩, ⟨some 46, none, .ia (.t 44) (.t 45) 1⟩, ⟨some 47, none, .load (.t 46) none⟩, ⟨some 48, none, .call 9 [(.t 47)]⟩, ⟨some 49, none, .bin false .neq (.t 43) (.t 48)⟩] (some 9) [3, 4, 5, 6, 49]) (.cond (.t 49) (.seq (.reg [⟨some 2, none, .mv (.k (.c (.bool false)))⟩] none [2]) .ret) .skip)) (.seq (.mix [⟨some 51, none, .load (.t 3) (some 5)⟩, ⟨some 52, none, .mv (.t 4)⟩, ⟨some 53, none, .mv (.t 6)⟩, ⟨some 54, none, .ia (.t 52) (.t 53) 1⟩, ⟨some 55, none, .load (.t 54) none⟩, ⟨some 56, none, .call 10 [(.t 51), (.t 55)]⟩, ⟨some 50, none, .mv (.t 56)⟩, ⟨some 57, none, .ext (.t 50) 0⟩, ⟨some 58, none, .ext (.t 50) 1⟩, ⟨some 7, none, .alloc [(.c (.int .i64 0)), (.c (.int .i64 0)), (.c (.str ⟨#[]⟩)), (.z 1), (.z 5)]⟩, ⟨none, none, .st (.t 7) (.t 57) (some 5)⟩] [⟨some 8, none, .mv (.t 58)⟩] [[], [], [], [], [], [], [], [], [], [0, 1, 2, 3, 4, 6, 7, 8], []] [3, 4, 5, 6, 7, 8]) (.seq (.mix [⟨some 60, none, .load (.t 3) (some 5)⟩, ⟨some 61, none, .mv (.t 4)⟩, ⟨some 62, none, .mv (.t 6)⟩, ⟨some 63, none, .ia (.t 61) (.t 62) 1⟩, ⟨some 64, none, .load (.t 63) none⟩, ⟨some 65, none, .load (.t 7) (some 5)⟩, ⟨some 66, none, .call 11 [(.t 60), (.t 64), (.t 65)]⟩, ⟨some 59, none, .mv (.t 66)⟩, ⟨some 67, none, .ext (.t 59) 0⟩, ⟨some 68, none, .ext (.t 59) 1⟩, ⟨some 9, none, .alloc [(.c (.int .i64 0)), (.c (.int .i64 0)), (.c (.str ⟨#[]⟩)), (.z 1), (.z 5)]⟩, ⟨none, none, .st (.t 9) (.t 67) (some 5)⟩] [⟨some 10, none, .mv (.t 68)⟩] [[], [], [], [], [], [], [], [], [], [], [0, 1, 2, 3, 4, 5, 7, 8, 9], []] [3, 4, 5, 6, 8, 9, 10]) (.seq (.seq (.reg [⟨some 69, none, .mv (.t 8)⟩, ⟨some 70, none, .not (.t 69)⟩, ⟨some 71, none, .mv (.t 70)⟩, ⟨some 72, some (71, false), .mv (.t 10)⟩, ⟨some 73, some (71, false), .not (.t 72)⟩, ⟨some 74, none, .pick (.t 71) (.k (.c (.bool true))) (.t 73)⟩, ⟨some 75, none, .mv (.t 74)⟩, ⟨some 76, some (75, false), .load (.t 9) (some 5)⟩, ⟨some 77, some (75, false), .load (.t 3) (some 5)⟩, ⟨some 78, some (75, false), .call 12 [(.t 76), (.t 77)]⟩, ⟨some 79, some (75, false), .not (.t 78)⟩, ⟨some 80, none, .pick (.t 75) (.k (.c (.bool true))) (.t 79)⟩] none [3, 4, 5, 6, 80]) (.cond (.t 80) (.seq (.reg [⟨some 2, none, .mv (.k (.c (.bool false)))⟩] none [2]) .ret) .skip)) (.seq (.reg [⟨some 11, none, .mv (.k (.c (.int .i64 0)))⟩] none [3, 4, 5, 6, 11]) (.block 2 (.loop (.seq (.seq (.reg [⟨some 81, none, .mv (.t 11)⟩, ⟨some 82, none, .mv (.t 6)⟩, ⟨some 83, none, .bin false .lss (.t 81) (.t 82)⟩] none [3, 4, 5, 6, 11, 83]) (.cond (.t 83) .skip (.exit 2))) (.seq (.block 3 (.seq (.reg [⟨some 86, none, .mv (.t 4)⟩, ⟨some 87, none, .mv (.t 11)⟩, ⟨some 88, none, .ia (.t 86) (.t 87) 1⟩, ⟨some 89, none, .load (.t 88) none⟩, ⟨some 90, none, .call 8 [(.t 89)]⟩, ⟨some 91, none, .mv (.t 4)⟩, ⟨some 92, none, .mv (.t 6)⟩, ⟨some 93, none, .ia (.t 91) (.t 92) 1⟩, ⟨some 94, none, .load (.t 93) none⟩, ⟨some 95, none, .call 8 [(.t 94)]⟩, ⟨some 96, none, .bin false .eql (.t 90) (.t 95)⟩] (some 9) [3, 4, 5, 6, 11, 96]) (.cond (.t 96) (.seq (.reg [⟨some 2, none, .mv (.k (.c (.bool false)))⟩] none [2]) .ret) .skip))) (.reg [⟨some 84, none, .mv (.t 11)⟩, ⟨some 85, none, .bin false .add (.t 84) (.k (.c (.int .i64 1)))⟩, ⟨some 11, none, .mv (.t 85)⟩] none [3, 4, 5, 6, 11]))))))))))) (.reg [⟨some 37, none, .mv (.t 6)⟩, ⟨some 38, none, .bin false .add (.t 37) (.k (.c (.int .i64 1)))⟩, ⟨some 6, none, .mv (.t 38)⟩] none [3, 4, 5, 6])))))) (.seq (.reg [⟨some 2, none, .mv (.k (.c (.bool true)))⟩] none [2]) .ret))))))))
theorem chk_lawPA : chkX Go.Proofs.Tryd.prog 97 (Go.Proofs.Tryd.f3.body.getD .skip) x_lawPA = true := by kernel_rfl
theorem rs_lawPA : okRs Go.Proofs.Tryd.prog Go.Proofs.Tryd.f3.results.toList [.tmp 2] = true := by kernel_rfl
def spDAll  : Spec := Spec.ofR (ι := (List Int)) (κ := Int × Int × ByteArray × (List ByteArray) × (List T)) [false] (fun i => [.d (.one (.row 1 (ints .u8 i)))]) (fun i => (∀ b ∈ i, 0 ≤ b ∧ b ≤ 255) ∧ lenB 140737488355328 i.length) (fun i k => drW 16000 (.mk k.1 k.2.1 k.2.2.1 k.2.2.2.1 k.2.2.2.2)) (fun i k => [.d (.agg (T.mk k.1 k.2.1 k.2.2.1 k.2.2.2.1 k.2.2.2.2).enc)]) (fun i k => [.gone])
theorem spDAll_inj : ∀ i j : (List Int), (fun (i : (List Int)) => ([.d (.one (.row 1 (ints .u8 i)))] : List AV)) i = (fun (i : (List Int)) => ([.d (.one (.row 1 (ints .u8 i)))] : List AV)) j → i = j := by
  intro bs bs' h
  simpa [strs_eq, T.enc_eq, encL_eq, F.enc_eq, encF_eq, Tk.enc_eq, encTk_eq, Gn.enc_eq, ints_eq] using h
theorem spDAll_md  : (spDAll).md = [false] := rfl
theorem spDAll_pre  (bs : List Int) : (spDAll).pre [.d (.one (.row 1 (ints .u8 bs)))] = ((∀ b ∈ bs, 0 ≤ b ∧ b ≤ 255) ∧ lenB 140737488355328 bs.length) := Spec.ofR_pre spDAll_inj bs
theorem spDAll_all  (bs : List Int) (F : List AV → List AV → Prop) : (spDAll).all [.d (.one (.row 1 (ints .u8 bs)))] F = (∀ (k : Int) (n : Int) (s : ByteArray) (ks : List ByteArray) (l : List T), (drW 16000 (.mk k n s ks l)) → F [.d (.agg (T.mk k n s ks l).enc)] [.gone]) := by
  refine (Spec.ofR_all spDAll_inj bs F).trans (propext ⟨fun h k n s ks l hr => h (k, n, s, ks, l) hr, fun h k hr => ?_⟩)
  exact h k.1 k.2.1 k.2.2.1 k.2.2.2.1 k.2.2.2.2 hr
theorem DrawPathAll_sound : Sound Go.Proofs.Tryd.prog 4 spDAll := by
  refine sound_famR (GOK.cons (l := [(13, spBent)]) call_l11Open l11Open_sound (GOK.cons call_l1Bent l1Bent_sound GOK.nil)) Go.Proofs.Tryd.func4 (c := Go.Proofs.Tryd.f4.body.getD .skip) rfl (n := 6) rfl chk_DrawPathAll rs_DrawPathAll (fun _ => by simp) ?_
  · rintro bs ⟨hb, h1⟩
    have hy := byt_take hb
    simp only [x_DrawPathAll, rg, go_sem, seval, Prod.fst, T.enc_len, spOpen_md, spOpen_pre, spOpen_alts, spOpen_res, spOpen_out, spBent_md, spBent_pre, spBent_ne, ↓spBent_all, spBent_all]
    repeat' (first | with_reducible assumption | with_reducible refine And.intro ?_ ?_ | intro _)
    all_goals first | omega | skip
    rename_i k n s ks l q hd
    exact ⟨(k, n, s, ks, l), hd.1.mono (by decide), rfl⟩
theorem wayOk_fit {p : List Stp} (h : wayOk p) : wayFit p := by
  refine ⟨by have := h.2; omega, fun s hs => ?_⟩
  have h1 := h.1 s hs
  unfold stpOk at h1
  unfold stpFit
  split at h1
  · have h2 := h1.1.2
    refine ⟨by omega, by omega, by omega⟩
  · obtain ⟨h2, h3, h4⟩ := h1
    rw [h2]
    exact ⟨by decide, by omega, by omega⟩
theorem encSS_at {l : List (List Stp)} {i : Nat} {p : List Stp} (h : l[i]? = some p) : (encSS l).getD i [] = [.row 3 (encS p)] := by simp [encSS, h]
theorem ways_fact {v : T} {p : List Stp} {i : Nat} (hp : (waysT v)[i]? = some p) : okT v ∧ wayOk p ∧ ∃ x, pathGetO v p = some x ∧ okT x ∧ pathPutO v p x = some v := by
  by_cases hk : okT v
  · rw [waysT, if_pos hk] at hp
    obtain ⟨r, e, h1, h2, x, h3, h4, h5⟩ := all_ways v 6 [] hk.1 hk p (List.mem_of_getElem? hp)
    rw [List.nil_append] at e
    subst e
    have hw : wayOk p := ⟨h1, by omega⟩
    exact ⟨hk, hw, x, by rw [pathGetO_ok2 hk hw, h3], h4, by rw [pathPutO_ok2 hk hw h4, h5]⟩
  · rw [waysT, if_neg hk] at hp
    simp at hp
theorem ways_apart {v : T} {p q : List Stp} {i k : Nat} (hp : (waysT v)[i]? = some p) (hq : (waysT v)[k]? = some q) (h : k < i) : pathText q ≠ pathText p := by
  intro e
  obtain ⟨hk, h1, _⟩ := ways_fact hp
  obtain ⟨_, h2, _⟩ := ways_fact hq
  have e2 := pathText_inj h2 h1 e
  subst e2
  have hn := all_nodup v 6 [] hk.1 hk
  rw [waysT, if_pos hk] at hp hq
  have := (List.getElem?_inj (List.getElem?_eq_some_iff.1 hq).1 hn).1 (hq.trans hp.symm)
  omega
theorem waysT_len (t : T) : ((waysT t).length : Int) = if okT t then sizeT t else 0 := by
  unfold waysT; split
  · exact allT_len t []
  · rfl
noncomputable def spLawPA  : Spec := Spec.of (ι := (List Int)) [false] (fun i => [.d (.one (.row 1 (ints .u8 i)))]) (fun i => bytes i) (fun _ => [.d (.one (.bool true))]) (fun _ => [.gone])
theorem spLawPA_inj : ∀ i j : (List Int), (fun (i : (List Int)) => ([.d (.one (.row 1 (ints .u8 i)))] : List AV)) i = (fun (i : (List Int)) => ([.d (.one (.row 1 (ints .u8 i)))] : List AV)) j → i = j := by
  intro a a' h
  simpa [strs_eq, T.enc_eq, encL_eq, F.enc_eq, encF_eq, Tk.enc_eq, encTk_eq, Gn.enc_eq, ints_eq] using h
theorem spLawPA_pre  (a : List Int) : (spLawPA).pre [.d (.one (.row 1 (ints .u8 a)))] = (bytes a) := Spec.of_pre' spLawPA_inj a
theorem spLawPA_res  (a : List Int) : (spLawPA).res [.d (.one (.row 1 (ints .u8 a)))] = [.d (.one (.bool true))] := Spec.of_res spLawPA_inj a
set_option maxHeartbeats 4000000 in
theorem lawPA_sound (hK : tabK) : Sound Go.Proofs.Tryd.prog 3 spLawPA := by
  refine sound_fam (GOK.cons (l := [(6, spPathAll), (5, spPathAllI), (7, spValMany), (9, spPathText), (8, spPathText), (11, spPathPutI), (10, spPathGetI), (12, spSameIV)]) call_DrawPathAll DrawPathAll_sound (GOK.cons call_PathAll PathAll_sound (GOK.cons call_PathAllI PathAllI_sound (GOK.cons call_ValManyI ValManyI_sound (GOK.cons call_PathText pathText_sound (GOK.cons call_PathTextI (pathTextI_sound hK) (GOK.cons call_PathPutI PathPutI_sound (GOK.cons call_PathGetI PathGetI_sound (GOK.cons call_ValSameI sameIV_sound GOK.nil))))))))) Go.Proofs.Tryd.func3 (c := Go.Proofs.Tryd.f3.body.getD .skip) rfl (n := 97) rfl chk_lawPA rs_lawPA (fun _ => by simp) ?_ ?_
  · exact spLawPA_inj
  · intro a h1
    simp only [bytes, lenB] at h1
    simp only [x_lawPA, rg, go_sem, seval, Prod.fst, ints_len, T.enc_len, spDAll_md, spDAll_pre, ↓spDAll_all, spDAll_all]
    repeat' (first | with_reducible assumption | with_reducible refine And.intro ?_ ?_ | intro _)
    all_goals first | omega | skip
    · exact (h1.1 _ (by assumption)).1
    · exact (h1.1 _ (by assumption)).2
    · unfold lenB; omega
    rename_i k n s ks l hv
    generalize hve : (T.mk k n s ks l) = v at *
    clear hve
    have f1 := T.enc_len v
    have v2 : v.fit 140737488355328 := hv.fit
    have v3 := hv.2.1
    have w1 := waysT_len v
    have w2 : (((waysT v).length : Int) = if okT v then sizeT v else 0) = True := eq_true w1
    simp only [rg, go_sem, seval, Prod.fst, f1, w2, encSX_len, spPathAll_md, spPathAll_pre, spPathAll_alts, spPathAll_res, spPathAll_out, spPathAllI_md, spPathAllI_pre, spPathAllI_alts, spPathAllI_res, spPathAllI_out, spValMany_md, spValMany_pre, spValMany_alts, spValMany_res, spValMany_out]
    repeat' (first | with_reducible assumption | with_reducible refine And.intro ?_ ?_ | intro _)
    all_goals first | omega | assumption | skip
    · exact T.fit_mono (by decide) hv.1
    have w3 : (waysT v).length ≤ 16000 := by have := hv.2.1; split at w1 <;> omega
    clear w2
    refine pw_loop (ι := Nat) (fun i => (waysT v).length - i) (fun i => i ≤ (waysT v).length)
      (fun i => ⟨[(3, .q (.box 3 0)), (4, .q (.c (.row 1 (encSS (waysT v))))), (5, .q (.c (.row 1 (encSS (waysT v))))), (6, .q (.c (.int .i64 i)))], [(3, v.enc.map .c)], []⟩) 0 (Nat.zero_le _) ?_ ?_
    · refine (Le.pub 18 _).trans ((Le.pub 20 _).trans (Le.sub ?_ ?_ ?_))
      · simp [St.pub, get?, St.map, PV.map, Q.pub, del]
      · simp [St.pub, get?, St.map, PV.map, Q.pub, del]
      · simp [St.pub, get?, St.map, PV.map, Q.pub, del]
    · intro i hi
      rcases Nat.lt_or_ge i (waysT v).length with hlt | hge
      · obtain ⟨p, hp⟩ : ∃ p, (waysT v)[i]? = some p := ⟨_, List.getElem?_eq_getElem hlt⟩
        obtain ⟨hk, hw, x, g1, g2, g3⟩ := ways_fact hp
        have a1 := encSS_at hp
        have a2 : ((i : Int) < ((waysT v).length : Int)) = True := by simp; omega
        have f2 := T.enc_len x
        have x2 : x.fit 140737488355328 := T.fit_mono (by decide) (okT_fit g2)
        have x3 := okT_size g2
        have hf := wayOk_fit hw
        have o1 : (optT (some x)).enc = x.enc := rfl
        have o2 : (optT (some v)).enc = v.enc := rfl
        have o3 : ((some x).isSome = true) = True := by simp
        have o4 : ((some v).isSome = true) = True := by simp
        simp only [rg, go_sem, seval, Prod.fst, f1, f2, a1, a2, g1, g3, o1, o2, o3, o4, encSS_len, spPathText_md, spPathText_pre, spPathText_alts, spPathText_res, spPathText_out, spPathGetI_md, spPathGetI_pre, spPathGetI_alts, spPathGetI_res, spPathGetI_out, spPathPutI_md, spPathPutI_pre, spPathPutI_alts, spPathPutI_res, spPathPutI_out, spSameIV_md, spSameIV_pre, spSameIV_alts, spSameIV_res, spSameIV_out]
        repeat' (first | with_reducible assumption | with_reducible refine And.intro ?_ ?_ | intro _)
        all_goals first | omega | with_reducible assumption | skip
        refine pw_loop (ι := Nat) (fun k => i - k) (fun k => k ≤ i)
          (fun k => ⟨[(3, .q (.box 3 0)), (4, .q (.c (.row 1 (encSS (waysT v))))), (5, .q (.c (.row 1 (encSS (waysT v))))), (6, .q (.c (.int .i64 i))), (11, .q (.c (.int .i64 k)))], [(3, v.enc.map .c)], []⟩) 0 (Nat.zero_le _) ?_ ?_
        · exact Le.sub (by simp) (by simp) (by simp)
        · intro k hki
          rcases Nat.lt_or_ge k i with hlt2 | hge
          · obtain ⟨q, hq⟩ : ∃ q, (waysT v)[k]? = some q := ⟨_, List.getElem?_eq_getElem (show k < (waysT v).length by omega)⟩
            have hqf := wayOk_fit (ways_fact hq).2.1
            have b1 := encSS_at hq
            have b2 : ((k : Int) < (i : Int)) = True := by simp; omega
            have b3 : (pathText q = pathText p) = False := eq_false (ways_apart hp hq hlt2)
            simp only [rg, go_sem, seval, Prod.fst, a1, b1, b2, b3, encSS_len, spPathText_md, spPathText_pre, spPathText_alts, spPathText_res, spPathText_out]
            repeat' (first | with_reducible assumption | with_reducible refine And.intro ?_ ?_ | intro _)
            all_goals first | omega | with_reducible assumption | skip
            refine ⟨k + 1, hlt2, by omega, ?_⟩
            exact Le.sub (by simp) (by simp) (by simp)
          · have b2 : ((k : Int) < (i : Int)) = False := by simp; omega
            simp only [rg, go_sem, seval, Prod.fst, b2]
            repeat' (first | with_reducible assumption | with_reducible refine And.intro ?_ ?_ | intro _)
            all_goals first | omega | with_reducible assumption | skip
            refine ⟨i + 1, hlt, by omega, ?_⟩
            exact Le.sub (by simp) (by simp) (by simp)
      · have a2 : ((i : Int) < ((waysT v).length : Int)) = False := by simp; omega
        simp only [rg, go_sem, seval, Prod.fst, a2, encSS_len]
end Go.Proofs.Pw
/- From what a law's arguments are told to be, to what is shown of its run. -/
namespace Go.Proofs.Pw
open Go.RowKit
set_option linter.unusedSectionVars false
/-- All blocks that are there. -/
def Old (w : World) (g : Nat) : Prop := g < w.heap.size
theorem cell_lt {w : World} {a : Addr} {v : Value} (h : w.cell? a = some v) : a.block < w.heap.size := by
  unfold World.cell? at h
  rcases Nat.lt_or_ge a.block w.heap.size with hlt | hge
  · exact hlt
  · rw [Array.getElem?_eq_none hge] at h; simp at h
theorem rep_ints {k : IntKind} {w : World} {a : Option Addr} {len cap : Nat} {zs : List Int}
    (h : (a = none ∧ len = 0 ∧ cap = 0 ∧ zs = []) ∨ ∃ x, a = some x ∧ len ≤ cap ∧ cap ≤ maxLen ∧ zs.length = cap ∧ (∀ i, i < zs.length → w.cell? (x.add i) = some (.int k (zs.getD i 0))) ∧ ∀ n ∈ zs, (Lit.int k n).wf = true) :
    Rep w (Old w) (.row 1 (ints k (zs.take len))) (.slice a len cap) ∧ (zs.take len).length = len ∧ ∀ n ∈ zs.take len, (Lit.int k n).wf = true := by
  rcases h with ⟨rfl, rfl, rfl, rfl⟩ | ⟨x, rfl, hl, hm, hz, hc, hw⟩
  · exact ⟨.nil .., rfl, by simp⟩
  · have hlen : (zs.take len).length = len := by simp; omega
    refine ⟨?_, hlen, fun n hn => hw n (List.mem_of_mem_take hn)⟩
    rcases Nat.eq_zero_or_pos len with h0 | h0
    · subst h0; exact .nil ..
    · have key : ∀ (i j : Nat) e c, (ints k (zs.take len))[i]? = some e → e[j]? = some c → j = 0 ∧ i < zs.length ∧ c = .int k (zs.getD i 0) := fun i j e c he hj => by
        simp only [ints, List.getElem?_map, Option.map_eq_some_iff] at he
        obtain ⟨n, hn, rfl⟩ := he
        rw [List.getElem?_take] at hn
        split at hn
        · cases j with
          | zero => simp at hj; subst hj; exact ⟨rfl, (List.getElem?_eq_some_iff.1 hn).1, by simp [hn]⟩
          | succ j => simp at hj
        · cases hn
      have hel : (ints k (zs.take len)).length = len := by rw [ints_len, hlen]
      have := Rep.row (w := w) (S := Old w) 1 (ints k (zs.take len)) x cap (fun i => .int k (zs.getD i 0)) (by omega) (by
        have := cell_lt (hc 0 (by omega)); rwa [add_block] at this) (fun i e he => by
          simp only [ints, List.getElem?_map, Option.map_eq_some_iff] at he
          obtain ⟨n, _, rfl⟩ := he; rfl) (fun i j e c he hj => by
          obtain ⟨rfl, h1, _⟩ := key i j e c he hj
          simpa using hc i h1) (fun i j e c he hj => by
          obtain ⟨rfl, h1, rfl⟩ := key i j e c he hj
          simpa using Rep.int k (zs.getD i 0))
      rwa [hel] at this
/-- A law that holds of what it is handed, run in whatever world. -/
theorem law_calls [Globs] {P : Program} {f : FuncId} {sp : Spec} (h : Sound P f sp) {args : List AV} (hp : sp.pre args) (ha : sp.alts = none) (hr : sp.res args = [.d (.one (.bool true))]) {W : World} {vs : List Value} (hG : Gl W (Old W))
    (hA : All3 (RepA W (Old W)) args vs (args.map fun _ => fun _ => False)) : Calls P f vs.toArray W fun e w' => e = .returned (.bool true) ∧ Below W.heap.size W w' := by
  refine (h args hp W (Old W) vs _ hG (fun _ h => h) (fun g hg => absurd hg Any_false) Apart_false hA).mono ?_
  rintro e w' ⟨r, o, hro, v, S', rfs, fps', rfl, g1, _, _, _, _, _, g8⟩
  obtain ⟨rfl, rfl⟩ := (Spec.may_none ha).1 hro
  rw [hr] at g1
  refine ⟨?_, ⟨g8.os, g8.tape, g8.output, g8.size, fun k hk => g8.block k hk Any_false⟩⟩
  cases rfs with
  | nil => exact absurd rfl g1.1
  | cons fp r => cases r with
    | nil =>
      obtain ⟨g1, _⟩ := g1
      cases g1; rfl
    | cons _ _ => exact absurd rfl g1.1
end Go.Proofs.Pw
/- Arguments with depth: what they read as, and that they read so still. -/
namespace Go.Proofs.Pw
open Go.RowKit Go.ChangeShapes Go.WideShapes
set_option linter.unusedSectionVars false
section
variable {H : Type} {enc : TypeId × Value → H} {P : Program} {W W' : World} {spare : Nat → Bool} {held : Bool}
theorem trodAll_below (hl : laidOutB P = true) (hb : Below W.heap.size W W') : ∀ {ts : List TypeId} {vs : List Value} {ds : List (DataW H)} {p : List MemPlace}, DataW.TrodAll enc P W 0 (fun _ => true) true ts vs ds p →
    (ts.all fun t => P.readableRec t && decide (t < P.types.size)) = true → (∀ x ∈ p, x.block < W.heap.size) → DataW.TrodAll enc P W' 0 (fun b => decide (b < W.heap.size)) true ts vs ds p := by
  intro ts
  induction ts with
  | nil =>
    intro vs ds p h _ _
    cases vs <;> cases ds <;> first | exact h | exact h.elim
  | cons t ts ih =>
    intro vs ds p h hr hp
    obtain ⟨v, vs', d, ds', p1, q, rfl, rfl, rfl, h1, h2⟩ := trodAll_cons h
    simp only [List.all_cons, Bool.and_eq_true, decide_eq_true_eq] at hr
    exact ⟨p1, q, Below.trod hl hr.1.1 hr.1.2 h1 hb (fun x hx => hp x (by simp [hx])), ih h2 hr.2 (fun x hx => hp x (by simp [hx])), rfl⟩
theorem trodVars_below (hl : laidOutB P = true) (hb : Below W.heap.size W W') : ∀ {ns : List String} {gs : List (DataW H)} {p : List MemPlace}, DataW.TrodVars enc P W (fun _ => true) ns gs p →
    (ns.all fun n => match P.globalNamed n with | some g => (match P.globals[g]? with | some x => P.readableRec x.type && decide (x.type < P.types.size) | none => false) | none => false) = true → (∀ x ∈ p, x.block < W.heap.size) →
    DataW.TrodVars enc P W' (fun b => decide (b < W.heap.size)) ns gs p := by
  intro ns
  induction ns with
  | nil =>
    intro gs p h _ _
    cases gs <;> first | exact h | exact h.elim
  | cons n ns ih =>
    intro gs p h hr hp
    cases gs with
    | nil => exact h.elim
    | cons d gs =>
      obtain ⟨g, t, cs, fuel, p1, q, hg, ht, hv, hd, h2, rfl⟩ := h
      simp only [List.all_cons, Bool.and_eq_true, hg] at hr
      obtain ⟨hr2, hr3⟩ := hr
      have hr1 : g < W.heap.size := by
        unfold World.var? at hv
        simp only [hg, Option.bind_some] at hv
        split at hv
        · rename_i h1; exact (Array.getElem?_eq_some_iff.1 h1).1
        · cases hv
      simp only [Option.map_eq_some_iff] at ht
      obtain ⟨x, hx, rfl⟩ := ht
      simp only [hx, Bool.and_eq_true, decide_eq_true_eq] at hr2
      have hk : DataW.Trod enc P W 0 (fun _ => true) true x.type (.agg cs) d p1 := ⟨fuel, hd⟩
      obtain ⟨fuel', hd'⟩ := Below.trod hl hr2.1 hr2.2 hk hb (fun y hy => hp y (by simp [hy]))
      exact ⟨g, x.type, cs, fuel', p1, q, hg, by rw [hx]; rfl, var?_below hb hg hr1 hv, hd', ih h2 hr3 (fun y hy => hp y (by simp [hy])), rfl⟩
/-- What is left behind a law that gives true, and has turned nothing that was there. -/
theorem law_post {f : Func} {s : ChangeSpec} {args : Array Value} {ds gs : List (DataW H)} {before : List MemPlace} {rt : TypeId} (hl : laidOutB P = true)
    (hW : DataW.Whole enc P f.params.toList s.vars false W args.toList ds gs before) (hrt : f.resultTypes.toList = [rt]) (hrb : P.underlying rt = some .bool) (hsz : f.resultTypes.size = 1)
    (hfn : s.fn H (ds ++ gs) = { results := [.lit (.bool true)], args := ds, vars := gs })
    (hp : (f.params.toList.all fun t => P.readableRec t && decide (t < P.types.size)) = true)
    (hv : (s.vars.all fun n => match P.globalNamed n with | some g => (match P.globals[g]? with | some x => P.readableRec x.type && decide (x.type < P.types.size) | none => false) | none => false) = true)
    (hb : Below W.heap.size W W') : s.post enc P f false true false false W args (.bool true) W' := by
  have hlt := hW.lt
  have hW' := hW
  obtain ⟨p, q, hA, hV, rfl, hfz, hnd⟩ := hW
  refine ⟨ds, gs, _, [], p, q, hW', ?_, ?_, ?_, hb.frame _, fun h => by cases h⟩
  · rw [hfn, hrt, hsz]
    exact trodAll_mk1 (shut_bool hrb _)
  · rw [hfn]; exact trodAll_below hl hb hA hp (fun x hx => hlt x (by simp [hx]))
  · rw [hfn]; exact trodVars_below hl hb hV hv (fun x hx => hlt x (by simp [hx]))
end
end Go.Proofs.Pw
/- A row of octets handed over. -/
namespace Go.Proofs.Pw
open Go.RowKit Go.ChangeShapes Go.WideShapes
set_option linter.unusedSectionVars false
section
variable {H : Type} {enc : TypeId × Value → H} {P : Program} {W : World}
theorem wf_u8 {n : Int} (h : (Lit.int .u8 n).wf = true) : 0 ≤ n ∧ n ≤ 255 := by
  simp only [Lit.wf, Bool.and_eq_true, decide_eq_true_eq] at h
  simp only [IntKind.min, IntKind.max, IntKind.signed, IntKind.bits] at h
  simp at h; omega
theorem read_bytes {held : Bool} {r : Reach} {base : Nat} {ts : List TypeId} {ds : List (DataW H)} {j : Nat} {t e : TypeId} {v : Value} {d : DataW H} {p : List MemPlace} (hu : P.underlying t = some (.slice e)) (he : P.underlying e = some (.int .u8)) (hc : P.cellsOf e = 1) (hby : 0 < P.bytesOf e)
    (hval : Value.okWide P W r base t v) (h : DataW.Trod enc P W 0 (fun _ => true) held t v d p) (hz : (DataW.weightsEach P ts ds).all (· ≤ reachBytes) = true) (ht : ts[j]? = some t) (hd : ds[j]? = some d) :
    ∃ l : List Int, RepA W (Old W) (.d (.one (.row 1 (ints .u8 l)))) v (fun _ => False) ∧ bytes l := by
  obtain ⟨a, len, cap, rfl⟩ := okWide_slice hu hval
  obtain ⟨fuel, h⟩ := h
  rcases open_ints hu he hc h with ⟨h1, h2⟩ | ⟨x, l, c, zs, hcs, _, hl, hm, hz', hx, hcell, hwz⟩
  · simp only [Value.cells, List.cons.injEq, and_true] at h1
    cases h1
    refine ⟨[], ⟨.nil .., fun _ h => h⟩, by simp, by unfold lenB; simp⟩
  · simp only [Value.cells, List.cons.injEq, and_true] at hcs
    cases hcs
    simp only [Prod.mk.injEq] at hx
    obtain ⟨rfl, rfl⟩ := hx
    obtain ⟨k1, k2, k3⟩ := rep_ints (k := .u8) (w := W) (a := some x) (len := len) (cap := cap) (zs := zs) (.inr ⟨x, rfl, hl, hm, by simpa using hz', hcell, hwz⟩)
    refine ⟨zs.take len, ⟨k1, fun _ h => h⟩, fun b hb => wf_u8 (k3 b hb), ?_⟩
    have k4 := sized_slice hz ht hd hu
    have k5 : (lits (H := H) .u8 (zs.take len)).length ≤ reachBytes := by
      refine Nat.le_trans (Nat.le_trans (Nat.le_add_right _ (lits (H := H) .u8 (zs.drop len)).length) ?_) k4
      exact Nat.le_mul_of_pos_right _ hby
    have := reachBytes_lt
    simp only [lits, List.length_map] at k5
    unfold lenB; omega
end
end Go.Proofs.Pw
/- A listed table reads as it is told. -/
namespace Go.Proofs.Pw
open Go.RowKit Go.ChangeShapes Go.WideShapes
set_option linter.unusedSectionVars false
end Go.Proofs.Pw
/- Listed arrays of numbers and lists of texts read as they are told. -/
namespace Go.Proofs.Pw
open Go.RowKit Go.ChangeShapes Go.WideShapes
set_option linter.unusedSectionVars false
theorem laid_rest {P : Program} {W : World} {x : String × DataW Unit} {r : List (String × DataW Unit)} {ps : List MemPlace} (h : DataW.LaidVars P W (x :: r) ps) : ∃ ps', DataW.LaidVars P W r ps' := by
  obtain ⟨g', t', cs, fuel, p, q, hg', ht', hv, htr, hr, _⟩ := h
  exact ⟨q, hr⟩
/-- A listed array of whole numbers. -/
theorem laid_tab {P : Program} {W : World} {nm : String} {d : DataW Unit} {ns : List Int} {r : List (String × DataW Unit)} {ps : List MemPlace} {g n : Nat} {t e : TypeId} {k : IntKind} (hg : P.globalNamed nm = some g) (ht : (P.globals[g]?).map (·.type) = some t)
    (hu : P.underlying t = some (.array n e)) (he : P.underlying e = some (.int k)) (hc : P.cellsOf e = 1) (hct : P.cellsOf t = n) (hd : d = Lib.tabData k ns) (h : DataW.LaidVars P W ((nm, d) :: r) ps) :
    Old W g ∧ ∃ ty x, W.heap[g]? = some (.cells (ns.map fun z => Value.int k z).toArray ty x) := by
  obtain ⟨g', t', cs, fuel, p, q, hg', ht', hv, htr, hr, _⟩ := h
  obtain rfl := Option.some.inj (hg.symm.trans hg')
  obtain rfl := Option.some.inj (ht.symm.trans ht')
  subst hd
  have hcs := Lib.cells_of_tab hu he hc hct htr
  have hcs' : cs = (ns.map fun z => Value.int k z).toArray := by rw [← hcs]
  unfold World.var? at hv
  rw [hg] at hv
  simp only [Option.bind_some] at hv
  split at hv
  · rename_i cs' ty x hh
    cases hv
    refine ⟨?_, ty, x, by rw [hh, hcs']⟩
    rcases Nat.lt_or_ge g W.heap.size with h | h
    · exact h
    · rw [Array.getElem?_eq_none h] at hh; cases hh
  · cases hv
end Go.Proofs.Pw
