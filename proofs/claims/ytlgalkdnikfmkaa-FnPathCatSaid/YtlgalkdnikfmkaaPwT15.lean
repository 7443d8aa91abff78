/- slices.Insert. -/
import Derived.Test.YtlgalkdnikfmkaaPwT14
import Derived.Test.YtlgalkdnikfmkaaPwT13
import Derived.Test.YtlgalkdnikfmkaaPwT12
import Derived.Test.YtlgalkdnikfmkaaPwT10
import Derived.Test.YtlgalkdnikfmkaaPwT9
set_option linter.unusedSimpArgs false
set_option linter.unusedVariables false
set_option linter.unusedSimpArgs false
set_option maxRecDepth 20000
namespace Go.Proofs.Pw
set_option linter.unusedSectionVars false
variable [Globs]
def x_InsS : X := (.gh (.seq (.reg [⟨some 6, none, .mv (.k (.z 1))⟩] none [0, 1, 2]) (.seq (.reg [⟨some 10, none, .mv (.t 0)⟩, ⟨some 11, none, .mv (.t 1)⟩, ⟨some 12, none, .sub (.t 10) (some (.t 11)) none 1⟩] none [0, 1, 2]) (.seq (.reg [⟨some 13, none, .mv (.t 2)⟩, ⟨some 14, none, .len (.t 13) false⟩, ⟨some 7, none, .mv (.t 14)⟩] none [0, 1, 2, 7]) (.seq (.seq (.reg [⟨some 15, none, .mv (.t 7)⟩, ⟨some 16, none, .bin false .eql (.t 15) (.k (.c (.int .i64 0)))⟩] none [0, 1, 2, 7, 16]) (.cond (.t 16) (.seq (.reg [⟨some 17, none, .mv (.t 0)⟩, ⟨some 6, none, .mv (.t 17)⟩] none [6]) (.gh .ret)) .skip)) (.seq (.reg [⟨some 18, none, .mv (.t 0)⟩, ⟨some 19, none, .len (.t 18) false⟩, ⟨some 8, none, .mv (.t 19)⟩] none [0, 1, 2, 7, 8]) (.seq (.seq (.reg [⟨some 20, none, .mv (.t 1)⟩, ⟨some 21, none, .mv (.t 8)⟩, ⟨some 22, none, .bin false .eql (.t 20) (.t 21)⟩] none [0, 1, 2, 7, 8, 22]) (.cond (.t 22) (.seq (.reg [⟨some 23, none, .mv (.t 0)⟩, ⟨some 24, none, .mv (.t 2)⟩, ⟨some 25, none, .app (.t 23) (.t 24) 1 16 []⟩, ⟨some 6, none, .mv (.t 25)⟩] none [6]) (.gh .ret)) .skip)) (.seq (.seq (.reg [⟨some 26, none, .mv (.t 8)⟩, ⟨some 27, none, .mv (.t 7)⟩, ⟨some 28, none, .bin false .add (.t 26) (.t 27)⟩, ⟨some 29, none, .mv (.t 0)⟩, ⟨some 30, none, .capr (.t 29)⟩, ⟨some 31, none, .bin false .gtr (.t 28) (.t 30)⟩] none [0, 1, 2, 7, 8, 31]) (.cond (.t 31) (.seq (.reg [⟨some 32, none, .mv (.t 0)⟩, ⟨some 33, none, .mv (.t 1)⟩, ⟨some 34, none, .sub (.t 32) none (some (.t 33)) 1⟩, ⟨some 35, none, .mv (.t 8)⟩, ⟨some 36, none, .mv (.t 7)⟩, ⟨some 37, none, .bin false .add (.t 35) (.t 36)⟩, ⟨some 38, none, .mv (.t 1)⟩, ⟨some 39, none, .bin false .sub (.t 37) (.t 38)⟩, ⟨some 40, none, .apn (.t 34) (.t 39) [(.str ⟨#[]⟩)] 16⟩, ⟨some 9, none, .mv (.t 40)⟩] none [0, 1, 2, 7, 9]) (.seq (.reg [⟨some 41, none, .mv (.t 9)⟩, ⟨some 42, none, .mv (.t 1)⟩, ⟨some 43, none, .sub (.t 41) (some (.t 42)) none 1⟩, ⟨some 44, none, .mv (.t 2)⟩, ⟨some 45, none, .cpy (.t 43) (.t 44) 1⟩] none [0, 1, 7, 9]) (.seq (.reg [⟨some 46, none, .mv (.t 9)⟩, ⟨some 47, none, .mv (.t 1)⟩, ⟨some 48, none, .mv (.t 7)⟩, ⟨some 49, none, .bin false .add (.t 47) (.t 48)⟩, ⟨some 50, none, .sub (.t 46) (some (.t 49)) none 1⟩, ⟨some 51, none, .mv (.t 0)⟩, ⟨some 52, none, .mv (.t 1)⟩, ⟨some 53, none, .sub (.t 51) (some (.t 52)) none 1⟩, ⟨some 54, none, .cpy (.t 50) (.t 53) 1⟩] (some 8) [9]) (.seq (.reg [⟨some 55, none, .mv (.t 9)⟩, ⟨some 6, none, .mv (.t 55)⟩] none [6]) (.gh .ret))))) .skip)) (.seq (.reg [⟨some 56, none, .mv (.t 0)⟩, ⟨some 57, none, .mv (.t 8)⟩, ⟨some 58, none, .mv (.t 7)⟩, ⟨some 59, none, .bin false .add (.t 57) (.t 58)⟩, ⟨some 60, none, .sub (.t 56) none (some (.t 59)) 1⟩, ⟨some 0, none, .mv (.t 60)⟩] none [0, 1, 2, 7, 8]) (.seq (.seq (.reg [⟨some 61, none, .mv (.t 2)⟩, ⟨some 62, none, .mv (.t 0)⟩, ⟨some 63, none, .mv (.t 1)⟩, ⟨some 64, none, .mv (.t 7)⟩, ⟨some 65, none, .bin false .add (.t 63) (.t 64)⟩, ⟨some 66, none, .sub (.t 62) (some (.t 65)) none 1⟩, ⟨some 67, none, .ovl (.t 61) (.t 66)⟩, ⟨some 68, none, .not (.t 67)⟩] none [0, 1, 2, 7, 8, 68]) (.cond (.t 68) (.seq (.reg [⟨some 69, none, .mv (.t 0)⟩, ⟨some 70, none, .mv (.t 1)⟩, ⟨some 71, none, .mv (.t 7)⟩, ⟨some 72, none, .bin false .add (.t 70) (.t 71)⟩, ⟨some 73, none, .sub (.t 69) (some (.t 72)) none 1⟩, ⟨some 74, none, .mv (.t 0)⟩, ⟨some 75, none, .mv (.t 1)⟩, ⟨some 76, none, .sub (.t 74) (some (.t 75)) none 1⟩, ⟨some 77, none, .cpy (.t 73) (.t 76) 1⟩] (some 8) [0, 1, 2]) (.seq (.reg [⟨some 78, none, .mv (.t 0)⟩, ⟨some 79, none, .mv (.t 1)⟩, ⟨some 80, none, .sub (.t 78) (some (.t 79)) none 1⟩, ⟨some 81, none, .mv (.t 2)⟩, ⟨some 82, none, .cpy (.t 80) (.t 81) 1⟩] none [0]) (.seq (.reg [⟨some 83, none, .mv (.t 0)⟩, ⟨some 6, none, .mv (.t 83)⟩] none [6]) (.gh .ret)))) .skip)) (.seq (.reg [⟨some 84, none, .mv (.t 0)⟩, ⟨some 85, none, .mv (.t 8)⟩, ⟨some 86, none, .sub (.t 84) (some (.t 85)) none 1⟩, ⟨some 87, none, .mv (.t 2)⟩, ⟨some 88, none, .cpy (.t 86) (.t 87) 1⟩] none [0, 1, 7]) (.seq (.reg [⟨some 89, none, .mv (.t 0)⟩, ⟨some 90, none, .mv (.t 1)⟩, ⟨some 91, none, .sub (.t 89) (some (.t 90)) none 1⟩, ⟨some 92, none, .mv (.t 7)⟩, ⟨some 93, none, .call 69 [(.t 91), (.t 92)]⟩] none [0]) (.seq (.reg [⟨some 94, none, .mv (.t 0)⟩, ⟨some 6, none, .mv (.t 94)⟩] none [6]) (.gh .ret))))))))))))))
theorem chk_InsS : chkX Go.Proofs.Try.prog 95 (Go.Proofs.Try.f62.body.getD .skip) x_InsS = true := by kernel_rfl
theorem rs_InsS : okRs Go.Proofs.Try.prog Go.Proofs.Try.f62.results.toList [.tmp 6] = true := by kernel_rfl
theorem call_InsS : okCallee Go.Proofs.Try.prog 62 = true := by kernel_rfl
def x_InsV : X := (.gh (.seq (.reg [⟨some 6, none, .mv (.k (.z 5))⟩] none [0, 1, 2]) (.seq (.reg [⟨some 10, none, .mv (.t 0)⟩, ⟨some 11, none, .mv (.t 1)⟩, ⟨some 12, none, .sub (.t 10) (some (.t 11)) none 5⟩] none [0, 1, 2]) (.seq (.reg [⟨some 13, none, .mv (.t 2)⟩, ⟨some 14, none, .len (.t 13) false⟩, ⟨some 7, none, .mv (.t 14)⟩] none [0, 1, 2, 7]) (.seq (.seq (.reg [⟨some 15, none, .mv (.t 7)⟩, ⟨some 16, none, .bin false .eql (.t 15) (.k (.c (.int .i64 0)))⟩] none [0, 1, 2, 7, 16]) (.cond (.t 16) (.seq (.reg [⟨some 17, none, .mv (.t 0)⟩, ⟨some 6, none, .mv (.t 17)⟩] none [6]) (.gh .ret)) .skip)) (.seq (.reg [⟨some 18, none, .mv (.t 0)⟩, ⟨some 19, none, .len (.t 18) false⟩, ⟨some 8, none, .mv (.t 19)⟩] none [0, 1, 2, 7, 8]) (.seq (.seq (.reg [⟨some 20, none, .mv (.t 1)⟩, ⟨some 21, none, .mv (.t 8)⟩, ⟨some 22, none, .bin false .eql (.t 20) (.t 21)⟩] none [0, 1, 2, 7, 8, 22]) (.cond (.t 22) (.seq (.reg [⟨some 23, none, .mv (.t 0)⟩, ⟨some 24, none, .mv (.t 2)⟩, ⟨some 25, none, .app (.t 23) (.t 24) 5 80 []⟩, ⟨some 6, none, .mv (.t 25)⟩] none [6]) (.gh .ret)) .skip)) (.seq (.seq (.reg [⟨some 26, none, .mv (.t 8)⟩, ⟨some 27, none, .mv (.t 7)⟩, ⟨some 28, none, .bin false .add (.t 26) (.t 27)⟩, ⟨some 29, none, .mv (.t 0)⟩, ⟨some 30, none, .capr (.t 29)⟩, ⟨some 31, none, .bin false .gtr (.t 28) (.t 30)⟩] none [0, 1, 2, 7, 8, 31]) (.cond (.t 31) (.seq (.reg [⟨some 32, none, .mv (.t 0)⟩, ⟨some 33, none, .mv (.t 1)⟩, ⟨some 34, none, .sub (.t 32) none (some (.t 33)) 5⟩, ⟨some 35, none, .mv (.t 8)⟩, ⟨some 36, none, .mv (.t 7)⟩, ⟨some 37, none, .bin false .add (.t 35) (.t 36)⟩, ⟨some 38, none, .mv (.t 1)⟩, ⟨some 39, none, .bin false .sub (.t 37) (.t 38)⟩, ⟨some 40, none, .apn (.t 34) (.t 39) [(.int .i64 0), (.int .i64 0), (.str ⟨#[]⟩), (.row 1 []), (.row 5 [])] 80⟩, ⟨some 9, none, .mv (.t 40)⟩] none [0, 1, 2, 7, 9]) (.seq (.reg [⟨some 41, none, .mv (.t 9)⟩, ⟨some 42, none, .mv (.t 1)⟩, ⟨some 43, none, .sub (.t 41) (some (.t 42)) none 5⟩, ⟨some 44, none, .mv (.t 2)⟩, ⟨some 45, none, .cpy (.t 43) (.t 44) 5⟩] none [0, 1, 7, 9]) (.seq (.reg [⟨some 46, none, .mv (.t 9)⟩, ⟨some 47, none, .mv (.t 1)⟩, ⟨some 48, none, .mv (.t 7)⟩, ⟨some 49, none, .bin false .add (.t 47) (.t 48)⟩, ⟨some 50, none, .sub (.t 46) (some (.t 49)) none 5⟩, ⟨some 51, none, .mv (.t 0)⟩, ⟨some 52, none, .mv (.t 1)⟩, ⟨some 53, none, .sub (.t 51) (some (.t 52)) none 5⟩, ⟨some 54, none, .cpy (.t 50) (.t 53) 5⟩] (some 8) [9]) (.seq (.reg [⟨some 55, none, .mv (.t 9)⟩, ⟨some 6, none, .mv (.t 55)⟩] none [6]) (.gh .ret))))) .skip)) (.seq (.reg [⟨some 56, none, .mv (.t 0)⟩, ⟨some 57, none, .mv (.t 8)⟩, ⟨some 58, none, .mv (.t 7)⟩, ⟨some 59, none, .bin false .add (.t 57) (.t 58)⟩, ⟨some 60, none, .sub (.t 56) none (some (.t 59)) 5⟩, ⟨some 0, none, .mv (.t 60)⟩] none [0, 1, 2, 7, 8]) (.seq (.seq (.reg [⟨some 61, none, .mv (.t 2)⟩, ⟨some 62, none, .mv (.t 0)⟩, ⟨some 63, none, .mv (.t 1)⟩, ⟨some 64, none, .mv (.t 7)⟩, ⟨some 65, none, .bin false .add (.t 63) (.t 64)⟩, ⟨some 66, none, .sub (.t 62) (some (.t 65)) none 5⟩, ⟨some 67, none, .ovl (.t 61) (.t 66)⟩, ⟨some 68, none, .not (.t 67)⟩] none [0, 1, 2, 7, 8, 68]) (.cond (.t 68) (.seq (.reg [⟨some 69, none, .mv (.t 0)⟩, ⟨some 70, none, .mv (.t 1)⟩, ⟨some 71, none, .mv (.t 7)⟩, ⟨some 72, none, .bin false .add (.t 70) (.t 71)⟩, ⟨some 73, none, .sub (.t 69) (some (.t 72)) none 5⟩, ⟨some 74, none, .mv (.t 0)⟩, ⟨some 75, none, .mv (.t 1)⟩, ⟨some 76, none, .sub (.t 74) (some (.t 75)) none 5⟩, ⟨some 77, none, .cpy (.t 73) (.t 76) 5⟩] (some 8) [0, 1, 2]) (.seq (.reg [⟨some 78, none, .mv (.t 0)⟩, ⟨some 79, none, .mv (.t 1)⟩, ⟨some 80, none, .sub (.t 78) (some (.t 79)) none 5⟩, ⟨some 81, none, .mv (.t 2)⟩, ⟨some 82, none, .cpy (.t 80) (.t 81) 5⟩] none [0]) (.seq (.reg [⟨some 83, none, .mv (.t 0)⟩, ⟨some 6, none, .mv (.t 83)⟩] none [6]) (.gh .ret)))) .skip)) (.seq (.reg [⟨some 84, none, .mv (.t 0)⟩, ⟨some 85, none, .mv (.t 8)⟩, ⟨some 86, none, .sub (.t 84) (some (.t 85)) none 5⟩, ⟨some 87, none, .mv (.t 2)⟩, ⟨some 88, none, .cpy (.t 86) (.t 87) 5⟩] none [0, 1, 7]) (.seq (.reg [⟨some 89, none, .mv (.t 0)⟩, ⟨some 90, none, .mv (.t 1)⟩, ⟨some 91, none, .sub (.t 89) (some (.t 90)) none 5⟩, ⟨some 92, none, .mv (.t 7)⟩, ⟨some 93, none, .call 71 [(.t 91), (.t 92)]⟩] none [0]) (.seq (.reg [⟨some 94, none, .mv (.t 0)⟩, ⟨some 6, none, .mv (.t 94)⟩] none [6]) (.gh .ret))))))))))))))
theorem chk_InsV : chkX Go.Proofs.Try.prog 95 (Go.Proofs.Try.f63.body.getD .skip) x_InsV = true := by kernel_rfl
theorem rs_InsV : okRs Go.Proofs.Try.prog Go.Proofs.Try.f63.results.toList [.tmp 6] = true := by kernel_rfl
theorem call_InsV : okCallee Go.Proofs.Try.prog 63 = true := by kernel_rfl
noncomputable def spInsS  : Spec := Spec.of (ι := (List ByteArray) × Nat × ByteArray) [true, false, false] (fun i => [.own 1 (strs i.1), .d (.one (.int .i64 i.2.1)), .d (.one (.row 1 (strs [i.2.2])))]) (fun i => i.2.1 ≤ i.1.length ∧ lenB 1000000 i.1.length) (fun i => [.own 1 (strs (i.1.take i.2.1 ++ i.2.2 :: i.1.drop i.2.1))]) (fun _ => [.gone, .gone, .gone])
theorem spInsS_inj : ∀ i j : (List ByteArray) × Nat × ByteArray, (fun (i : (List ByteArray) × Nat × ByteArray) => ([.own 1 (strs i.1), .d (.one (.int .i64 i.2.1)), .d (.one (.row 1 (strs [i.2.2])))] : List AV)) i = (fun (i : (List ByteArray) × Nat × ByteArray) => ([.own 1 (strs i.1), .d (.one (.int .i64 i.2.1)), .d (.one (.row 1 (strs [i.2.2])))] : List AV)) j → i = j := by
  rintro ⟨ks, i, s⟩ ⟨ks', i', s'⟩ h
  simp only [Prod.mk.injEq]
  simpa [strs_eq, T.enc_eq, encL_eq, F.enc_eq, encF_eq, Tk.enc_eq, encTk_eq, Gn.enc_eq, ints_eq, Int.natCast_inj] using h
theorem spInsS_md  : (spInsS).md = [true, false, false] := rfl
theorem spInsS_pre  (ks : List ByteArray) (i : Nat) (s : ByteArray) : (spInsS).pre [.own 1 (strs ks), .d (.one (.int .i64 i)), .d (.one (.row 1 (strs [s])))] = (i ≤ ks.length ∧ lenB 1000000 ks.length) := Spec.of_pre' spInsS_inj (ks, i, s)
theorem spInsS_alts  : (spInsS).alts = none := rfl
theorem spInsS_res  (ks : List ByteArray) (i : Nat) (s : ByteArray) : (spInsS).res [.own 1 (strs ks), .d (.one (.int .i64 i)), .d (.one (.row 1 (strs [s])))] = [.own 1 (strs (ks.take i ++ s :: ks.drop i))] := Spec.of_res spInsS_inj (ks, i, s)
theorem spInsS_out  (ks : List ByteArray) (i : Nat) (s : ByteArray) : (spInsS).out [.own 1 (strs ks), .d (.one (.int .i64 i)), .d (.one (.row 1 (strs [s])))] = [.gone, .gone, .gone] := Spec.of_out spInsS_inj (ks, i, s)
theorem InsS_sound : Sound Go.Proofs.Try.prog 62 spInsS := by
  refine sound_fam GOK.nil Go.Proofs.Try.func62 (c := Go.Proofs.Try.f62.body.getD .skip) rfl (n := 95) rfl chk_InsS rs_InsS (fun _ => by simp) ?_ ?_
  · exact spInsS_inj
  · rintro ⟨ks, i, s⟩ ⟨h1, h2⟩
    simp only [lenB] at h1 h2
    simp only [x_InsS]
    refine gh_skip ?_
    have sl : (strs ks).length = ks.length := by simp [strs]
    have s1 : (strs [s]).length = 1 := rfl
    by_cases c : i = ks.length
    · have b1 : ((i : Int) = (ks.length : Int)) = True := eq_true (by omega)
      have e1 : strs ks ++ strs [s] = strs (ks.take i ++ s :: ks.drop i) := by rw [c, List.take_length, List.drop_length]; simp [strs]
      simp only [rg, go_sem, seval, Prod.fst, sl, s1, b1]
      repeat' (first | with_reducible assumption | with_reducible refine And.intro ?_ ?_ | intro _)
      all_goals first | (show _ ≤ (_ : Int); omega) | (show _ < (_ : Int); omega) | (show _ ≤ (_ : Nat); omega) | skip
      refine gh_skip ?_
      simp only [rg, go_sem, seval, Prod.fst, e1]
    · have b1 : ((i : Int) = (ks.length : Int)) = False := eq_false (by omega)
      simp only [rg, go_sem, seval, Prod.fst, sl, s1, b1, capR, Q.toVc]
      repeat' (first | with_reducible assumption | with_reducible refine And.intro ?_ ?_ | intro _)
      all_goals first | (show _ ≤ (_ : Int); omega) | (show _ < (_ : Int); omega) | (show False; omega) | skip
      · -- no room: a new row
        have e2 : ((ks.length : Int) + 1 - i).toNat = ks.length + 1 - i := by omega
        rw [e2] at *
        obtain ⟨A, hA⟩ : ∃ A, List.take i (strs ks) ++ List.replicate (ks.length + 1 - i) [C.str ⟨#[]⟩] = A := ⟨_, rfl⟩
        have hAl : A.length = ks.length + 1 := by rw [← hA, List.length_append, List.length_take, List.length_replicate, sl]; omega
        rw [hA, hAl] at *
        omega
      · have e2 : ((ks.length : Int) + 1 - i).toNat = ks.length + 1 - i := by omega
        rw [e2] at *
        obtain ⟨A, hA⟩ : ∃ A, List.take i (strs ks) ++ List.replicate (ks.length + 1 - i) [C.str ⟨#[]⟩] = A := ⟨_, rfl⟩
        have hAl : A.length = ks.length + 1 := by rw [← hA, List.length_append, List.length_take, List.length_replicate, sl]; omega
        have hAt : A.take i = (strs ks).take i := by rw [← hA]; exact List.take_left' (by rw [List.length_take, sl]; omega)
        rw [hA]
        clear hA
        obtain ⟨B, hB⟩ : ∃ B, List.take i A ++ List.take 1 (strs [s]) ++ List.drop (i + 1) A = B := ⟨_, rfl⟩
        have hBl : B.length = ks.length + 1 := by rw [← hB]; simp only [List.length_append, List.length_take, List.length_drop, hAl, s1]; omega
        have hD : List.take (i + 1) B ++ List.take (ks.length - i) (List.drop i (strs ks)) ++ List.drop (i + 1 + (ks.length - i)) B = strs (ks.take i ++ s :: ks.drop i) := by
          rw [List.drop_of_length_le (l := B) (by omega), List.append_nil, List.take_of_length_le (l := List.drop i (strs ks)) (by rw [List.length_drop, sl]; omega), ← hB, hAt]
          rw [List.take_left' (by simp only [List.length_append, List.length_take, s1, sl]; omega)]
          simp [strs, List.map_take, List.map_drop]
        have m1 : min (ks.length + 1 - i) 1 = 1 := by omega
        have m3 : (i + 1 ≤ ks.length + 1) = True := eq_true (by omega)
        have m4 : (i + 1 + (ks.length - i) ≤ ks.length + 1) = True := eq_true (by omega)
        have m5 : ((i : Int) + 1).toNat = i + 1 := by omega
        simp only [rg, go_sem, seval, Prod.fst, Q.vwOf, PV.srcB, hAl, hB, hBl, hD, m1, m3, m4, m5, sl, s1, Nat.min_self]
        repeat' (first | with_reducible assumption | with_reducible refine And.intro ?_ ?_ | intro _)
        all_goals first | (show _ ≤ (_ : Int); omega) | (show _ < (_ : Int); omega) | (show _ ≤ (_ : Nat); omega) | (show False; omega) | skip
        · rw [List.length_drop, sl]; exact Nat.le_refl _
        refine gh_skip ?_
        simp only [rg, go_sem, seval, Prod.fst]
      · -- room: in place
        have e2 : ((ks.length : Int) + 1).toNat = ks.length + 1 := by omega
        obtain ⟨B, hB⟩ : ∃ B, List.take (i + 1) (strs ks) ++ List.take (ks.length - i) (List.drop i (strs ks)) = B := ⟨_, rfl⟩
        have hBl : B.length = ks.length + 1 := by rw [← hB]; simp only [List.length_append, List.length_take, List.length_drop, sl]; omega
        have hD : List.take i B ++ List.take 1 (strs [s]) ++ List.drop (i + 1) B = strs (ks.take i ++ s :: ks.drop i) := by
          rw [← hB, List.drop_left' (by rw [List.length_take, sl]; omega), List.take_append_of_le_length (by rw [List.length_take, sl]; omega), List.take_take, Nat.min_eq_left (by omega), List.take_of_length_le (l := List.drop i (strs ks)) (by rw [List.length_drop, sl]; exact Nat.le_refl _)]
          simp [strs, List.map_take, List.map_drop]
        have m1 : min (ks.length - i) (ks.length + 1 - i) = ks.length - i := by omega
        have m2 : min (ks.length + 1 - i) 1 = 1 := by omega
        have m3 : (i + 1 + (ks.length - i) ≤ ks.length) = False := eq_false (by omega)
        have m4 : (i + 1 ≤ ks.length + 1) = True := eq_true (by omega)
        have m5 : ((i : Int) + 1).toNat = i + 1 := by omega
        have m6 : (30 < 1000000000) = True := by decide
        simp only [rg, go_sem, seval, Prod.fst, Q.vwOf, PV.srcB, Q.killW, hB, hBl, hD, e2, m1, m2, m3, m4, m5, m6, sl, s1]
        repeat' (first | with_reducible assumption | with_reducible refine And.intro ?_ ?_ | intro _)
        all_goals first | (show _ ≤ (_ : Int); omega) | (show _ < (_ : Int); omega) | (show _ ≤ (_ : Nat); omega) | (show False; omega) | skip
        · rw [List.length_drop, sl]; exact Nat.le_refl _
        have hL : (strs (ks.take i ++ s :: ks.drop i)).length = ks.length + 1 := by rw [← hD]; simp only [List.length_append, List.length_take, List.length_drop, hBl, s1]; omega
        have hT : (strs (ks.take i ++ s :: ks.drop i)).take (ks.length + 1) = strs (ks.take i ++ s :: ks.drop i) := List.take_of_length_le (Nat.le_of_eq hL)
        refine gh_le (Le.cutC (t := 6) (r := 30) (d := 77) (sz := 1) (n := ks.length + 1) rfl rfl (by rw [hL]; exact Nat.le_refl _) (by decide)) ?_
        simp only [rg, go_sem, seval, Prod.fst, hT]
noncomputable def spInsV  : Spec := Spec.of (ι := (List T) × Nat × T) [true, false, false] (fun i => [.own 5 (encL i.1), .d (.one (.int .i64 i.2.1)), .d (.one (.row 5 (encL [i.2.2])))]) (fun i => i.2.1 ≤ i.1.length ∧ lenB 1000000 i.1.length) (fun i => [.own 5 (encL (i.1.take i.2.1 ++ i.2.2 :: i.1.drop i.2.1))]) (fun _ => [.gone, .gone, .gone])
theorem spInsV_inj : ∀ i j : (List T) × Nat × T, (fun (i : (List T) × Nat × T) => ([.own 5 (encL i.1), .d (.one (.int .i64 i.2.1)), .d (.one (.row 5 (encL [i.2.2])))] : List AV)) i = (fun (i : (List T) × Nat × T) => ([.own 5 (encL i.1), .d (.one (.int .i64 i.2.1)), .d (.one (.row 5 (encL [i.2.2])))] : List AV)) j → i = j := by
  rintro ⟨ks, i, s⟩ ⟨ks', i', s'⟩ h
  simp only [Prod.mk.injEq]
  simpa [strs_eq, T.enc_eq, encL_eq, F.enc_eq, encF_eq, Tk.enc_eq, encTk_eq, Gn.enc_eq, ints_eq, Int.natCast_inj] using h
theorem spInsV_md  : (spInsV).md = [true, false, false] := rfl
theorem spInsV_pre  (ks : List T) (i : Nat) (s : T) : (spInsV).pre [.own 5 (encL ks), .d (.one (.int .i64 i)), .d (.one (.row 5 (encL [s])))] = (i ≤ ks.length ∧ lenB 1000000 ks.length) := Spec.of_pre' spInsV_inj (ks, i, s)
theorem spInsV_alts  : (spInsV).alts = none := rfl
theorem spInsV_res  (ks : List T) (i : Nat) (s : T) : (spInsV).res [.own 5 (encL ks), .d (.one (.int .i64 i)), .d (.one (.row 5 (encL [s])))] = [.own 5 (encL (ks.take i ++ s :: ks.drop i))] := Spec.of_res spInsV_inj (ks, i, s)
theorem spInsV_out  (ks : List T) (i : Nat) (s : T) : (spInsV).out [.own 5 (encL ks), .d (.one (.int .i64 i)), .d (.one (.row 5 (encL [s])))] = [.gone, .gone, .gone] := Spec.of_out spInsV_inj (ks, i, s)
theorem InsV_sound : Sound Go.Proofs.Try.prog 63 spInsV := by
  refine sound_fam GOK.nil Go.Proofs.Try.func63 (c := Go.Proofs.Try.f63.body.getD .skip) rfl (n := 95) rfl chk_InsV rs_InsV (fun _ => by simp) ?_ ?_
  · exact spInsV_inj
  · rintro ⟨ks, i, s⟩ ⟨h1, h2⟩
    simp only [lenB] at h1 h2
    simp only [x_InsV]
    refine gh_skip ?_
    have sl : (encL ks).length = ks.length := encL_len ks
    have s1 : (encL [s]).length = 1 := rfl
    by_cases c : i = ks.length
    · have b1 : ((i : Int) = (ks.length : Int)) = True := eq_true (by omega)
      have e1 : encL ks ++ encL [s] = encL (ks.take i ++ s :: ks.drop i) := by rw [c, List.take_length, List.drop_length]; simp [encL_map]
      simp only [rg, go_sem, seval, Prod.fst, sl, s1, b1]
      repeat' (first | with_reducible assumption | with_reducible refine And.intro ?_ ?_ | intro _)
      all_goals first | (show _ ≤ (_ : Int); omega) | (show _ < (_ : Int); omega) | (show _ ≤ (_ : Nat); omega) | skip
      refine gh_skip ?_
      simp only [rg, go_sem, seval, Prod.fst, e1]
    · have b1 : ((i : Int) = (ks.length : Int)) = False := eq_false (by omega)
      simp only [rg, go_sem, seval, Prod.fst, sl, s1, b1, capR, Q.toVc]
      repeat' (first | with_reducible assumption | with_reducible refine And.intro ?_ ?_ | intro _)
      all_goals first | (show _ ≤ (_ : Int); omega) | (show _ < (_ : Int); omega) | (show False; omega) | skip
      · -- no room: a new row
        have e2 : ((ks.length : Int) + 1 - i).toNat = ks.length + 1 - i := by omega
        rw [e2] at *
        obtain ⟨A, hA⟩ : ∃ A, List.take i (encL ks) ++ List.replicate (ks.length + 1 - i) [C.int .i64 0, C.int .i64 0, C.str ⟨#[]⟩, C.row 1 [], C.row 5 []] = A := ⟨_, rfl⟩
        have hAl : A.length = ks.length + 1 := by rw [← hA, List.length_append, List.length_take, List.length_replicate, sl]; omega
        rw [hA, hAl] at *
        omega
      · have e2 : ((ks.length : Int) + 1 - i).toNat = ks.length + 1 - i := by omega
        rw [e2] at *
        obtain ⟨A, hA⟩ : ∃ A, List.take i (encL ks) ++ List.replicate (ks.length + 1 - i) [C.int .i64 0, C.int .i64 0, C.str ⟨#[]⟩, C.row 1 [], C.row 5 []] = A := ⟨_, rfl⟩
        have hAl : A.length = ks.length + 1 := by rw [← hA, List.length_append, List.length_take, List.length_replicate, sl]; omega
        have hAt : A.take i = (encL ks).take i := by rw [← hA]; exact List.take_left' (by rw [List.length_take, sl]; omega)
        rw [hA]
        clear hA
        obtain ⟨B, hB⟩ : ∃ B, List.take i A ++ List.take 1 (encL [s]) ++ List.drop (i + 1) A = B := ⟨_, rfl⟩
        have hBl : B.length = ks.length + 1 := by rw [← hB]; simp only [List.length_append, List.length_take, List.length_drop, hAl, s1]; omega
        have hD : List.take (i + 1) B ++ List.take (ks.length - i) (List.drop i (encL ks)) ++ List.drop (i + 1 + (ks.length - i)) B = encL (ks.take i ++ s :: ks.drop i) := by
          rw [List.drop_of_length_le (l := B) (by omega), List.append_nil, List.take_of_length_le (l := List.drop i (encL ks)) (by rw [List.length_drop, sl]; omega), ← hB, hAt]
          rw [List.take_left' (by simp only [List.length_append, List.length_take, s1, sl]; omega)]
          simp [encL_map, List.map_take, List.map_drop]
        have m1 : min (ks.length + 1 - i) 1 = 1 := by omega
        have m3 : (i + 1 ≤ ks.length + 1) = True := eq_true (by omega)
        have m4 : (i + 1 + (ks.length - i) ≤ ks.length + 1) = True := eq_true (by omega)
        have m5 : ((i : Int) + 1).toNat = i + 1 := by omega
        simp only [rg, go_sem, seval, Prod.fst, Q.vwOf, PV.srcB, hAl, hB, hBl, hD, m1, m3, m4, m5, sl, s1, Nat.min_self]
        repeat' (first | with_reducible assumption | with_reducible refine And.intro ?_ ?_ | intro _)
        all_goals first | (show _ ≤ (_ : Int); omega) | (show _ < (_ : Int); omega) | (show _ ≤ (_ : Nat); omega) | (show False; omega) | skip
        · rw [List.length_drop, sl]; exact Nat.le_refl _
        refine gh_skip ?_
        simp only [rg, go_sem, seval, Prod.fst]
      · -- room: in place
        have e2 : ((ks.length : Int) + 1).toNat = ks.length + 1 := by omega
        obtain ⟨B, hB⟩ : ∃ B, List.take (i + 1) (encL ks) ++ List.take (ks.length - i) (List.drop i (encL ks)) = B := ⟨_, rfl⟩
        have hBl : B.length = ks.length + 1 := by rw [← hB]; simp only [List.length_append, List.length_take, List.length_drop, sl]; omega
        have hD : List.take i B ++ List.take 1 (encL [s]) ++ List.drop (i + 1) B = encL (ks.take i ++ s :: ks.drop i) := by
          rw [← hB, List.drop_left' (by rw [List.length_take, sl]; omega), List.take_append_of_le_length (by rw [List.length_take, sl]; omega), List.take_take, Nat.min_eq_left (by omega), List.take_of_length_le (l := List.drop i (encL ks)) (by rw [List.length_drop, sl]; exact Nat.le_refl _)]
          simp [encL_map, List.map_take, List.map_drop]
        have m1 : min (ks.length - i) (ks.length + 1 - i) = ks.length - i := by omega
        have m2 : min (ks.length + 1 - i) 1 = 1 := by omega
        have m3 : (i + 1 + (ks.length - i) ≤ ks.length) = False := eq_false (by omega)
        have m4 : (i + 1 ≤ ks.length + 1) = True := eq_true (by omega)
        have m5 : ((i : Int) + 1).toNat = i + 1 := by omega
        have m6 : (30 < 1000000000) = True := by decide
        simp only [rg, go_sem, seval, Prod.fst, Q.vwOf, PV.srcB, Q.killW, hB, hBl, hD, e2, m1, m2, m3, m4, m5, m6, sl, s1]
        repeat' (first | with_reducible assumption | with_reducible refine And.intro ?_ ?_ | intro _)
        all_goals first | (show _ ≤ (_ : Int); omega) | (show _ < (_ : Int); omega) | (show _ ≤ (_ : Nat); omega) | (show False; omega) | skip
        · rw [List.length_drop, sl]; exact Nat.le_refl _
        have hL : (encL (ks.take i ++ s :: ks.drop i)).length = ks.length + 1 := by rw [← hD]; simp only [List.length_append, List.length_take, List.length_drop, hBl, s1]; omega
        have hT : (encL (ks.take i ++ s :: ks.drop i)).take (ks.length + 1) = encL (ks.take i ++ s :: ks.drop i) := List.take_of_length_le (Nat.le_of_eq hL)
        refine gh_le (Le.cutC (t := 6) (r := 30) (d := 77) (sz := 5) (n := ks.length + 1) rfl rfl (by rw [hL]; exact Nat.le_refl _) (by decide)) ?_
        simp only [rg, go_sem, seval, Prod.fst, hT]
end Go.Proofs.Pw
/- What is drawn: rows of trees by keys. -/
set_option linter.unusedSimpArgs false
set_option maxRecDepth 20000
namespace Go.Proofs.Pw
set_option linter.unusedSectionVars false
variable [Globs]
def x_l2Put : X := (.seq (.reg [⟨some 3, none, .box (.t 0) (some 5)⟩, ⟨some 5, none, .box (.t 2) (some 5)⟩, ⟨some 6, none, .alloc [(.c (.int .i64 0)), (.c (.int .i64 0)), (.c (.str ⟨#[]⟩)), (.z 1), (.z 5)]⟩] none [1, 3, 5, 6]) (.seq (.reg [⟨some 10, none, .build [(.c (.int .i64 0)), (.c (.int .i64 0)), (.c (.str ⟨#[]⟩)), (.z 1), (.z 5)] [(0, (.k (.c (.int .i64 6))), none)]⟩, ⟨some 7, none, .alloc [(.c (.int .i64 0)), (.c (.int .i64 0)), (.c (.str ⟨#[]⟩)), (.z 1), (.z 5)]⟩, ⟨none, none, .st (.t 7) (.t 10) (some 5)⟩] none [1, 3, 5, 6, 7]) (.seq (.reg [⟨some 8, none, .mv (.k (.c (.bool false)))⟩] none [1, 3, 5, 6, 7, 8]) (.seq (.seq (.reg [⟨some 9, none, .mv (.k (.c (.int .i64 0)))⟩] none [1, 3, 5, 6, 7, 8, 9]) (.block 0 (.loop (.seq (.seq (.reg [⟨some 11, none, .mv (.t 9)⟩, ⟨some 12, none, .fa (.t 3) 3⟩, ⟨some 13, none, .load (.t 12) none⟩, ⟨some 14, none, .len (.t 13) false⟩, ⟨some 15, none, .bin false .lss (.t 11) (.t 14)⟩] none [1, 3, 5, 6, 7, 8, 9, 15]) (.cond (.t 15) .skip (.exit 0))) (.seq (.block 1 (.seq (.seq (.reg [⟨some 18, none, .mv (.t 8)⟩, ⟨some 19, none, .not (.t 18)⟩, ⟨some 20, none, .mv (.t 19)⟩, ⟨some 21, some (20, true), .fa (.t 3) 3⟩, ⟨some 22, some (20, true), .load (.t 21) none⟩, ⟨some 23, some (20, true), .mv (.t 9)⟩, ⟨some 24, some (20, true), .ia (.t 22) (.t 23) 1⟩, ⟨some 25, some (20, true), .load (.t 24) none⟩, ⟨some 26, some (20, true), .mv (.t 1)⟩, ⟨some 27, some (20, true), .bin false .geq (.t 25) (.t 26)⟩, ⟨some 28, none, .pick (.t 20) (.t 27) (.k (.c (.bool false)))⟩] none [1, 3, 5, 6, 7, 8, 9, 28]) (.cond (.t 28) (.seq (.reg [⟨some 29, none, .fa (.t 7) 3⟩, ⟨some 30, none, .load (.t 29) none⟩, ⟨some 31, none, .mv (.t 1)⟩, ⟨some 32, none, .bsl 1 [((.t 31), none)]⟩, ⟨some 33, none, .app (.t 30) (.t 32) 1 16 []⟩, ⟨some 34, none, .fa (.t 7) 3⟩, ⟨none, none, .st (.t 34) (.t 33) none⟩] none [1, 3, 5, 6, 7, 9]) (.seq (.reg [⟨some 35, none, .fa (.t 7) 4⟩, ⟨some 36, none, .load (.t 35) none⟩, ⟨some 37, none, .load (.t 5) (some 5)⟩, ⟨some 38, none, .bsl 5 [((.t 37), (some 5))]⟩, ⟨some 39, none, .app (.t 36) (.t 38) 5 80 []⟩, ⟨some 40, none, .fa (.t 7) 4⟩, ⟨none, none, .st (.t 40) (.t 39) none⟩] none [1, 3, 5, 6, 7, 9]) (.reg [⟨some 8, none, .mv (.k (.c (.bool true)))⟩] none [1, 3, 5, 6, 7, 8, 9]))) .skip)) (.seq (.reg [⟨some 41, none, .fa (.t 3) 3⟩, ⟨some 42, none, .load (.t 41) none⟩, ⟨some 43, none, .mv (.t 9)⟩, ⟨some 44, none, .ia (.t 42) (.t 43) 1⟩, ⟨some 45, none, .load (.t 44) none⟩, ⟨some 46, none, .mv (.t 1)⟩, ⟨some 47, none, .bin false .neq (.t 45) (.t 46)⟩] none [1, 3, 5, 6, 7, 8, 9, 47]) (.cond (.t 47) (.seq (.reg [⟨some 48, none, .fa (.t 7) 3⟩, ⟨some 49, none, .load (.t 48) none⟩, ⟨some 50, none, .fa (.t 3) 3⟩, ⟨some 51, none, .load (.t 50) none⟩, ⟨some 52, none, .mv (.t 9)⟩, ⟨some 53, none, .ia (.t 51) (.t 52) 1⟩, ⟨some 54, none, .load (.t 53) none⟩, ⟨some 55, none, .bsl 1 [((.t 54), none)]⟩, ⟨some 56, none, .app (.t 49) (.t 55) 1 16 []⟩, ⟨some 57, none, .fa (.t 7) 3⟩, ⟨none, none, .st (.t 57) (.t 56) none⟩] (some 8) [1, 3, 5, 6, 7, 8, 9]) (.reg [⟨some 58, none, .fa (.t 7) 4⟩, ⟨some 59, none, .load (.t 58) none⟩, ⟨some 60, none, .fa (.t 3) 4⟩, ⟨some 61, none, .load (.t 60) none⟩, ⟨some 62, none, .mv (.t 9)⟩, ⟨some 63, none, .ia (.t 61) (.t 62) 5⟩, ⟨some 64, none, .load (.t 63) (some 5)⟩, ⟨some 65, none, .bsl 5 [((.t 64), (some 5))]⟩, ⟨some 66, none, .app (.t 59) (.t 65) 5 80 []⟩, ⟨some 67, none, .fa (.t 7) 4⟩, ⟨none, none, .st (.t 67) (.t 66) none⟩] (some 8) [1, 3, 5, 6, 7, 8, 9])) .skip)))) (.reg [⟨some 16, none, .mv (.t 9)⟩, ⟨some 17, none, .bin false .add (.t 16) (.k (.c (.int .i64 1)))⟩, ⟨some 9, none, .mv (.t 17)⟩] none [1, 3, 5, 6, 7, 8, 9])))))) (.seq (.seq (.reg [⟨some 68, none, .mv (.t 8)⟩, ⟨some 69, none, .not (.t 68)⟩] none [1, 5, 6, 7, 69]) (.cond (.t 69) (.seq (.reg [⟨some 70, none, .fa (.t 7) 3⟩, ⟨some 71, none, .load (.t 70) none⟩, ⟨some 72, none, .mv (.t 1)⟩, ⟨some 73, none, .bsl 1 [((.t 72), none)]⟩, ⟨some 74, none, .app (.t 71) (.t 73) 1 16 []⟩, ⟨some 75, none, .fa (.t 7) 3⟩, ⟨none, none, .st (.t 75) (.t 74) none⟩] none [5, 6, 7]) (.reg [⟨some 76, none, .fa (.t 7) 4⟩, ⟨some 77, none, .load (.t 76) none⟩, ⟨some 78, none, .load (.t 5) (some 5)⟩, ⟨some 79, none, .bsl 5 [((.t 78), (some 5))]⟩, ⟨some 80, none, .app (.t 77) (.t 79) 5 80 []⟩, ⟨some 81, none, .fa (.t 7) 4⟩, ⟨none, none, .st (.t 81) (.t 80) none⟩] none [6, 7])) .skip)) (.seq (.reg [⟨some 82, none, .load (.t 7) (some 5)⟩, ⟨none, none, .st (.t 6) (.t 82) (some 5)⟩] none [6]) .ret))))))
theorem chk_l2Put : chkX Go.Proofs.Try.prog 83 (Go.Proofs.Try.f55.body.getD .skip) x_l2Put = true := by kernel_rfl
theorem rs_l2Put : okRs Go.Proofs.Try.prog Go.Proofs.Try.f55.results.toList [.cell 6 (some 5)] = true := by kernel_rfl
theorem call_l2Put : okCallee Go.Proofs.Try.prog 55 = true := by kernel_rfl
theorem mulB16 {n : Nat} (h : n ≤ 2000002) : n * 16 ≤ 140737488355328 := by omega
theorem mulB80 {n : Nat} (h : n ≤ 2000002) : n * 80 ≤ 140737488355328 := by omega
noncomputable def putT (v : T) (key : ByteArray) (x : T) : T := .mk 6 0 ⟨#[]⟩ (putS key x false v.keys v.list).1 (putS key x false v.keys v.list).2
noncomputable def spL2Put  : Spec := Spec.of (ι := T × ByteArray × T) [false, false, false] (fun i => [.d (.agg i.1.enc), .d (.one (.str i.2.1)), .d (.agg i.2.2.enc)]) (fun i => i.1.fit 140737488355328 ∧ lenB 1000000 i.1.keys.length ∧ i.1.keys.length = i.1.list.length) (fun i => [.d (.agg (putT i.1 i.2.1 i.2.2).enc)]) (fun _ => [.gone, .gone, .gone])
theorem spL2Put_inj : ∀ i j : T × ByteArray × T, (fun (i : T × ByteArray × T) => ([.d (.agg i.1.enc), .d (.one (.str i.2.1)), .d (.agg i.2.2.enc)] : List AV)) i = (fun (i : T × ByteArray × T) => ([.d (.agg i.1.enc), .d (.one (.str i.2.1)), .d (.agg i.2.2.enc)] : List AV)) j → i = j := by
  rintro ⟨v, key, x⟩ ⟨v', key', x'⟩ h
  simp only [Prod.mk.injEq]
  simpa [strs_eq, T.enc_eq, encL_eq, F.enc_eq, encF_eq, Tk.enc_eq, encTk_eq, Gn.enc_eq, ints_eq, rdC_eq, and_assoc] using h
theorem spL2Put_md  : (spL2Put).md = [false, false, false] := rfl
theorem spL2Put_pre  (v : T) (key : ByteArray) (x : T) : (spL2Put).pre [.d (.agg v.enc), .d (.one (.str key)), .d (.agg x.enc)] = (v.fit 140737488355328 ∧ lenB 1000000 v.keys.length ∧ v.keys.length = v.list.length) := Spec.of_pre' spL2Put_inj (v, key, x)
theorem spL2Put_alts  : (spL2Put).alts = none := rfl
theorem spL2Put_res  (v : T) (key : ByteArray) (x : T) : (spL2Put).res [.d (.agg v.enc), .d (.one (.str key)), .d (.agg x.enc)] = [.d (.agg (putT v key x).enc)] := Spec.of_res spL2Put_inj (v, key, x)
theorem spL2Put_out  (v : T) (key : ByteArray) (x : T) : (spL2Put).out [.d (.agg v.enc), .d (.one (.str key)), .d (.agg x.enc)] = [.gone, .gone, .gone] := Spec.of_out spL2Put_inj (v, key, x)
set_option maxHeartbeats 10000000 in
theorem l2Put_sound : Sound Go.Proofs.Try.prog 55 spL2Put := by
  refine sound_fam GOK.nil Go.Proofs.Try.func55 (c := Go.Proofs.Try.f55.body.getD .skip) rfl (n := 83) rfl chk_l2Put rs_l2Put (fun _ => by simp) ?_ ?_
  · exact spL2Put_inj
  · rintro ⟨v, key, x⟩ ⟨h1, h2, h3⟩
    obtain ⟨k, n, s, ks, l⟩ := v
    have h4 : (ks.length : Int) ≤ 1000000 := h2
    have h5 : ks.length = l.length := h3
    have fx := T.enc_len x
    simp only [x_l2Put, rg, go_sem, seval, Prod.fst, T.enc, fx]
    refine pw_loop (ι := Nat × Bool × List ByteArray × List T) (fun i => ks.length - i.1)
      (fun i => i.1 ≤ ks.length ∧ i.2.2.1 ++ (putS key x i.2.1 (ks.drop i.1) (l.drop i.1)).1 = (putS key x false ks l).1 ∧ i.2.2.2 ++ (putS key x i.2.1 (ks.drop i.1) (l.drop i.1)).2 = (putS key x false ks l).2 ∧ i.2.2.1.length ≤ 2 * i.1 ∧ i.2.2.2.length ≤ 2 * i.1)
      (fun i => ⟨[(1, .q (.c (.str key))), (3, .q (.box 3 0)), (5, .q (.box 5 0)), (6, .q (.box 6 0)), (7, .q (.box 7 0)), (8, .q (.c (.bool i.2.1))), (9, .q (.c (.int .i64 i.1)))],
        [(3, [.c (.int .i64 k), .c (.int .i64 n), .c (.str s), .c (.row 1 (strs ks)), .c (.row 5 (encL l))]), (5, x.enc.map .c), (6, [.c (.int .i64 0), .c (.int .i64 0), .c (.str ⟨#[]⟩), .z 1, .z 5]), (7, [.c (.int .i64 6), .c (.int .i64 0), .c (.str ⟨#[]⟩), .own 301, .own 302])],
        [(301, 1, strs i.2.2.1), (302, 5, encL i.2.2.2)]⟩) (0, false, [], []) ⟨by simp, by simp, by simp, by simp, by simp⟩ ?_ ?_
    · refine (Le.ownB (b := 7) (j := 3) (d := 301) (sz := 1) (qs := [.c (.int .i64 6), .c (.int .i64 0), .c (.str ⟨#[]⟩), .z 1, .z 5]) (by decide) (by simp) rfl (by simp [Q.killO]) (by simp [PV.map, Q.killO])).trans
        ((Le.ownB (b := 7) (j := 4) (d := 302) (sz := 5) (qs := [.c (.int .i64 6), .c (.int .i64 0), .c (.str ⟨#[]⟩), .own 301, .z 5]) (by decide) (by simp [upd]) rfl (by simp [upd, del, Q.killO]) (by simp [PV.map, Q.killO])).trans (Le.of_eq (by simp [upd, del, strs, encL])))
    · rintro ⟨i, d, a, b⟩ ⟨g1, g2, g3, g4, g5⟩
      simp only at g1 g2 g3 g4 g5
      rcases Nat.lt_or_ge i ks.length with hlt | hge
      · obtain ⟨y, hy, hd, _⟩ := drop_at hlt
        obtain ⟨t, ht, hd', _⟩ := drop_at (l := l) (i := i) (by omega)
        have b1 : ((i : Int) < (ks.length : Int)) = True := eq_true (by omega)
        have a1 := strs_at hy
        have a2 := encL_at ht
        have f1 := T.enc_len t
        have hi : i < l.length := by omega
        rw [hd, hd'] at g2 g3
        simp only [putS] at g2 g3
        cases d with
        | true =>
          by_cases e : y = key
          · have e' : (y = key) = True := eq_true e
            simp only [rg, go_sem, seval, Prod.fst, b1, a1, a2, e', f1, fx, encL_len, encL_appL, encL_one, List.length_append]
            repeat' (first | with_reducible assumption | with_reducible refine And.intro ?_ ?_ | intro _)
            all_goals first | omega | assumption | skip
            refine ⟨(i + 1, true, a, b), ⟨by show i + 1 ≤ _; omega, ?_, ?_, by show a.length ≤ 2 * (i + 1); omega, by show b.length ≤ 2 * (i + 1); omega⟩, by show ks.length - (i + 1) < _; omega, Le.refl _⟩
            · rw [← g2]; simp [e]
            · rw [← g3]; simp [e]
          · have e' : (y = key) = False := eq_false e
            simp only [rg, go_sem, seval, Prod.fst, b1, a1, a2, e', f1, fx, encL_len, encL_appL, encL_one, List.length_append]
            repeat' (first | with_reducible assumption | with_reducible refine And.intro ?_ ?_ | intro _)
            all_goals first | omega | assumption | skip
            refine ⟨(i + 1, true, a ++ [y], b ++ [t]), ⟨by show i + 1 ≤ _; omega, ?_, ?_, by show (a ++ [y]).length ≤ 2 * (i + 1); simp; omega, by show (b ++ [t]).length ≤ 2 * (i + 1); simp; omega⟩, by show ks.length - (i + 1) < _; omega, Le.of_eq (by simp [strs])⟩
            · rw [← g2]; simp [e]
            · rw [← g3]; simp [e]
        | false =>
          by_cases c : sl y key
          · have c' : sl y key = True := eq_true c
            have e : ¬ y = key := fun h => by rw [h] at c; exact sl_irrefl _ c
            have e' : (y = key) = False := eq_false e
            simp only [rg, go_sem, seval, Prod.fst, b1, a1, a2, c', e', f1, fx, encL_len, encL_appL, encL_one, List.length_append]
            repeat' (first | with_reducible assumption | with_reducible refine And.intro ?_ ?_ | intro _)
            all_goals first | omega | assumption | skip
            refine ⟨(i + 1, false, a ++ [y], b ++ [t]), ⟨by show i + 1 ≤ _; omega, ?_, ?_, by show (a ++ [y]).length ≤ 2 * (i + 1); simp; omega, by show (b ++ [t]).length ≤ 2 * (i + 1); simp; omega⟩, by show ks.length - (i + 1) < _; omega, Le.of_eq (by simp [strs])⟩
            · rw [← g2]; simp [e, c]
            · rw [← g3]; simp [e, c]
          · have c' : sl y key = False := eq_false c
            by_cases e : y = key
            · have e' : (y = key) = True := eq_true e
              simp only [rg, go_sem, seval, Prod.fst, b1, a1, a2, c', e', f1, fx, encL_len, encL_appL, encL_one, List.length_append]
              repeat' (first | with_reducible assumption | with_reducible refine And.intro ?_ ?_ | intro _)
              all_goals first | omega | assumption | skip
              refine ⟨(i + 1, true, a ++ [key], b ++ [x]), ⟨by show i + 1 ≤ _; omega, ?_, ?_, by show (a ++ [key]).length ≤ 2 * (i + 1); simp; omega, by show (b ++ [x]).length ≤ 2 * (i + 1); simp; omega⟩, by show ks.length - (i + 1) < _; omega, Le.of_eq (by simp [strs])⟩
              · rw [e] at g2; rw [← g2]; simp [sl_irrefl]
              · rw [e] at g3; rw [← g3]; simp [sl_irrefl]
            · have e' : (y = key) = False := eq_false e
              simp only [rg, go_sem, seval, Prod.fst, b1, a1, a2, c', e', f1, fx, encL_len, encL_appL, encL_one, List.length_append]
              have ha : a.length + 1 + 1 ≤ 2000002 := by omega
              have hb : b.length + 1 + 1 ≤ 2000002 := by omega
              clear b1 c' e'
              repeat' (first | with_reducible assumption | with_reducible refine And.intro ?_ ?_ | intro _)
              · omega
              · omega
              · omega
              · exact mulB16 ha
              · omega
              · exact mulB80 hb
              · omega
              · omega
              · refine ⟨(i + 1, true, a ++ [key, y], b ++ [x, t]), ⟨by show i + 1 ≤ _; omega, ?_, ?_, by show (a ++ [key, y]).length ≤ 2 * (i + 1); simp; omega, by show (b ++ [x, t]).length ≤ 2 * (i + 1); simp; omega⟩, by show ks.length - (i + 1) < _; omega, Le.of_eq (by simp [strs, encL_app, encL])⟩
                · rw [← g2]; simp [e, c]
                · rw [← g3]; simp [e, c]
      · obtain rfl : i = ks.length := by omega
        have b1 : ((ks.length : Int) < (ks.length : Int)) = False := eq_false (by omega)
        rw [List.drop_length] at g2 g3
        cases d with
        | true =>
          simp only [putS, if_true, List.append_nil] at g2 g3
          simp only [rg, go_sem, seval, Prod.fst, b1, fx, encL_len, encL_appL, encL_one, List.length_append]
          repeat' (first | with_reducible assumption | with_reducible refine And.intro ?_ ?_ | intro _)
          all_goals first | omega | assumption | skip
          all_goals simp [putT, T.keys, T.list, T.enc, g2, g3]
        | false =>
          simp only [putS] at g2 g3
          simp only [rg, go_sem, seval, Prod.fst, b1, fx, encL_len, encL_appL, encL_one, List.length_append]
          repeat' (first | with_reducible assumption | with_reducible refine And.intro ?_ ?_ | intro _)
          all_goals first | omega | assumption | skip
          all_goals simp [putT, T.keys, T.list, T.enc, ← g2, ← g3, strs]
structure goodM (m : Nat) (z : Int) (v : T) : Prop where
  f : v.fit 1000
  e : v.keys.length = v.list.length
  m : v.keys.length ≤ m
  z : sizeT v ≤ z
end Go.Proofs.Pw
/- A key looked for among keys in order; a tree put at a key. -/
set_option linter.unusedSimpArgs false
set_option maxRecDepth 20000
namespace Go.Proofs.Pw
set_option linter.unusedSectionVars false
variable [Globs]
def x_CloneS : X := (.seq (.reg [⟨some 2, none, .mv (.k (.z 1))⟩] none [0]) (.seq (.seq (.reg [⟨some 3, none, .mv (.t 0)⟩, ⟨some 4, none, .isn (.t 3)⟩] none [0, 4]) (.cond (.t 4) (.seq (.reg [⟨some 2, none, .mv (.k (.z 1))⟩] none [2]) .ret) .skip)) (.seq (.reg [⟨some 5, none, .bsl 1 []⟩, ⟨some 6, none, .mv (.t 0)⟩, ⟨some 7, none, .app (.t 5) (.t 6) 1 16 []⟩, ⟨some 2, none, .mv (.t 7)⟩] none [2]) .ret)))
theorem chk_CloneS : chkX Go.Proofs.Try.prog 8 (Go.Proofs.Try.f60.body.getD .skip) x_CloneS = true := by kernel_rfl
theorem rs_CloneS : okRs Go.Proofs.Try.prog Go.Proofs.Try.f60.results.toList [.tmp 2] = true := by kernel_rfl
theorem call_CloneS : okCallee Go.Proofs.Try.prog 60 = true := by kernel_rfl
def x_lessS : X := (.seq (.reg [⟨some 4, none, .mv (.k (.c (.bool false)))⟩] none [0, 1]) (.seq (.reg [⟨some 5, none, .mv (.t 0)⟩, ⟨some 6, none, .call 72 [(.t 5)]⟩, ⟨some 7, none, .mv (.t 6)⟩, ⟨some 8, some (7, true), .mv (.t 1)⟩, ⟨some 9, some (7, true), .call 72 [(.t 8)]⟩, ⟨some 10, some (7, true), .not (.t 9)⟩, ⟨some 11, none, .pick (.t 7) (.t 10) (.k (.c (.bool false)))⟩, ⟨some 12, none, .mv (.t 11)⟩, ⟨some 13, some (12, false), .mv (.t 0)⟩, ⟨some 14, some (12, false), .mv (.t 1)⟩, ⟨some 15, some (12, false), .bin false .lss (.t 13) (.t 14)⟩, ⟨some 16, none, .pick (.t 12) (.k (.c (.bool true))) (.t 15)⟩, ⟨some 4, none, .mv (.t 16)⟩] none [4]) .ret))
theorem chk_lessS : chkX Go.Proofs.Try.prog 17 (Go.Proofs.Try.f66.body.getD .skip) x_lessS = true := by kernel_rfl
theorem rs_lessS : okRs Go.Proofs.Try.prog Go.Proofs.Try.f66.results.toList [.tmp 4] = true := by kernel_rfl
theorem call_lessS : okCallee Go.Proofs.Try.prog 66 = true := by kernel_rfl
def x_nanS2 : X := (.seq (.reg [⟨some 2, none, .mv (.k (.c (.bool false)))⟩] none [0]) (.seq (.reg [⟨some 3, none, .mv (.t 0)⟩, ⟨some 4, none, .mv (.t 0)⟩, ⟨some 5, none, .bin false .neq (.t 3) (.t 4)⟩, ⟨some 2, none, .mv (.t 5)⟩] none [2]) .ret))
theorem chk_nanS2 : chkX Go.Proofs.Try.prog 6 (Go.Proofs.Try.f67.body.getD .skip) x_nanS2 = true := by kernel_rfl
theorem rs_nanS2 : okRs Go.Proofs.Try.prog Go.Proofs.Try.f67.results.toList [.tmp 2] = true := by kernel_rfl
theorem call_nanS2 : okCallee Go.Proofs.Try.prog 67 = true := by kernel_rfl
def x_BinS : X := (.seq (.reg [⟨some 4, none, .mv (.k (.c (.int .i64 0)))⟩, ⟨some 5, none, .mv (.k (.c (.bool false)))⟩] none [0, 1]) (.seq (.reg [⟨some 10, none, .mv (.t 0)⟩, ⟨some 11, none, .len (.t 10) false⟩, ⟨some 6, none, .mv (.t 11)⟩] none [0, 1, 6]) (.seq (.reg [⟨some 12, none, .mv (.t 6)⟩, ⟨some 7, none, .mv (.k (.c (.int .i64 0)))⟩, ⟨some 8, none, .mv (.t 12)⟩] none [0, 1, 6, 7, 8]) (.seq (.block 0 (.loop (.seq (.seq (.reg [⟨some 13, none, .mv (.t 7)⟩, ⟨some 14, none, .mv (.t 8)⟩, ⟨some 15, none, .bin false .lss (.t 13) (.t 14)⟩] none [0, 1, 6, 7, 8, 15]) (.cond (.t 15) .skip (.exit 0))) (.block 1 (.seq (.reg [⟨some 16, none, .mv (.t 7)⟩, ⟨some 17, none, .mv (.t 8)⟩, ⟨some 18, none, .bin false .add (.t 16) (.t 17)⟩, ⟨some 19, none, .conv .u64 (.t 18)⟩, ⟨some 20, none, .bin false .shr (.t 19) (.k (.c (.int .u64 1)))⟩, ⟨some 21, none, .conv .i64 (.t 20)⟩, ⟨some 9, none, .mv (.t 21)⟩] none [0, 1, 6, 7, 8, 9]) (.seq (.reg [⟨some 22, none, .mv (.t 0)⟩, ⟨some 23, none, .mv (.t 9)⟩, ⟨some 24, none, .ia (.t 22) (.t 23) 1⟩, ⟨some 25, none, .load (.t 24) none⟩, ⟨some 26, none, .mv (.t 1)⟩, ⟨some 27, none, .call 66 [(.t 25), (.t 26)]⟩] none [0, 1, 6, 7, 8, 9, 27]) (.cond (.t 27) (.reg [⟨some 28, none, .mv (.t 9)⟩, ⟨some 29, none, .bin false .add (.t 28) (.k (.c (.int .i64 1)))⟩, ⟨some 7, none, .mv (.t 29)⟩] none [0, 1, 6, 7, 8]) (.reg [⟨some 30, none, .mv (.t 9)⟩, ⟨some 8, none, .mv (.t 30)⟩] none [0, 1, 6, 7, 8])))))))) (.seq (.reg [⟨some 31, none, .mv (.t 7)⟩, ⟨some 32, none, .mv (.t 7)⟩, ⟨some 33, none, .mv (.t 6)⟩, ⟨some 34, none, .bin false .lss (.t 32) (.t 33)⟩, ⟨some 35, none, .mv (.t 34)⟩, ⟨some 36, some (35, true), .mv (.t 0)⟩, ⟨some 37, some (35, true), .mv (.t 7)⟩, ⟨some 38, some (35, true), .ia (.t 36) (.t 37) 1⟩, ⟨some 39, some (35, true), .load (.t 38) none⟩, ⟨some 40, some (35, true), .mv (.t 1)⟩, ⟨some 41, some (35, true), .bin false .eql (.t 39) (.t 40)⟩, ⟨some 42, some (35, true), .mv (.t 41)⟩, ⟨some 43, some (42, false), .mv (.t 0)⟩, ⟨some 44, some (42, false), .mv (.t 7)⟩, ⟨some 45, some (42, false), .ia (.t 43) (.t 44) 1⟩, ⟨some 46, some (42, false), .load (.t 45) none⟩, ⟨some 47, some (42, false), .call 67 [(.t 46)]⟩, ⟨some 48, some (42, false), .mv (.t 47)⟩, ⟨some 49, some (48, true), .mv (.t 1)⟩, ⟨some 50, some (48, true), .call 67 [(.t 49)]⟩, ⟨some 51, some (42, false), .pick (.t 48) (.t 50) (.k (.c (.bool false)))⟩, ⟨some 52, some (35, true), .pick (.t 42) (.k (.c (.bool true))) (.t 51)⟩, ⟨some 53, none, .pick (.t 35) (.t 52) (.k (.c (.bool false)))⟩, ⟨some 4, none, .mv (.t 31)⟩, ⟨some 5, none, .mv (.t 53)⟩] none [4, 5]) .ret)))))
theorem chk_BinS : chkX Go.Proofs.Try.prog 54 (Go.Proofs.Try.f61.body.getD .skip) x_BinS = true := by kernel_rfl
theorem rs_BinS : okRs Go.Proofs.Try.prog Go.Proofs.Try.f61.results.toList [.tmp 4, .tmp 5] = true := by kernel_rfl
theorem call_BinS : okCallee Go.Proofs.Try.prog 61 = true := by kernel_rfl
def x_put : X := (.seq (.reg [⟨some 3, none, .box (.t 0) (some 5)⟩, ⟨some 5, none, .box (.t 2) (some 5)⟩, ⟨some 6, none, .alloc [(.c (.int .i64 0)), (.c (.int .i64 0)), (.c (.str ⟨#[]⟩)), (.z 1), (.z 5)]⟩] none [1, 3, 5, 6]) (.seq (.mix [⟨some 10, none, .fa (.t 3) 3⟩, ⟨some 11, none, .load (.t 10) none⟩, ⟨some 12, none, .callo 60 [(.t 11)]⟩, ⟨some 13, none, .fa (.t 3) 4⟩, ⟨some 14, none, .load (.t 13) none⟩, ⟨some 15, none, .callo 49 [(.t 14)]⟩, ⟨some 16, none, .build [(.c (.int .i64 0)), (.c (.int .i64 0)), (.c (.str ⟨#[]⟩)), (.z 1), (.z 5)] [(0, (.k (.c (.int .i64 6))), none), (3, (.t 12), none), (4, (.t 15), none)]⟩, ⟨some 7, none, .alloc [(.c (.int .i64 0)), (.c (.int .i64 0)), (.c (.str ⟨#[]⟩)), (.z 1), (.z 5)]⟩] [⟨none, none, .st (.t 7) (.t 16) (some 5)⟩] [[], [], [], [2], [2], [], [], [0, 1, 2, 3, 4, 5, 6]] [1, 5, 6, 7]) (.seq (.reg [⟨some 18, none, .fa (.t 7) 3⟩, ⟨some 19, none, .load (.t 18) none⟩, ⟨some 20, none, .mv (.t 1)⟩, ⟨some 21, none, .callb 61 [(.t 19), (.t 20)]⟩, ⟨some 17, none, .mv (.t 21)⟩, ⟨some 22, none, .ext (.t 17) 0⟩, ⟨some 23, none, .ext (.t 17) 1⟩, ⟨some 8, none, .mv (.t 22)⟩, ⟨some 9, none, .mv (.t 23)⟩] none [1, 5, 6, 7, 8, 9]) (.seq (.seq (.reg [⟨some 24, none, .mv (.t 9)⟩] none [1, 5, 6, 7, 8, 24]) (.cond (.t 24) (.seq (.reg [⟨some 25, none, .fa (.t 7) 4⟩, ⟨some 26, none, .load (.t 25) none⟩, ⟨some 27, none, .mv (.t 8)⟩, ⟨some 28, none, .load (.t 5) (some 5)⟩, ⟨some 29, none, .ia (.t 26) (.t 27) 5⟩, ⟨none, none, .st (.t 29) (.t 28) (some 5)⟩] none [6, 7]) (.seq (.reg [⟨some 30, none, .load (.t 7) (some 5)⟩, ⟨none, none, .st (.t 6) (.t 30) (some 5)⟩] none [6]) .ret)) .skip)) (.seq (.reg [⟨some 31, none, .fa (.t 7) 3⟩, ⟨some 32, none, .load (.t 31) none⟩, ⟨some 33, none, .mv (.t 8)⟩, ⟨some 34, none, .mv (.t 1)⟩, ⟨some 35, none, .bsl 1 [((.t 34), none)]⟩, ⟨some 36, none, .call 62 [(.t 32), (.t 33), (.t 35)]⟩, ⟨some 37, none, .fa (.t 7) 3⟩, ⟨none, none, .st (.t 37) (.t 36) none⟩] none [5, 6, 7, 8]) (.seq (.reg [⟨some 38, none, .fa (.t 7) 4⟩, ⟨some 39, none, .load (.t 38) none⟩, ⟨some 40, none, .mv (.t 8)⟩, ⟨some 41, none, .load (.t 5) (some 5)⟩, ⟨some 42, none, .bsl 5 [((.t 41), (some 5))]⟩, ⟨some 43, none, .call 63 [(.t 39), (.t 40), (.t 42)]⟩, ⟨some 44, none, .fa (.t 7) 4⟩, ⟨none, none, .st (.t 44) (.t 43) none⟩] none [6, 7]) (.seq (.reg [⟨some 45, none, .load (.t 7) (some 5)⟩, ⟨none, none, .st (.t 6) (.t 45) (some 5)⟩] none [6]) .ret)))))))
theorem chk_put : chkX Go.Proofs.Try.prog 46 (Go.Proofs.Try.f48.body.getD .skip) x_put = true := by kernel_rfl
theorem rs_put : okRs Go.Proofs.Try.prog Go.Proofs.Try.f48.results.toList [.cell 6 (some 5)] = true := by kernel_rfl
theorem call_put : okCallee Go.Proofs.Try.prog 48 = true := by kernel_rfl
noncomputable def spCloneS  : Spec := Spec.of (ι := (List ByteArray)) [false] (fun i => [.d (.one (.row 1 (strs i)))]) (fun i => lenB 1000000 i.length) (fun i => [.own 1 (strs i)]) (fun _ => [.gone])
theorem spCloneS_inj : ∀ i j : (List ByteArray), (fun (i : (List ByteArray)) => ([.d (.one (.row 1 (strs i)))] : List AV)) i = (fun (i : (List ByteArray)) => ([.d (.one (.row 1 (strs i)))] : List AV)) j → i = j := by
  intro l l' h
  simpa [strs_eq, T.enc_eq, encL_eq, F.enc_eq, encF_eq, Tk.enc_eq, encTk_eq, Gn.enc_eq, ints_eq, Int.natCast_inj] using h
theorem spCloneS_md  : (spCloneS).md = [false] := rfl
theorem spCloneS_pre  (l : List ByteArray) : (spCloneS).pre [.d (.one (.row 1 (strs l)))] = (lenB 1000000 l.length) := Spec.of_pre' spCloneS_inj l
theorem spCloneS_alts  : (spCloneS).alts = none := rfl
theorem spCloneS_res  (l : List ByteArray) : (spCloneS).res [.d (.one (.row 1 (strs l)))] = [.own 1 (strs l)] := Spec.of_res spCloneS_inj l
theorem spCloneS_out  (l : List ByteArray) : (spCloneS).out [.d (.one (.row 1 (strs l)))] = [.gone] := Spec.of_out spCloneS_inj l
theorem CloneS_sound : Sound Go.Proofs.Try.prog 60 spCloneS := by
  refine sound_fam GOK.nil Go.Proofs.Try.func60 (c := Go.Proofs.Try.f60.body.getD .skip) rfl (n := 8) rfl chk_CloneS rs_CloneS (fun _ => by simp) ?_ ?_
  · exact spCloneS_inj
  · intro l h1
    simp only [lenB] at h1
    simp only [x_CloneS, rg, go_sem, seval, strs_len]
    repeat' (first | with_reducible assumption | with_reducible refine And.intro ?_ ?_ | intro _)
    all_goals first | omega | skip
    rename_i h
    have : l = [] := by cases l <;> simp_all [strs]
    rw [this]; rfl
noncomputable def spNanS2  : Spec := Spec.of (ι := C) [false] (fun i => [.d (.one i)]) (fun i => ∃ a, i = .str a) (fun _ => [.d (.one (.bool false))]) (fun _ => [.gone])
theorem spNanS2_inj : ∀ i j : C, (fun (i : C) => ([.d (.one i)] : List AV)) i = (fun (i : C) => ([.d (.one i)] : List AV)) j → i = j := by
  intro c c' h
  simpa [strs_eq, T.enc_eq, encL_eq, F.enc_eq, encF_eq, Tk.enc_eq, encTk_eq, Gn.enc_eq, ints_eq, Int.natCast_inj] using h
theorem spNanS2_md  : (spNanS2).md = [false] := rfl
theorem spNanS2_pre  (c : C) : (spNanS2).pre [.d (.one c)] = (∃ a, c = .str a) := Spec.of_pre' spNanS2_inj c
theorem spNanS2_alts  : (spNanS2).alts = none := rfl
theorem spNanS2_res  (c : C) : (spNanS2).res [.d (.one c)] = [.d (.one (.bool false))] := Spec.of_res spNanS2_inj c
theorem spNanS2_out  (c : C) : (spNanS2).out [.d (.one c)] = [.gone] := Spec.of_out spNanS2_inj c
theorem nanS2_sound : Sound Go.Proofs.Try.prog 67 spNanS2 := by
  refine sound_fam GOK.nil Go.Proofs.Try.func67 (c := Go.Proofs.Try.f67.body.getD .skip) rfl (n := 6) rfl chk_nanS2 rs_nanS2 (fun _ => by simp) ?_ ?_
  · exact spNanS2_inj
  · rintro c ⟨a, rfl⟩
    simp only [x_nanS2, rg, go_sem, seval]
    repeat' (first | with_reducible assumption | with_reducible refine And.intro ?_ ?_ | intro _)
    all_goals first | omega | skip
noncomputable def spLessS  : Spec := Spec.of (ι := ByteArray × ByteArray) [false, false] (fun i => [.d (.one (.str i.1)), .d (.one (.str i.2))]) (fun _ => True) (fun i => [.d (.one (.bool (decide (sl i.1 i.2))))]) (fun _ => [.gone, .gone])
theorem spLessS_inj : ∀ i j : ByteArray × ByteArray, (fun (i : ByteArray × ByteArray) => ([.d (.one (.str i.1)), .d (.one (.str i.2))] : List AV)) i = (fun (i : ByteArray × ByteArray) => ([.d (.one (.str i.1)), .d (.one (.str i.2))] : List AV)) j → i = j := by
  rintro ⟨a, b⟩ ⟨a', b'⟩ h
  simp only [Prod.mk.injEq]
  simpa [strs_eq, T.enc_eq, encL_eq, F.enc_eq, encF_eq, Tk.enc_eq, encTk_eq, Gn.enc_eq, ints_eq, Int.natCast_inj] using h
theorem spLessS_md  : (spLessS).md = [false, false] := rfl
theorem spLessS_pre  (a : ByteArray) (b : ByteArray) : (spLessS).pre [.d (.one (.str a)), .d (.one (.str b))] = (True) := Spec.of_pre' spLessS_inj (a, b)
theorem spLessS_alts  : (spLessS).alts = none := rfl
theorem spLessS_res  (a : ByteArray) (b : ByteArray) : (spLessS).res [.d (.one (.str a)), .d (.one (.str b))] = [.d (.one (.bool (decide (sl a b))))] := Spec.of_res spLessS_inj (a, b)
theorem spLessS_out  (a : ByteArray) (b : ByteArray) : (spLessS).out [.d (.one (.str a)), .d (.one (.str b))] = [.gone, .gone] := Spec.of_out spLessS_inj (a, b)
theorem lessS_sound : Sound Go.Proofs.Try.prog 66 spLessS := by
  refine sound_fam (GOK.cons (l := []) call_nanS nanS_sound GOK.nil) Go.Proofs.Try.func66 (c := Go.Proofs.Try.f66.body.getD .skip) rfl (n := 17) rfl chk_lessS rs_lessS (fun _ => by simp) ?_ ?_
  · exact spLessS_inj
  · rintro ⟨a, b⟩ _
    simp only [x_lessS, rg, go_sem, seval, spNanS_md, spNanS_pre, spNanS_alts, spNanS_res, spNanS_out]
    repeat' (first | with_reducible assumption | with_reducible refine And.intro ?_ ?_ | intro _)
    all_goals first | omega | skip
open Classical in
noncomputable def spBinS  : Spec := Spec.of (ι := (List ByteArray) × ByteArray) [false, false] (fun i => [.d (.one (.row 1 (strs i.1))), .d (.one (.str i.2))]) (fun i => Asc i.1 ∧ lenB 1000000 i.1.length) (fun i => [.d (.one (.int .i64 (posS i.2 i.1))), .d (.one (.bool (decide (i.1[posS i.2 i.1]? = some i.2))))]) (fun _ => [.gone, .gone])
theorem spBinS_inj : ∀ i j : (List ByteArray) × ByteArray, (fun (i : (List ByteArray) × ByteArray) => ([.d (.one (.row 1 (strs i.1))), .d (.one (.str i.2))] : List AV)) i = (fun (i : (List ByteArray) × ByteArray) => ([.d (.one (.row 1 (strs i.1))), .d (.one (.str i.2))] : List AV)) j → i = j := by
  rintro ⟨ks, key⟩ ⟨ks', key'⟩ h
  simp only [Prod.mk.injEq]
  simpa [strs_eq, T.enc_eq, encL_eq, F.enc_eq, encF_eq, Tk.enc_eq, encTk_eq, Gn.enc_eq, ints_eq, Int.natCast_inj] using h
theorem spBinS_md  : (spBinS).md = [false, false] := rfl
theorem spBinS_pre  (ks : List ByteArray) (key : ByteArray) : (spBinS).pre [.d (.one (.row 1 (strs ks))), .d (.one (.str key))] = (Asc ks ∧ lenB 1000000 ks.length) := Spec.of_pre' spBinS_inj (ks, key)
theorem spBinS_alts  : (spBinS).alts = none := rfl
theorem spBinS_res  (ks : List ByteArray) (key : ByteArray) : (spBinS).res [.d (.one (.row 1 (strs ks))), .d (.one (.str key))] = [.d (.one (.int .i64 (posS key ks))), .d (.one (.bool (decide (ks[posS key ks]? = some key))))] := Spec.of_res spBinS_inj (ks, key)
theorem spBinS_out  (ks : List ByteArray) (key : ByteArray) : (spBinS).out [.d (.one (.row 1 (strs ks))), .d (.one (.str key))] = [.gone, .gone] := Spec.of_out spBinS_inj (ks, key)
theorem BinS_sound : Sound Go.Proofs.Try.prog 61 spBinS := by
  refine sound_fam (GOK.cons (l := [(67, spNanS2)]) call_lessS lessS_sound (GOK.cons call_nanS2 nanS2_sound GOK.nil)) Go.Proofs.Try.func61 (c := Go.Proofs.Try.f61.body.getD .skip) rfl (n := 54) rfl chk_BinS rs_BinS (fun _ => by simp) ?_ ?_
  · exact spBinS_inj
  · rintro ⟨ks, key⟩ ⟨ha, h1⟩
    simp only [lenB] at h1
    simp only at ha
    have hp := posS_le key ks
    simp only [x_BinS, rg, go_sem, seval, Prod.fst, strs_len]
    repeat' (first | with_reducible assumption | with_reducible refine And.intro ?_ ?_ | intro _)
    all_goals first | (show _ ≤ (_ : Int); omega) | (show _ < (_ : Int); omega) | skip
    refine pw_loop (ι := Nat × Nat) (fun i => i.2 - i.1) (fun i => i.1 ≤ posS key ks ∧ posS key ks ≤ i.2 ∧ i.2 ≤ ks.length)
      (fun i => ⟨[(0, .q (.c (.row 1 (strs ks)))), (1, .q (.c (.str key))), (6, .q (.c (.int .i64 ks.length))), (7, .q (.c (.int .i64 i.1))), (8, .q (.c (.int .i64 i.2)))], [], []⟩) (0, ks.length) ⟨Nat.zero_le _, hp, Nat.le_refl _⟩ (Le.refl _) ?_
    rintro ⟨i, j⟩ ⟨g1, g2, g3⟩
    simp only at g1 g2 g3
    rcases Nat.lt_or_ge i j with hlt | hge
    · obtain ⟨h, hh⟩ : ∃ h : Nat, h = (i + j) / 2 := ⟨_, rfl⟩
      obtain ⟨y, hy, _, _⟩ := drop_at (l := ks) (i := h) (by omega)
      have b1 : ((i : Int) < (j : Int)) = True := eq_true (by omega)
      have b2 : ((i : Int) + j) / 2 = (h : Int) := by omega
      have a1 := strs_at hy
      simp only [rg, go_sem, seval, Prod.fst, b1, b2, a1, strs_len, spLessS_md, spLessS_pre, spLessS_alts, spLessS_res, spLessS_out]
      repeat' (first | with_reducible assumption | with_reducible refine And.intro ?_ ?_ | intro _)
      all_goals first | (show _ ≤ (_ : Int); omega) | (show _ < (_ : Int); omega) | (show False; omega) | skip
      · have hs := (posS_lt ha hy).1 (by assumption)
        exact ⟨(h + 1, j), ⟨by show h + 1 ≤ _; omega, g2, g3⟩, by show j - (h + 1) < j - i; omega, Le.refl _⟩
      · have hs : ¬ h < posS key ks := fun k => absurd ((posS_lt ha hy).2 k) (by assumption)
        exact ⟨(i, h), ⟨g1, by show posS key ks ≤ h; omega, by show h ≤ _; omega⟩, by show h - i < j - i; omega, Le.refl _⟩
    · have b1 : ((i : Int) < (j : Int)) = False := eq_false (by omega)
      obtain rfl : i = posS key ks := by omega
      rcases Nat.lt_or_ge (posS key ks) ks.length with hlt | hge'
      · obtain ⟨y, hy, _, _⟩ := drop_at hlt
        have a1 := strs_at hy
        have b2 : ((posS key ks : Int) < (ks.length : Int)) = True := eq_true (by omega)
        by_cases c : y = key
        · have e : (ks[posS key ks]? = some key) = True := eq_true (by rw [hy, c])
          simp only [rg, go_sem, seval, Prod.fst, b1, b2, a1, c, e, strs_len, spNanS2_md, spNanS2_pre, spNanS2_alts, spNanS2_res, spNanS2_out]
          repeat' (first | with_reducible assumption | with_reducible refine And.intro ?_ ?_ | intro _)
          all_goals first | (show _ ≤ (_ : Int); omega) | (show _ < (_ : Int); omega) | (show False; omega) | skip
        · have e : (ks[posS key ks]? = some key) = False := eq_false (by rw [hy]; intro h; exact c (Option.some.inj h))
          simp only [rg, go_sem, seval, Prod.fst, b1, b2, a1, c, e, strs_len, spNanS2_md, spNanS2_pre, spNanS2_alts, spNanS2_res, spNanS2_out]
          repeat' (first | with_reducible assumption | with_reducible refine And.intro ?_ ?_ | intro _)
          all_goals first | (show _ ≤ (_ : Int); omega) | (show _ < (_ : Int); omega) | (show False; omega) | exact ⟨_, rfl⟩ | skip
      · have b2 : ((posS key ks : Int) < (ks.length : Int)) = False := eq_false (by omega)
        have a1 : (strs ks).getD (posS key ks) [] = [] := by rw [List.getD_eq_getElem?_getD, List.getElem?_eq_none (by rw [strs_len]; exact hge')]; rfl
        have e : (ks[posS key ks]? = some key) = False := eq_false (by rw [List.getElem?_eq_none hge']; simp)
        simp only [rg, go_sem, seval, Prod.fst, b1, b2, a1, e, strs_len, spNanS2_md, spNanS2_pre, spNanS2_alts, spNanS2_res, spNanS2_out]
        repeat' (first | with_reducible assumption | with_reducible refine And.intro ?_ ?_ | intro _)
        all_goals first | (show _ ≤ (_ : Int); omega) | (show _ < (_ : Int); omega) | (show False; omega) | skip
noncomputable def spPut  : Spec := Spec.of (ι := T × ByteArray × T) [false, false, false] (fun i => [.d (.agg i.1.enc), .d (.one (.str i.2.1)), .d (.agg i.2.2.enc)]) (fun i => Asc i.1.keys ∧ lenB 1000000 i.1.keys.length ∧ i.1.keys.length = i.1.list.length) (fun i => [.d (.agg (putT i.1 i.2.1 i.2.2).enc)]) (fun _ => [.gone, .gone, .gone])
theorem spPut_inj : ∀ i j : T × ByteArray × T, (fun (i : T × ByteArray × T) => ([.d (.agg i.1.enc), .d (.one (.str i.2.1)), .d (.agg i.2.2.enc)] : List AV)) i = (fun (i : T × ByteArray × T) => ([.d (.agg i.1.enc), .d (.one (.str i.2.1)), .d (.agg i.2.2.enc)] : List AV)) j → i = j := by
  rintro ⟨v, key, x⟩ ⟨v', key', x'⟩ h
  simp only [Prod.mk.injEq]
  simpa [strs_eq, T.enc_eq, encL_eq, F.enc_eq, encF_eq, Tk.enc_eq, encTk_eq, Gn.enc_eq, ints_eq, Int.natCast_inj] using h
theorem spPut_md  : (spPut).md = [false, false, false] := rfl
theorem spPut_pre  (v : T) (key : ByteArray) (x : T) : (spPut).pre [.d (.agg v.enc), .d (.one (.str key)), .d (.agg x.enc)] = (Asc v.keys ∧ lenB 1000000 v.keys.length ∧ v.keys.length = v.list.length) := Spec.of_pre' spPut_inj (v, key, x)
theorem spPut_alts  : (spPut).alts = none := rfl
theorem spPut_res  (v : T) (key : ByteArray) (x : T) : (spPut).res [.d (.agg v.enc), .d (.one (.str key)), .d (.agg x.enc)] = [.d (.agg (putT v key x).enc)] := Spec.of_res spPut_inj (v, key, x)
theorem spPut_out  (v : T) (key : ByteArray) (x : T) : (spPut).out [.d (.agg v.enc), .d (.one (.str key)), .d (.agg x.enc)] = [.gone, .gone, .gone] := Spec.of_out spPut_inj (v, key, x)
set_option maxHeartbeats 4000000 in
theorem put_sound : Sound Go.Proofs.Try.prog 48 spPut := by
  refine sound_fam (GOK.cons (l := [(49, spCloneV), (61, spBinS), (62, spInsS), (63, spInsV)]) call_CloneS CloneS_sound (GOK.cons call_CloneV CloneV_sound (GOK.cons call_BinS BinS_sound (GOK.cons call_InsS InsS_sound (GOK.cons call_InsV InsV_sound GOK.nil))))) Go.Proofs.Try.func48 (c := Go.Proofs.Try.f48.body.getD .skip) rfl (n := 46) rfl chk_put rs_put (fun _ => by simp) ?_ ?_
  · exact spPut_inj
  · rintro ⟨v, key, x⟩ ⟨ha, h1, h2⟩
    obtain ⟨k, n, s, ks, l⟩ := v
    simp only [T.keys, T.list, lenB] at ha h1 h2
    have fx := T.enc_len x
    have hp := posS_le key ks
    have ha' : Asc ks = True := eq_true ha
    by_cases c : ks[posS key ks]? = some key
    · have hlt : posS key ks < l.length := by have := (List.getElem?_eq_some_iff.1 c).1; omega
      have c' : (ks[posS key ks]? = some key) = True := eq_true c
      have hx := List.getElem?_eq_getElem hlt
      have a1 := encL_at hx
      have f1 := T.enc_drop5 l[posS key ks]
      have e : putT (T.mk k n s ks l) key x = .mk 6 0 ⟨#[]⟩ ks (l.set (posS key ks) x) := by
        simp only [putT, T.keys, T.list, putS_in ha h2 c]
      simp only [x_put, rg, go_sem, seval, Prod.fst, e, ha', c', a1, f1, T.enc, fx, strs_len, List.append_nil, encL_set, spCloneS_md, spCloneS_pre, spCloneS_alts, spCloneS_res, spCloneS_out, spCloneV_md, spCloneV_pre, spCloneV_alts, spCloneV_res, spCloneV_out, spBinS_md, spBinS_pre, spBinS_alts, spBinS_res, spBinS_out]
      repeat' (first | with_reducible assumption | with_reducible refine And.intro ?_ ?_ | intro _)
      all_goals first | (show _ ≤ (_ : Int); omega) | (show _ < (_ : Int); omega) | (show _ < (_ : Nat); omega) | assumption | skip
    · have c' : (ks[posS key ks]? = some key) = False := eq_false c
      have e : putT (T.mk k n s ks l) key x = .mk 6 0 ⟨#[]⟩ (ks.take (posS key ks) ++ key :: ks.drop (posS key ks)) (l.take (posS key ks) ++ x :: l.drop (posS key ks)) := by
        simp only [putT, T.keys, T.list, putS_new ha h2 c]
      have k1 : [[C.str key]] = strs [key] := rfl
      simp only [x_put, rg, go_sem, seval, Prod.fst, e, ha', c', T.enc, fx, k1, encL_one, strs_len, spCloneS_md, spCloneS_pre, spCloneS_alts, spCloneS_res, spCloneS_out, spCloneV_md, spCloneV_pre, spCloneV_alts, spCloneV_res, spCloneV_out, spBinS_md, spBinS_pre, spBinS_alts, spBinS_res, spBinS_out, spInsS_md, spInsS_pre, spInsS_alts, spInsS_res, spInsS_out, spInsV_md, spInsV_pre, spInsV_alts, spInsV_res, spInsV_out]
      repeat' (first | with_reducible assumption | with_reducible refine And.intro ?_ ?_ | intro _)
      all_goals first | (show _ ≤ (_ : Int); omega) | (show _ < (_ : Int); omega) | (show _ < (_ : Nat); omega) | (show _ ≤ (_ : Nat); omega) | assumption | skip
end Go.Proofs.Pw
/- Trees added. -/
namespace Go.Proofs.Pw
set_option linter.unusedSectionVars false
variable [Globs]
/-- Keys and trees put one behind the other. -/
noncomputable def foldP : List ByteArray → List T → List ByteArray × List T → List ByteArray × List T
  | k :: ks, t :: l, p => foldP ks l (putS k t false p.1 p.2)
  | _, _, p => p
/-- What is kept while keys and trees are put. -/
structure Good (B : Nat) (z : Int) (p : List ByteArray × List T) : Prop where
  asc : Asc p.1
  len : p.1.length = p.2.length
  few : p.1.length ≤ B
  ks : ∀ s ∈ p.1, (s.size : Int) ≤ 60
  fit : fitL 60 p.2
  size : sizeL p.2 ≤ z
theorem fitL_iff {B : Int} {l : List T} : fitL B l ↔ ∀ t ∈ l, t.fit B := ⟨fun h t ht => fitL_in h t ht, fitL_of⟩
theorem Good.put {B : Nat} {z : Int} {p : List ByteArray × List T} (h : Good B z p) {k : ByteArray} {t : T} (hk : (k.size : Int) ≤ 60) (ht : t.fit 60) : Good (B + 1) (z + sizeT t) (putS k t false p.1 p.2) := by
  have h1 := (putS_len k t false p.1 p.2).1
  have h2 := putS_mem k t false p.1 p.2
  have h3 := putS_size k t false p.1 p.2
  have h4 := h.few
  have h5 := h.size
  refine ⟨putS_asc h.asc h.len, putS_len2 h.asc h.len, by simp at h1; omega, fun s hs => ?_, fitL_iff.2 fun x hx => ?_, by simp at h3; omega⟩
  · rcases h2.1 s hs with rfl | h6
    · exact hk
    · exact h.ks s h6
  · rcases h2.2 x hx with rfl | h6
    · exact ht
    · exact fitL_in h.fit x h6
/-- A map that is ok. -/
theorem okT_map {k n : Int} {s : ByteArray} {ks : List ByteArray} {l : List T} (h : okT (.mk k n s ks l)) (hk : k = 6) : n = 0 ∧ s = ⟨#[]⟩ ∧ ks.length = l.length ∧ okKeys ks := by
  have h1 := h.1
  simp only [formT] at h1
  obtain ⟨h1, h2, h3, h4, h5, h6, h7, h8, h9, h10, h11, h12⟩ := h1
  exact ⟨by omega, h3.resolve_left (by omega), h11 hk⟩
theorem good_map {k n : Int} {s : ByteArray} {ks : List ByteArray} {l : List T} (h : okT (.mk k n s ks l)) (hk : k = 6) : Good 60 60 (ks, l) := by
  obtain ⟨h1, h2, h3, h4⟩ := okT_map h hk
  have h5 := okT_fit h
  simp only [T.fit] at h5
  obtain ⟨_, _, _, h6, h7, h8⟩ := h5
  have h9 := okT_size h
  simp only [sizeT] at h9
  exact ⟨okKeys_asc h4, h3, by have := h6.1; unfold lenB at this; show ks.length ≤ 60; omega, h6.2, h8, by show sizeL l ≤ 60; omega⟩
/-- Two trees that are ok, added: whatever comes of it. -/
noncomputable def addRaw : T → T → Option T
  | .mk k n s ks l, .mk k' n' s' ks' l' =>
    if k = 0 then some (.mk k' n' s' ks' l') else if k' = 0 then some (.mk k n s ks l) else if k ≠ k' then none
    else if k = 3 then some (.mk 3 (n + n') ⟨#[]⟩ [] []) else if k = 4 then some (.mk 4 0 (s ++ s') [] [])
    else if k = 5 then some (.mk 5 0 ⟨#[]⟩ [] (l ++ l')) else if k = 6 then some (.mk 6 0 ⟨#[]⟩ (foldP ks' l' (ks, l)).1 (foldP ks' l' (ks, l)).2) else none
def addOk (a b : T) : Prop := okT a ∧ okT b ∧ ∃ t, addRaw a b = some t ∧ okT t
noncomputable instance (a b : T) : Decidable (addOk a b) := Classical.propDecidable _
end Go.Proofs.Pw
/- Trees added: both programs. -/
set_option linter.unusedSimpArgs false
set_option maxRecDepth 20000
namespace Go.Proofs.Pw
set_option linter.unusedSectionVars false
variable [Globs]
end Go.Proofs.Pw
/- Trees in new memory that nobody else holds. -/
set_option linter.unusedSimpArgs false
set_option maxRecDepth 20000
namespace Go.Proofs.Pw
set_option linter.unusedSectionVars false
variable [Globs]
end Go.Proofs.Pw
/- Marks: what the laws write into trees, and look for. -/
namespace Go.Proofs.Pw
def digF : Nat → Int → ByteArray → ByteArray
  | 0, _, out => out
  | f + 1, k, out => if 0 < k then digF f (k.tdiv 10) (bytesS [48 + k.tmod 10] ++ out) else out
def mkS (k : Int) : ByteArray := if k ≤ 0 then ⟨#[109, 48]⟩ else ⟨#[109]⟩ ++ digF k.toNat k ⟨#[]⟩
def mkKs : List ByteArray → Int → List ByteArray
  | [], _ => []
  | _ :: r, k => mkS k :: mkKs r (k + 1)
mutual
def nmT : T → Int
  | .mk _ _ _ ks l => 3 + ks.length + nmL l
def nmL : List T → Int
  | [] => 0
  | t :: l => nmT t + nmL l
end
mutual
def mkT : T → Int → T
  | .mk _ _ _ ks l, k => .mk k (k + 1) (mkS (k + 2)) (mkKs ks (k + 3)) (mkL l (k + 3 + ks.length))
def mkL : List T → Int → List T
  | [], _ => []
  | t :: l, k => mkT t k :: mkL l (k + nmT t)
end
theorem mkKs_len : ∀ {ks : List ByteArray} {k : Int}, (mkKs ks k).length = ks.length
  | [], _ => rfl
  | _ :: r, k => by simp [mkKs, mkKs_len (ks := r)]
mutual
theorem nmT_nn : ∀ t : T, 3 ≤ nmT t
  | .mk _ _ _ ks l => by have := nmL_nn l; simp only [nmT]; omega
theorem nmL_nn : ∀ l : List T, 0 ≤ nmL l
  | [] => by simp [nmL]
  | t :: l => by have := nmT_nn t; have := nmL_nn l; simp only [nmL]; omega
end
mutual
theorem nmT_mk : ∀ (t : T) (k : Int), nmT (mkT t k) = nmT t
  | .mk _ _ _ ks l, k => by simp only [mkT, nmT, mkKs_len, nmL_mk l]
theorem nmL_mk : ∀ (l : List T) (k : Int), nmL (mkL l k) = nmL l
  | [], _ => rfl
  | t :: l, k => by simp only [mkL, nmL, nmT_mk t, nmL_mk l]
end
theorem mkKs_mk : ∀ (ks : List ByteArray) (k : Int), mkKs (mkKs ks k) k = mkKs ks k
  | [], _ => rfl
  | _ :: r, k => by simp only [mkKs, mkKs_mk r]
mutual
theorem mkT_mk : ∀ (t : T) (k : Int), mkT (mkT t k) k = mkT t k
  | .mk _ _ _ ks l, k => by simp only [mkT, mkKs_mk, mkKs_len, mkL_mk l]
theorem mkL_mk : ∀ (l : List T) (k : Int), mkL (mkL l k) k = mkL l k
  | [], _ => rfl
  | t :: l, k => by simp only [mkL, mkT_mk t, nmT_mk t, mkL_mk l]
end
mutual
theorem nmT_sz : ∀ {t : T} {left : Int}, 0 ≤ left → 0 ≤ szT t left → nmT t ≤ 3 + 3 * (left - szT t left)
  | .mk k n s ks l, left, h, h0 => by
    simp only [szT] at h0 ⊢
    split at h0
    · omega
    · rename_i c1
      rw [if_neg c1]
      split at h0
      · omega
      · rename_i c2
        rw [if_neg c2]
        split at h0
        · omega
        · rename_i c3
          rw [if_neg c3]
          have h1 := szStrS_le (ks := ks) (left := left - s.size) (by omega)
          have h2 : szStrS ks (left - s.size) ≤ left - s.size - ks.length := by
            have := h1; simp only [szStrS] at c2 ⊢; split
            · rename_i c; rw [if_pos c] at c2; omega
            · exact (szStr_le (by omega)).1
          have h3 := nmL_sz (l := l) (left := szStrS ks (left - s.size) - l.length) (by omega) h0
          simp only [nmT]; omega
theorem nmL_sz : ∀ {l : List T} {left : Int}, 0 ≤ left → 0 ≤ szTL l left → nmL l ≤ 3 * l.length + 3 * (left - szTL l left)
  | [], left, h, h0 => by simp [nmL, szTL]
  | t :: r, left, h, h0 => by
    simp only [szTL] at h0 ⊢
    split at h0
    · omega
    · rename_i c1
      rw [if_neg c1]
      have h1 := nmT_sz (t := t) h (by omega)
      have h2 := nmL_sz (l := r) (left := szT t left) (by omega) h0
      simp only [nmL, List.length_cons]; omega
end
end Go.Proofs.Pw
