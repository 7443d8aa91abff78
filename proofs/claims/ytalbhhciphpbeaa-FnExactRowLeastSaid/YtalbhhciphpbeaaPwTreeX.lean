/- Trees that nobody else holds. -/
import Derived.Test.YtalbhhciphpbeaaPwD
set_option linter.unusedSimpArgs false
set_option linter.unusedVariables false
namespace Go.Proofs.Pw
mutual
def T.encX : T → List C
  | .mk k n s ks l => [.int .i64 k, .int .i64 n, .str s, .own 1 (strs ks), .own 5 (encLX l)]
def encLX : List T → List (List C)
  | [] => []
  | t :: l => t.encX :: encLX l
end
/-- A tree handed back, that nobody else holds. -/
def agX : T → List Pt
  | .mk k n s ks l => [.c (.int .i64 k), .c (.int .i64 n), .c (.str s), .o 1 (strs ks), .o 5 (encLX l)]
theorem encLX_map (l : List T) : encLX l = l.map T.encX := by
  induction l with
  | nil => simp [encLX]
  | cons t l ih => simp [encLX, ih]
theorem encLX_len (l : List T) : (encLX l).length = l.length := by rw [encLX_map]; simp
theorem T.encX_len (t : T) : t.encX.length = 5 := by cases t; simp [T.encX]
theorem encLX_app (a b : List T) : encLX (a ++ b) = encLX a ++ encLX b := by simp [encLX_map]
theorem encLX_take {l : List T} {i : Nat} {t : T} (h : l[i]? = some t) : encLX (l.take (i + 1)) = encLX (l.take i) ++ [t.encX] := by
  rw [List.take_add_one, h]; simp [encLX_map]
mutual
theorem dtL_encX : ∀ t : T, dtL t.encX = some t.enc
  | .mk k n s ks l => by simp [T.encX, T.enc, dtL, dtC, dtR_encLX l]
theorem dtR_encLX : ∀ l : List T, dtR (encLX l) = some (encL l)
  | [] => rfl
  | t :: l => by simp [encLX, encL, dtR, dtL_encX t, dtR_encLX l]
end
mutual
theorem flL_encX : ∀ t : T, flL t.encX = true
  | .mk k n s ks l => by
    have h : flR (strs ks) = true := by
      induction ks with
      | nil => rfl
      | cons s ks ih => simp only [strs, List.map_cons, flR, flL, flC, Bool.and_true, Bool.true_and]; exact ih
    simp [T.encX, flL, flC, flR_encLX l, h]
theorem flR_encLX : ∀ l : List T, flR (encLX l) = true
  | [] => rfl
  | t :: l => by simp [encLX, flR, flL_encX t, flR_encLX l]
end
theorem flR_strs (ks : List ByteArray) : flR (strs ks) = true := by
  induction ks with
  | nil => rfl
  | cons s ks ih => simp only [strs, List.map_cons, flR, flL, flC, Bool.and_true, Bool.true_and]; exact ih
attribute [go_sem] flR_strs flR_encLX callL AV.fl Pt.fl flatC encLX_len T.encX_len dtR_encLX allX allXs bslQ Q.toX delR nodupN List.contains_nil List.contains_cons
end Go.Proofs.Pw
