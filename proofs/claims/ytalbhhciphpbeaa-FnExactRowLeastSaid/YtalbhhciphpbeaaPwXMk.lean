/- Marks on trees told by their parts. -/
import Derived.Test.YtalbhhciphpbeaaPwXTold
import Derived.Test.YtalbhhciphpbeaaPwMk
set_option linter.unusedSimpArgs false
set_option linter.unusedVariables false
set_option linter.unusedSimpArgs false
namespace Go.Proofs.Pw
theorem foldM (t : T) (n : Int) : DV.agg [C.int .i64 t.kind, C.int .i64 t.n, C.str t.s, C.row 1 (strs (mkV t n).keys), C.row 5 (encL (mkV t n).list)] = DV.agg (mkV t n).enc := by cases t; rfl
theorem killL_map (d : List Nat) (cs : List C) : (cs.map Q.c).map (Q.killL d) = cs.map Q.c := by rw [List.map_map]; rfl
attribute [go_sem] killL_map dtR_strs callW AV.weak Pt.toC AV.dtb Pt.dtb Option.getD_some Option.isSome_some
variable [Globs]
theorem spMkV_preX (t : T) (n : Int) : spMkV.pre [.ag [.c (.int .i64 t.kind), .c (.int .i64 t.n), .c (.str t.s), .o 1 (strs t.keys), .o 5 (encLX t.list)], .d (.one (.int .i64 n))] = (t.fit 140737488355328 ∧ 0 ≤ n ∧ n + nmV t ≤ 4611686018427387904) := by rw [← agX_out, spMkV_pre]
theorem spMkV_resX (t : T) (n : Int) : spMkV.res [.ag [.c (.int .i64 t.kind), .c (.int .i64 t.n), .c (.str t.s), .o 1 (strs t.keys), .o 5 (encLX t.list)], .d (.one (.int .i64 n))] = [.d (.one (.int .i64 (n + nmV t)))] := by rw [← agX_out, spMkV_res]
theorem spMkV_outX (t : T) (n : Int) : spMkV.out [.ag [.c (.int .i64 t.kind), .c (.int .i64 t.n), .c (.str t.s), .o 1 (strs t.keys), .o 5 (encLX t.list)], .d (.one (.int .i64 n))] = [.ag (agX (mkV t n)), .gone] := by rw [← agX_out, spMkV_out]
end Go.Proofs.Pw
