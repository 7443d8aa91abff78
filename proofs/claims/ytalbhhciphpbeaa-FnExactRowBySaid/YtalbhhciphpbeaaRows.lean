/-
  NARROWER THAN 'FOR EVERY INPUT', by the rows' own cells (each row's printed sentence says how): FnExactRowSort: loops · FnExactRowLeast: loops · FnExactRowOnce: loops · FnExactRowBy: loops.
  DERIVED. THE GIVEN ROWS OF THIS SEAT. 4 by the template 'for every input the law returns true; each argument reads behind the call as it read before'; 0 by the template 'total and deterministic' (their statements: YtalbhhciphpbeaaTotals.lean).
  GIVEN WITH THE SEED: the statements are not yours to turn. If you find one false, say at which input.
  Laid BY PROGRAM, IN A SANDBOX (cutbox-rows.mjs): the forced cells as the released guide's own fill.sh prints them over the translation 82e83d1e0acca14e… (all of the seat's roots in one cut). By AI agents, Wed Nov 11 2026. No macro, syntax, notation, axiom, sorry.
-/
import Derived.Test.YtalbhhciphpbeaaChecked
import GoSem.Claim
import GoSem.ClaimJoined
import GoSem.ClaimMapViews
import Derived.JoinedTies
import Derived.KernelRfl
namespace Go.Proofs.Ytalbhhciphpbeaa
/- THE CELL 'sum', in the pinned program and in every row, IS THE sha256 OF THE DUMP (.gsa) THAT YtalbhhciphpbeaaProg.lean LOADS. Nothing in Lean hashes anything: it is a label: what it is worth is what the hold of that sum in a sandbox is worth. -/
noncomputable def Try.pinned : Pinned := { name := "ytalbhhciphpbeaa", sum := "82e83d1e0acca14e2a3f4c02d055001ff74a66c7242413470a03aa185988748f", checked := Try.checked }
namespace Rows
def none {H : Type} : Left H := { results := [], args := [] }

/-- 'laws.FnExactRowSort': WHATEVER THE INPUT: true; the input reads as it did. -/
def fnExactRowSortSpec : ChangeSpec := { name := "fnExactRowSort", fn := fun _ => fun
  | [d] => { results := [.lit (.bool true)], args := [d] }
  | _ => none }
def fnExactRowSortRow : OpenClaim := { program := "ytalbhhciphpbeaa", sum := "82e83d1e0acca14e2a3f4c02d055001ff74a66c7242413470a03aa185988748f", func := "loop.example/cribble/laws.FnExactRowSort", spec := "fnExactRowSort", unfollowed := true, recurses := true, loops := true, apart := false }
def FnExactRowSortSaid : Prop := fnExactRowSortRow.holds Try.pinned (OpenSpec.ofChange fnExactRowSortSpec)

/-- ITS FALSE NEIGHBOUR: 'it returns false'. Refute it at one input. -/
def fnExactRowSortWrong : ChangeSpec := { name := "fnExactRowSort", fn := fun _ => fun
  | [d] => { results := [.lit (.bool false)], args := [d] }
  | _ => none }
def FnExactRowSortWrongFalsely : Prop := fnExactRowSortRow.holds Try.pinned (OpenSpec.ofChange fnExactRowSortWrong)

/-- 'laws.FnExactRowLeast': WHATEVER THE INPUT: true; the input reads as it did. -/
def fnExactRowLeastSpec : ChangeSpec := { name := "fnExactRowLeast", fn := fun _ => fun
  | [d] => { results := [.lit (.bool true)], args := [d] }
  | _ => none }
def fnExactRowLeastRow : OpenClaim := { program := "ytalbhhciphpbeaa", sum := "82e83d1e0acca14e2a3f4c02d055001ff74a66c7242413470a03aa185988748f", func := "loop.example/cribble/laws.FnExactRowLeast", spec := "fnExactRowLeast", unfollowed := true, recurses := true, loops := true, apart := false }
def FnExactRowLeastSaid : Prop := fnExactRowLeastRow.holds Try.pinned (OpenSpec.ofChange fnExactRowLeastSpec)

/-- ITS FALSE NEIGHBOUR: 'it returns false'. Refute it at one input. -/
def fnExactRowLeastWrong : ChangeSpec := { name := "fnExactRowLeast", fn := fun _ => fun
  | [d] => { results := [.lit (.bool false)], args := [d] }
  | _ => none }
def FnExactRowLeastWrongFalsely : Prop := fnExactRowLeastRow.holds Try.pinned (OpenSpec.ofChange fnExactRowLeastWrong)

/-- 'laws.FnExactRowOnce': WHATEVER THE INPUT: true; the input reads as it did. -/
def fnExactRowOnceSpec : ChangeSpec := { name := "fnExactRowOnce", fn := fun _ => fun
  | [d] => { results := [.lit (.bool true)], args := [d] }
  | _ => none }
def fnExactRowOnceRow : OpenClaim := { program := "ytalbhhciphpbeaa", sum := "82e83d1e0acca14e2a3f4c02d055001ff74a66c7242413470a03aa185988748f", func := "loop.example/cribble/laws.FnExactRowOnce", spec := "fnExactRowOnce", unfollowed := true, recurses := true, loops := true, apart := false }
def FnExactRowOnceSaid : Prop := fnExactRowOnceRow.holds Try.pinned (OpenSpec.ofChange fnExactRowOnceSpec)

/-- ITS FALSE NEIGHBOUR: 'it returns false'. Refute it at one input. -/
def fnExactRowOnceWrong : ChangeSpec := { name := "fnExactRowOnce", fn := fun _ => fun
  | [d] => { results := [.lit (.bool false)], args := [d] }
  | _ => none }
def FnExactRowOnceWrongFalsely : Prop := fnExactRowOnceRow.holds Try.pinned (OpenSpec.ofChange fnExactRowOnceWrong)

/-- 'laws.FnExactRowBy': WHATEVER THE INPUT: true; the input reads as it did. -/
def fnExactRowBySpec : ChangeSpec := { name := "fnExactRowBy", fn := fun _ => fun
  | [d1, d2] => { results := [.lit (.bool true)], args := [d1, d2] }
  | _ => none }
def fnExactRowByRow : OpenClaim := { program := "ytalbhhciphpbeaa", sum := "82e83d1e0acca14e2a3f4c02d055001ff74a66c7242413470a03aa185988748f", func := "loop.example/cribble/laws.FnExactRowBy", spec := "fnExactRowBy", unfollowed := true, recurses := true, loops := true, apart := false }
def FnExactRowBySaid : Prop := fnExactRowByRow.holds Try.pinned (OpenSpec.ofChange fnExactRowBySpec)

/-- ITS FALSE NEIGHBOUR: 'it returns false'. Refute it at one input. -/
def fnExactRowByWrong : ChangeSpec := { name := "fnExactRowBy", fn := fun _ => fun
  | [d1, d2] => { results := [.lit (.bool false)], args := [d1, d2] }
  | _ => none }
def FnExactRowByWrongFalsely : Prop := fnExactRowByRow.holds Try.pinned (OpenSpec.ofChange fnExactRowByWrong)

/- THE SECOND FORM. 'bulk': how many values and letters a reading holds, each counted each time it is reached (what is shared counts as often as it is met; a slice's spare places count too). A statement '..UptoSaid' is the law's where the arguments, and the package variables that the reading takes, are together of bulk at most 1048576: NARROWER than '..Said'. Prove '..Said' where nothing that the law and all that it calls make is longer than what came in: it says more and counts as full. Else prove '..UptoSaid'. A law counts once. -/
mutual
def uptoBulk {H : Type} : DataW H → Nat
  | .lit (.string bytes) => bytes.length + 1
  | .lit _ => 1
  | .nil => 1
  | .ptr d => uptoBulk d + 1
  | .slice elems spare => uptoBulkAll elems + uptoBulkAll spare + 1
  | .agg parts => uptoBulkAll parts + 1
  | .iface _ d => uptoBulk d + 1
  | .map entries => uptoBulkEntries entries + 1
  | .held _ => 1
def uptoBulkAll {H : Type} : List (DataW H) → Nat
  | [] => 0
  | d :: r => uptoBulk d + uptoBulkAll r
def uptoBulkEntries {H : Type} : List (Lit × DataW H) → Nat
  | [] => 0
  | x :: r => uptoBulkEntry x + uptoBulkEntries r
def uptoBulkEntry {H : Type} : Lit × DataW H → Nat
  | (.string bytes, d) => bytes.length + uptoBulk d + 1
  | (_, d) => uptoBulk d + 1
 end
def uptoSmall : (H : Type) → List (DataW H) → Bool := fun _ ds => decide (uptoBulkAll ds ≤ 1048576)
def OpenSpec.upto (s : _root_.Go.ChangeSpec) : _root_.Go.OpenSpec := { _root_.Go.OpenSpec.ofChange s with cond := some uptoSmall }

/-- 'laws.FnExactRowSort', WHERE WHAT IT READS IS OF BULK AT MOST 1048576: true; the input reads as it did. -/
def fnExactRowSortUptoRow : OpenClaim := { program := "ytalbhhciphpbeaa", sum := "82e83d1e0acca14e2a3f4c02d055001ff74a66c7242413470a03aa185988748f", func := "loop.example/cribble/laws.FnExactRowSort", spec := "fnExactRowSort", unfollowed := true, recurses := true, loops := true, apart := false, narrowed := true }
def FnExactRowSortUptoSaid : Prop := fnExactRowSortUptoRow.holds Try.pinned (OpenSpec.upto fnExactRowSortSpec)

/-- 'laws.FnExactRowLeast', WHERE WHAT IT READS IS OF BULK AT MOST 1048576: true; the input reads as it did. -/
def fnExactRowLeastUptoRow : OpenClaim := { program := "ytalbhhciphpbeaa", sum := "82e83d1e0acca14e2a3f4c02d055001ff74a66c7242413470a03aa185988748f", func := "loop.example/cribble/laws.FnExactRowLeast", spec := "fnExactRowLeast", unfollowed := true, recurses := true, loops := true, apart := false, narrowed := true }
def FnExactRowLeastUptoSaid : Prop := fnExactRowLeastUptoRow.holds Try.pinned (OpenSpec.upto fnExactRowLeastSpec)

/-- 'laws.FnExactRowOnce', WHERE WHAT IT READS IS OF BULK AT MOST 1048576: true; the input reads as it did. -/
def fnExactRowOnceUptoRow : OpenClaim := { program := "ytalbhhciphpbeaa", sum := "82e83d1e0acca14e2a3f4c02d055001ff74a66c7242413470a03aa185988748f", func := "loop.example/cribble/laws.FnExactRowOnce", spec := "fnExactRowOnce", unfollowed := true, recurses := true, loops := true, apart := false, narrowed := true }
def FnExactRowOnceUptoSaid : Prop := fnExactRowOnceUptoRow.holds Try.pinned (OpenSpec.upto fnExactRowOnceSpec)

/-- 'laws.FnExactRowBy', WHERE WHAT IT READS IS OF BULK AT MOST 1048576: true; the input reads as it did. -/
def fnExactRowByUptoRow : OpenClaim := { program := "ytalbhhciphpbeaa", sum := "82e83d1e0acca14e2a3f4c02d055001ff74a66c7242413470a03aa185988748f", func := "loop.example/cribble/laws.FnExactRowBy", spec := "fnExactRowBy", unfollowed := true, recurses := true, loops := true, apart := false, narrowed := true }
def FnExactRowByUptoSaid : Prop := fnExactRowByUptoRow.holds Try.pinned (OpenSpec.upto fnExactRowBySpec)

end Rows
end Go.Proofs.Ytalbhhciphpbeaa
