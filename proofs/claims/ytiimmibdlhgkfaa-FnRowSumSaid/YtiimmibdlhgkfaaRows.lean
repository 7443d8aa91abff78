/-
  No cell of these rows narrows 'for every input' (looked for: loops, veiled, ifaces, maps, wideKeys, modest, calm, conditions, laid).
  DERIVED. THE GIVEN ROWS OF THIS SEAT. 9 by the template 'for every input the law returns true; each argument reads behind the call as it read before'; 0 by the template 'total and deterministic' (their statements: YtiimmibdlhgkfaaTotals.lean).
  GIVEN WITH THE SEED: the statements are not yours to turn. If you find one false, say at which input.
  Laid BY PROGRAM, IN A SANDBOX (cutbox-rows.mjs): the forced cells as the released guide's own fill.sh prints them over the translation e1e5097680622172… (all of the seat's roots in one cut). By AI agents, Wed Nov 11 2026. No macro, syntax, notation, axiom, sorry.
-/
import Derived.Test.YtiimmibdlhgkfaaChecked
import GoSem.Claim
import GoSem.ClaimJoined
import GoSem.ClaimMapViews
import Derived.JoinedTies
import Derived.KernelRfl
namespace Go.Proofs.Ytiimmibdlhgkfaa
/- THE CELL 'sum', in the pinned program and in every row, IS THE sha256 OF THE DUMP (.gsa) THAT YtiimmibdlhgkfaaProg.lean LOADS. Nothing in Lean hashes anything: it is a label: what it is worth is what the hold of that sum in a sandbox is worth. -/
noncomputable def Try.pinned : Pinned := { name := "ytiimmibdlhgkfaa", sum := "e1e50976806221720e18b78aba10f8540aa814382daacfad7a3a05a84a0f839f", checked := Try.checked }
namespace Rows
def none {H : Type} : Left H := { results := [], args := [] }

/-- 'laws.FnRowLeast': WHATEVER THE INPUT: true; the input reads as it did. -/
def fnRowLeastSpec : ChangeSpec := { name := "fnRowLeast", fn := fun _ => fun
  | [d1, d2] => { results := [.lit (.bool true)], args := [d1, d2] }
  | _ => none }
def fnRowLeastRow : OpenClaim := { program := "ytiimmibdlhgkfaa", sum := "e1e50976806221720e18b78aba10f8540aa814382daacfad7a3a05a84a0f839f", func := "loop.example/cribble/laws.FnRowLeast", spec := "fnRowLeast", unfollowed := true, recurses := true, apart := false }
def FnRowLeastSaid : Prop := fnRowLeastRow.holds Try.pinned (OpenSpec.ofChange fnRowLeastSpec)

/-- ITS FALSE NEIGHBOUR: 'it returns false'. Refute it at one input. -/
def fnRowLeastWrong : ChangeSpec := { name := "fnRowLeast", fn := fun _ => fun
  | [d1, d2] => { results := [.lit (.bool false)], args := [d1, d2] }
  | _ => none }
def FnRowLeastWrongFalsely : Prop := fnRowLeastRow.holds Try.pinned (OpenSpec.ofChange fnRowLeastWrong)

/-- 'laws.FnRowSum': WHATEVER THE INPUT: true; the input reads as it did. -/
def fnRowSumSpec : ChangeSpec := { name := "fnRowSum", fn := fun _ => fun
  | [d] => { results := [.lit (.bool true)], args := [d] }
  | _ => none }
def fnRowSumRow : OpenClaim := { program := "ytiimmibdlhgkfaa", sum := "e1e50976806221720e18b78aba10f8540aa814382daacfad7a3a05a84a0f839f", func := "loop.example/cribble/laws.FnRowSum", spec := "fnRowSum", inPlace := ["slices.overlaps[string]", "slices.overlaps[loop.example/cribble/impl.Val]"], unfollowed := true, recurses := true, apart := false }
def FnRowSumSaid : Prop := fnRowSumRow.holds Try.pinned (OpenSpec.ofChange fnRowSumSpec)

/-- ITS FALSE NEIGHBOUR: 'it returns false'. Refute it at one input. -/
def fnRowSumWrong : ChangeSpec := { name := "fnRowSum", fn := fun _ => fun
  | [d] => { results := [.lit (.bool false)], args := [d] }
  | _ => none }
def FnRowSumWrongFalsely : Prop := fnRowSumRow.holds Try.pinned (OpenSpec.ofChange fnRowSumWrong)

/-- 'laws.FnRowOnce': WHATEVER THE INPUT: true; the input reads as it did. -/
def fnRowOnceSpec : ChangeSpec := { name := "fnRowOnce", fn := fun _ => fun
  | [d] => { results := [.lit (.bool true)], args := [d] }
  | _ => none }
def fnRowOnceRow : OpenClaim := { program := "ytiimmibdlhgkfaa", sum := "e1e50976806221720e18b78aba10f8540aa814382daacfad7a3a05a84a0f839f", func := "loop.example/cribble/laws.FnRowOnce", spec := "fnRowOnce", unfollowed := true, recurses := true, apart := false }
def FnRowOnceSaid : Prop := fnRowOnceRow.holds Try.pinned (OpenSpec.ofChange fnRowOnceSpec)

/-- ITS FALSE NEIGHBOUR: 'it returns false'. Refute it at one input. -/
def fnRowOnceWrong : ChangeSpec := { name := "fnRowOnce", fn := fun _ => fun
  | [d] => { results := [.lit (.bool false)], args := [d] }
  | _ => none }
def FnRowOnceWrongFalsely : Prop := fnRowOnceRow.holds Try.pinned (OpenSpec.ofChange fnRowOnceWrong)

/-- 'laws.FnRowBack': WHATEVER THE INPUT: true; the input reads as it did. -/
def fnRowBackSpec : ChangeSpec := { name := "fnRowBack", fn := fun _ => fun
  | [d1, d2] => { results := [.lit (.bool true)], args := [d1, d2] }
  | _ => none }
def fnRowBackRow : OpenClaim := { program := "ytiimmibdlhgkfaa", sum := "e1e50976806221720e18b78aba10f8540aa814382daacfad7a3a05a84a0f839f", func := "loop.example/cribble/laws.FnRowBack", spec := "fnRowBack", inPlace := ["slices.overlaps[string]", "slices.overlaps[loop.example/cribble/impl.Val]"], unfollowed := true, recurses := true, apart := false }
def FnRowBackSaid : Prop := fnRowBackRow.holds Try.pinned (OpenSpec.ofChange fnRowBackSpec)

/-- ITS FALSE NEIGHBOUR: 'it returns false'. Refute it at one input. -/
def fnRowBackWrong : ChangeSpec := { name := "fnRowBack", fn := fun _ => fun
  | [d1, d2] => { results := [.lit (.bool false)], args := [d1, d2] }
  | _ => none }
def FnRowBackWrongFalsely : Prop := fnRowBackRow.holds Try.pinned (OpenSpec.ofChange fnRowBackWrong)

/-- 'laws.FnRowBy': WHATEVER THE INPUT: true; the input reads as it did. -/
def fnRowBySpec : ChangeSpec := { name := "fnRowBy", fn := fun _ => fun
  | [d] => { results := [.lit (.bool true)], args := [d] }
  | _ => none }
def fnRowByRow : OpenClaim := { program := "ytiimmibdlhgkfaa", sum := "e1e50976806221720e18b78aba10f8540aa814382daacfad7a3a05a84a0f839f", func := "loop.example/cribble/laws.FnRowBy", spec := "fnRowBy", unfollowed := true, recurses := true, apart := false }
def FnRowBySaid : Prop := fnRowByRow.holds Try.pinned (OpenSpec.ofChange fnRowBySpec)

/-- ITS FALSE NEIGHBOUR: 'it returns false'. Refute it at one input. -/
def fnRowByWrong : ChangeSpec := { name := "fnRowBy", fn := fun _ => fun
  | [d] => { results := [.lit (.bool false)], args := [d] }
  | _ => none }
def FnRowByWrongFalsely : Prop := fnRowByRow.holds Try.pinned (OpenSpec.ofChange fnRowByWrong)

/-- 'laws.FnPathCat': WHATEVER THE INPUT: true; the input reads as it did. -/
def fnPathCatSpec : ChangeSpec := { name := "fnPathCat", fn := fun _ => fun
  | [d1, d2] => { results := [.lit (.bool true)], args := [d1, d2] }
  | _ => none }
def fnPathCatRow : OpenClaim := { program := "ytiimmibdlhgkfaa", sum := "e1e50976806221720e18b78aba10f8540aa814382daacfad7a3a05a84a0f839f", func := "loop.example/cribble/laws.FnPathCat", spec := "fnPathCat", inPlace := ["slices.overlaps[string]", "slices.overlaps[loop.example/cribble/impl.Val]"], unfollowed := true, recurses := true, apart := false }
def FnPathCatSaid : Prop := fnPathCatRow.holds Try.pinned (OpenSpec.ofChange fnPathCatSpec)

/-- ITS FALSE NEIGHBOUR: 'it returns false'. Refute it at one input. -/
def fnPathCatWrong : ChangeSpec := { name := "fnPathCat", fn := fun _ => fun
  | [d1, d2] => { results := [.lit (.bool false)], args := [d1, d2] }
  | _ => none }
def FnPathCatWrongFalsely : Prop := fnPathCatRow.holds Try.pinned (OpenSpec.ofChange fnPathCatWrong)

/-- 'laws.FnPath': WHATEVER THE INPUT: true; the input reads as it did. -/
def fnPathSpec : ChangeSpec := { name := "fnPath", fn := fun _ => fun
  | [d1, d2] => { results := [.lit (.bool true)], args := [d1, d2] }
  | _ => none }
def fnPathRow : OpenClaim := { program := "ytiimmibdlhgkfaa", sum := "e1e50976806221720e18b78aba10f8540aa814382daacfad7a3a05a84a0f839f", func := "loop.example/cribble/laws.FnPath", spec := "fnPath", inPlace := ["slices.overlaps[string]", "slices.overlaps[loop.example/cribble/impl.Val]"], unfollowed := true, recurses := true, apart := false }
def FnPathSaid : Prop := fnPathRow.holds Try.pinned (OpenSpec.ofChange fnPathSpec)

/-- ITS FALSE NEIGHBOUR: 'it returns false'. Refute it at one input. -/
def fnPathWrong : ChangeSpec := { name := "fnPath", fn := fun _ => fun
  | [d1, d2] => { results := [.lit (.bool false)], args := [d1, d2] }
  | _ => none }
def FnPathWrongFalsely : Prop := fnPathRow.holds Try.pinned (OpenSpec.ofChange fnPathWrong)

/-- 'laws.FnEditDo': WHATEVER THE INPUT: true; the input reads as it did. -/
def fnEditDoSpec : ChangeSpec := { name := "fnEditDo", fn := fun _ => fun
  | [d1, d2] => { results := [.lit (.bool true)], args := [d1, d2] }
  | _ => none }
def fnEditDoRow : OpenClaim := { program := "ytiimmibdlhgkfaa", sum := "e1e50976806221720e18b78aba10f8540aa814382daacfad7a3a05a84a0f839f", func := "loop.example/cribble/laws.FnEditDo", spec := "fnEditDo", inPlace := ["slices.overlaps[string]", "slices.overlaps[loop.example/cribble/impl.Val]"], unfollowed := true, recurses := true, apart := false }
def FnEditDoSaid : Prop := fnEditDoRow.holds Try.pinned (OpenSpec.ofChange fnEditDoSpec)

/-- ITS FALSE NEIGHBOUR: 'it returns false'. Refute it at one input. -/
def fnEditDoWrong : ChangeSpec := { name := "fnEditDo", fn := fun _ => fun
  | [d1, d2] => { results := [.lit (.bool false)], args := [d1, d2] }
  | _ => none }
def FnEditDoWrongFalsely : Prop := fnEditDoRow.holds Try.pinned (OpenSpec.ofChange fnEditDoWrong)

/-- 'laws.FnEditOnly': WHATEVER THE INPUT: true; the input reads as it did. -/
def fnEditOnlySpec : ChangeSpec := { name := "fnEditOnly", fn := fun _ => fun
  | [d] => { results := [.lit (.bool true)], args := [d] }
  | _ => none }
def fnEditOnlyRow : OpenClaim := { program := "ytiimmibdlhgkfaa", sum := "e1e50976806221720e18b78aba10f8540aa814382daacfad7a3a05a84a0f839f", func := "loop.example/cribble/laws.FnEditOnly", spec := "fnEditOnly", unfollowed := true, recurses := true, apart := false }
def FnEditOnlySaid : Prop := fnEditOnlyRow.holds Try.pinned (OpenSpec.ofChange fnEditOnlySpec)

/-- ITS FALSE NEIGHBOUR: 'it returns false'. Refute it at one input. -/
def fnEditOnlyWrong : ChangeSpec := { name := "fnEditOnly", fn := fun _ => fun
  | [d] => { results := [.lit (.bool false)], args := [d] }
  | _ => none }
def FnEditOnlyWrongFalsely : Prop := fnEditOnlyRow.holds Try.pinned (OpenSpec.ofChange fnEditOnlyWrong)

/- THE SECOND FORM. 'bulk': how many values and letters a reading holds, each counted each time it is reached (what is shared counts as often as it is met; a slice's spare places count too). A statement '..UptoSaid' is the law's where the arguments, and the package variables that the reading takes, are together of bulk at most 1048576: NARROWER than '..Said'. Prove '..Said' where nothing that the law and all that it calls make is longer than what came in: it says more and counts as full. Else prove '..UptoSaid'. A law counts once. -/
mutual
def uptoBulk {H : Type} : DataW H → Nat
  | .lit (.string bytes) => bytes.length + 1
  | .lit _ => 1
  | .nil => 1
  | .ptr d => uptoBulk d + 1
  | .slice elems spare => uptoBulkAll elems + uptoBulkAll spare + 1
  | .agg parts => uptoBulkAll parts + 1
  | .iface _ d => uptoBulk d + 1
  | .map entries => uptoBulkEntries entries + 1
  | .held _ => 1
def uptoBulkAll {H : Type} : List (DataW H) → Nat
  | [] => 0
  | d :: r => uptoBulk d + uptoBulkAll r
def uptoBulkEntries {H : Type} : List (Lit × DataW H) → Nat
  | [] => 0
  | x :: r => uptoBulkEntry x + uptoBulkEntries r
def uptoBulkEntry {H : Type} : Lit × DataW H → Nat
  | (.string bytes, d) => bytes.length + uptoBulk d + 1
  | (_, d) => uptoBulk d + 1
 end
def uptoSmall : (H : Type) → List (DataW H) → Bool := fun _ ds => decide (uptoBulkAll ds ≤ 1048576)
def OpenSpec.upto (s : _root_.Go.ChangeSpec) : _root_.Go.OpenSpec := { _root_.Go.OpenSpec.ofChange s with cond := some uptoSmall }

/-- 'laws.FnRowLeast', WHERE WHAT IT READS IS OF BULK AT MOST 1048576: true; the input reads as it did. -/
def fnRowLeastUptoRow : OpenClaim := { program := "ytiimmibdlhgkfaa", sum := "e1e50976806221720e18b78aba10f8540aa814382daacfad7a3a05a84a0f839f", func := "loop.example/cribble/laws.FnRowLeast", spec := "fnRowLeast", unfollowed := true, recurses := true, apart := false, narrowed := true }
def FnRowLeastUptoSaid : Prop := fnRowLeastUptoRow.holds Try.pinned (OpenSpec.upto fnRowLeastSpec)

/-- 'laws.FnRowSum', WHERE WHAT IT READS IS OF BULK AT MOST 1048576: true; the input reads as it did. -/
def fnRowSumUptoRow : OpenClaim := { program := "ytiimmibdlhgkfaa", sum := "e1e50976806221720e18b78aba10f8540aa814382daacfad7a3a05a84a0f839f", func := "loop.example/cribble/laws.FnRowSum", spec := "fnRowSum", inPlace := ["slices.overlaps[string]", "slices.overlaps[loop.example/cribble/impl.Val]"], unfollowed := true, recurses := true, apart := false, narrowed := true }
def FnRowSumUptoSaid : Prop := fnRowSumUptoRow.holds Try.pinned (OpenSpec.upto fnRowSumSpec)

/-- 'laws.FnRowOnce', WHERE WHAT IT READS IS OF BULK AT MOST 1048576: true; the input reads as it did. -/
def fnRowOnceUptoRow : OpenClaim := { program := "ytiimmibdlhgkfaa", sum := "e1e50976806221720e18b78aba10f8540aa814382daacfad7a3a05a84a0f839f", func := "loop.example/cribble/laws.FnRowOnce", spec := "fnRowOnce", unfollowed := true, recurses := true, apart := false, narrowed := true }
def FnRowOnceUptoSaid : Prop := fnRowOnceUptoRow.holds Try.pinned (OpenSpec.upto fnRowOnceSpec)

/-- 'laws.FnRowBack', WHERE WHAT IT READS IS OF BULK AT MOST 1048576: true; the input reads as it did. -/
def fnRowBackUptoRow : OpenClaim := { program := "ytiimmibdlhgkfaa", sum := "e1e50976806221720e18b78aba10f8540aa814382daacfad7a3a05a84a0f839f", func := "loop.example/cribble/laws.FnRowBack", spec := "fnRowBack", inPlace := ["slices.overlaps[string]", "slices.overlaps[loop.example/cribble/impl.Val]"], unfollowed := true, recurses := true, apart := false, narrowed := true }
def FnRowBackUptoSaid : Prop := fnRowBackUptoRow.holds Try.pinned (OpenSpec.upto fnRowBackSpec)

/-- 'laws.FnRowBy', WHERE WHAT IT READS IS OF BULK AT MOST 1048576: true; the input reads as it did. -/
def fnRowByUptoRow : OpenClaim := { program := "ytiimmibdlhgkfaa", sum := "e1e50976806221720e18b78aba10f8540aa814382daacfad7a3a05a84a0f839f", func := "loop.example/cribble/laws.FnRowBy", spec := "fnRowBy", unfollowed := true, recurses := true, apart := false, narrowed := true }
def FnRowByUptoSaid : Prop := fnRowByUptoRow.holds Try.pinned (OpenSpec.upto fnRowBySpec)

/-- 'laws.FnPathCat', WHERE WHAT IT READS IS OF BULK AT MOST 1048576: true; the input reads as it did. -/
def fnPathCatUptoRow : OpenClaim := { program := "ytiimmibdlhgkfaa", sum := "e1e50976806221720e18b78aba10f8540aa814382daacfad7a3a05a84a0f839f", func := "loop.example/cribble/laws.FnPathCat", spec := "fnPathCat", inPlace := ["slices.overlaps[string]", "slices.overlaps[loop.example/cribble/impl.Val]"], unfollowed := true, recurses := true, apart := false, narrowed := true }
def FnPathCatUptoSaid : Prop := fnPathCatUptoRow.holds Try.pinned (OpenSpec.upto fnPathCatSpec)

/-- 'laws.FnPath', WHERE WHAT IT READS IS OF BULK AT MOST 1048576: true; the input reads as it did. -/
def fnPathUptoRow : OpenClaim := { program := "ytiimmibdlhgkfaa", sum := "e1e50976806221720e18b78aba10f8540aa814382daacfad7a3a05a84a0f839f", func := "loop.example/cribble/laws.FnPath", spec := "fnPath", inPlace := ["slices.overlaps[string]", "slices.overlaps[loop.example/cribble/impl.Val]"], unfollowed := true, recurses := true, apart := false, narrowed := true }
def FnPathUptoSaid : Prop := fnPathUptoRow.holds Try.pinned (OpenSpec.upto fnPathSpec)

/-- 'laws.FnEditDo', WHERE WHAT IT READS IS OF BULK AT MOST 1048576: true; the input reads as it did. -/
def fnEditDoUptoRow : OpenClaim := { program := "ytiimmibdlhgkfaa", sum := "e1e50976806221720e18b78aba10f8540aa814382daacfad7a3a05a84a0f839f", func := "loop.example/cribble/laws.FnEditDo", spec := "fnEditDo", inPlace := ["slices.overlaps[string]", "slices.overlaps[loop.example/cribble/impl.Val]"], unfollowed := true, recurses := true, apart := false, narrowed := true }
def FnEditDoUptoSaid : Prop := fnEditDoUptoRow.holds Try.pinned (OpenSpec.upto fnEditDoSpec)

/-- 'laws.FnEditOnly', WHERE WHAT IT READS IS OF BULK AT MOST 1048576: true; the input reads as it did. -/
def fnEditOnlyUptoRow : OpenClaim := { program := "ytiimmibdlhgkfaa", sum := "e1e50976806221720e18b78aba10f8540aa814382daacfad7a3a05a84a0f839f", func := "loop.example/cribble/laws.FnEditOnly", spec := "fnEditOnly", unfollowed := true, recurses := true, apart := false, narrowed := true }
def FnEditOnlyUptoSaid : Prop := fnEditOnlyUptoRow.holds Try.pinned (OpenSpec.upto fnEditOnlySpec)

end Rows
end Go.Proofs.Ytiimmibdlhgkfaa
