/-
  No cell of these rows narrows 'for every input' (looked for: loops, veiled, ifaces, maps, wideKeys, modest, calm, conditions, laid).
  DERIVED. THE GIVEN ROWS OF THIS SEAT. 3 by the template 'for every input the law returns true; each argument reads behind the call as it read before'; 0 by the template 'total and deterministic' (their statements: YtaldfcjengfibaaTotals.lean).
  GIVEN WITH THE SEED: the statements are not yours to turn. If you find one false, say at which input.
  Laid BY PROGRAM, IN A SANDBOX (cutbox-rows.mjs): the forced cells as the released guide's own fill.sh prints them over the translation 31f510063fa1fdb4… (all of the seat's roots in one cut). By AI agents, Wed Nov 11 2026. No macro, syntax, notation, axiom, sorry.
-/
import Derived.Test.YtaldfcjengfibaaChecked
import GoSem.Claim
import GoSem.ClaimJoined
import GoSem.ClaimMapViews
import Derived.JoinedTies
import Derived.KernelRfl
namespace Go.Proofs.Ytaldfcjengfibaa
/- THE CELL 'sum', in the pinned program and in every row, IS THE sha256 OF THE DUMP (.gsa) THAT YtaldfcjengfibaaProg.lean LOADS. Nothing in Lean hashes anything: it is a label: what it is worth is what the hold of that sum in a sandbox is worth. -/
noncomputable def Try.pinned : Pinned := { name := "ytaldfcjengfibaa", sum := "31f510063fa1fdb4d96e9c59845a69df95f4bf4609ba56e8d879381f52f20920", checked := Try.checked }
namespace Rows
def none {H : Type} : Left H := { results := [], args := [] }

/-- 'laws.FnRowSum': WHATEVER THE INPUT: true; the input reads as it did. -/
def fnRowSumSpec : ChangeSpec := { name := "fnRowSum", fn := fun _ => fun
  | [d] => { results := [.lit (.bool true)], args := [d] }
  | _ => none }
def fnRowSumRow : OpenClaim := { program := "ytaldfcjengfibaa", sum := "31f510063fa1fdb4d96e9c59845a69df95f4bf4609ba56e8d879381f52f20920", func := "loop.example/cribble/laws.FnRowSum", spec := "fnRowSum", inPlace := ["slices.overlaps[string]", "slices.overlaps[loop.example/cribble/impl.Val]"], unfollowed := true, recurses := true, apart := false }
def FnRowSumSaid : Prop := fnRowSumRow.holds Try.pinned (OpenSpec.ofChange fnRowSumSpec)

/-- ITS FALSE NEIGHBOUR: 'it returns false'. Refute it at one input. -/
def fnRowSumWrong : ChangeSpec := { name := "fnRowSum", fn := fun _ => fun
  | [d] => { results := [.lit (.bool false)], args := [d] }
  | _ => none }
def FnRowSumWrongFalsely : Prop := fnRowSumRow.holds Try.pinned (OpenSpec.ofChange fnRowSumWrong)

/-- 'laws.FnRowBack': WHATEVER THE INPUT: true; the input reads as it did. -/
def fnRowBackSpec : ChangeSpec := { name := "fnRowBack", fn := fun _ => fun
  | [d1, d2] => { results := [.lit (.bool true)], args := [d1, d2] }
  | _ => none }
def fnRowBackRow : OpenClaim := { program := "ytaldfcjengfibaa", sum := "31f510063fa1fdb4d96e9c59845a69df95f4bf4609ba56e8d879381f52f20920", func := "loop.example/cribble/laws.FnRowBack", spec := "fnRowBack", inPlace := ["slices.overlaps[string]", "slices.overlaps[loop.example/cribble/impl.Val]"], unfollowed := true, recurses := true, apart := false }
def FnRowBackSaid : Prop := fnRowBackRow.holds Try.pinned (OpenSpec.ofChange fnRowBackSpec)

/-- ITS FALSE NEIGHBOUR: 'it returns false'. Refute it at one input. -/
def fnRowBackWrong : ChangeSpec := { name := "fnRowBack", fn := fun _ => fun
  | [d1, d2] => { results := [.lit (.bool false)], args := [d1, d2] }
  | _ => none }
def FnRowBackWrongFalsely : Prop := fnRowBackRow.holds Try.pinned (OpenSpec.ofChange fnRowBackWrong)

/-- 'laws.FnRowBy': WHATEVER THE INPUT: true; the input reads as it did. -/
def fnRowBySpec : ChangeSpec := { name := "fnRowBy", fn := fun _ => fun
  | [d] => { results := [.lit (.bool true)], args := [d] }
  | _ => none }
def fnRowByRow : OpenClaim := { program := "ytaldfcjengfibaa", sum := "31f510063fa1fdb4d96e9c59845a69df95f4bf4609ba56e8d879381f52f20920", func := "loop.example/cribble/laws.FnRowBy", spec := "fnRowBy", unfollowed := true, recurses := true, apart := false }
def FnRowBySaid : Prop := fnRowByRow.holds Try.pinned (OpenSpec.ofChange fnRowBySpec)

/-- ITS FALSE NEIGHBOUR: 'it returns false'. Refute it at one input. -/
def fnRowByWrong : ChangeSpec := { name := "fnRowBy", fn := fun _ => fun
  | [d] => { results := [.lit (.bool false)], args := [d] }
  | _ => none }
def FnRowByWrongFalsely : Prop := fnRowByRow.holds Try.pinned (OpenSpec.ofChange fnRowByWrong)

/- THE SECOND FORM. 'bulk': how many values and letters a reading holds, each counted each time it is reached (what is shared counts as often as it is met; a slice's spare places count too). A statement '..UptoSaid' is the law's where the arguments, and the package variables that the reading takes, are together of bulk at most 1048576: NARROWER than '..Said'. Prove '..Said' where nothing that the law and all that it calls make is longer than what came in: it says more and counts as full. Else prove '..UptoSaid'. A law counts once. -/
mutual
def uptoBulk {H : Type} : DataW H → Nat
  | .lit (.string bytes) => bytes.length + 1
  | .lit _ => 1
  | .nil => 1
  | .ptr d => uptoBulk d + 1
  | .slice elems spare => uptoBulkAll elems + uptoBulkAll spare + 1
  | .agg parts => uptoBulkAll parts + 1
  | .iface _ d => uptoBulk d + 1
  | .map entries => uptoBulkEntries entries + 1
  | .held _ => 1
def uptoBulkAll {H : Type} : List (DataW H) → Nat
  | [] => 0
  | d :: r => uptoBulk d + uptoBulkAll r
def uptoBulkEntries {H : Type} : List (Lit × DataW H) → Nat
  | [] => 0
  | x :: r => uptoBulkEntry x + uptoBulkEntries r
def uptoBulkEntry {H : Type} : Lit × DataW H → Nat
  | (.string bytes, d) => bytes.length + uptoBulk d + 1
  | (_, d) => uptoBulk d + 1
 end
def uptoSmall : (H : Type) → List (DataW H) → Bool := fun _ ds => decide (uptoBulkAll ds ≤ 1048576)
def OpenSpec.upto (s : _root_.Go.ChangeSpec) : _root_.Go.OpenSpec := { _root_.Go.OpenSpec.ofChange s with cond := some uptoSmall }

/-- 'laws.FnRowSum', WHERE WHAT IT READS IS OF BULK AT MOST 1048576: true; the input reads as it did. -/
def fnRowSumUptoRow : OpenClaim := { program := "ytaldfcjengfibaa", sum := "31f510063fa1fdb4d96e9c59845a69df95f4bf4609ba56e8d879381f52f20920", func := "loop.example/cribble/laws.FnRowSum", spec := "fnRowSum", inPlace := ["slices.overlaps[string]", "slices.overlaps[loop.example/cribble/impl.Val]"], unfollowed := true, recurses := true, apart := false, narrowed := true }
def FnRowSumUptoSaid : Prop := fnRowSumUptoRow.holds Try.pinned (OpenSpec.upto fnRowSumSpec)

/-- 'laws.FnRowBack', WHERE WHAT IT READS IS OF BULK AT MOST 1048576: true; the input reads as it did. -/
def fnRowBackUptoRow : OpenClaim := { program := "ytaldfcjengfibaa", sum := "31f510063fa1fdb4d96e9c59845a69df95f4bf4609ba56e8d879381f52f20920", func := "loop.example/cribble/laws.FnRowBack", spec := "fnRowBack", inPlace := ["slices.overlaps[string]", "slices.overlaps[loop.example/cribble/impl.Val]"], unfollowed := true, recurses := true, apart := false, narrowed := true }
def FnRowBackUptoSaid : Prop := fnRowBackUptoRow.holds Try.pinned (OpenSpec.upto fnRowBackSpec)

/-- 'laws.FnRowBy', WHERE WHAT IT READS IS OF BULK AT MOST 1048576: true; the input reads as it did. -/
def fnRowByUptoRow : OpenClaim := { program := "ytaldfcjengfibaa", sum := "31f510063fa1fdb4d96e9c59845a69df95f4bf4609ba56e8d879381f52f20920", func := "loop.example/cribble/laws.FnRowBy", spec := "fnRowBy", unfollowed := true, recurses := true, apart := false, narrowed := true }
def FnRowByUptoSaid : Prop := fnRowByUptoRow.holds Try.pinned (OpenSpec.upto fnRowBySpec)

end Rows
end Go.Proofs.Ytaldfcjengfibaa
