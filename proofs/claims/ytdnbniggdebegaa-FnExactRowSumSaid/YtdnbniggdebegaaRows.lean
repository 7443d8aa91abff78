/-
  NARROWER THAN 'FOR EVERY INPUT', by the rows' own cells (each row's printed sentence says how): FnExactPartAdd: loops · FnExactRowSum: loops.
  DERIVED. THE GIVEN ROWS OF THIS SEAT. 2 by the template 'for every input the law returns true; each argument reads behind the call as it read before'; 0 by the template 'total and deterministic' (their statements: YtdnbniggdebegaaTotals.lean).
  GIVEN WITH THE SEED: the statements are not yours to turn. If you find one false, say at which input.
  Laid BY PROGRAM, IN A SANDBOX (cutbox-rows.mjs): the forced cells as the released guide's own fill.sh prints them over the translation 4902e44118fd8706… (all of the seat's roots in one cut). By AI agents, Wed Nov 11 2026. No macro, syntax, notation, axiom, sorry.
-/
import Derived.Test.YtdnbniggdebegaaChecked
import GoSem.Claim
import GoSem.ClaimJoined
import GoSem.ClaimMapViews
import Derived.JoinedTies
import Derived.KernelRfl
namespace Go.Proofs.Ytdnbniggdebegaa
/- THE CELL 'sum', in the pinned program and in every row, IS THE sha256 OF THE DUMP (.gsa) THAT YtdnbniggdebegaaProg.lean LOADS. Nothing in Lean hashes anything: it is a label: what it is worth is what the hold of that sum in a sandbox is worth. -/
noncomputable def Try.pinned : Pinned := { name := "ytdnbniggdebegaa", sum := "4902e44118fd870607894f3101032f3047c80aa2f5996b2f1763352514217e81", checked := Try.checked }
namespace Rows
def none {H : Type} : Left H := { results := [], args := [] }

/-- 'laws.FnExactPartAdd': WHATEVER THE INPUT: true; the input reads as it did. -/
def fnExactPartAddSpec : ChangeSpec := { name := "fnExactPartAdd", fn := fun _ => fun
  | [d1, d2] => { results := [.lit (.bool true)], args := [d1, d2] }
  | _ => none }
def fnExactPartAddRow : OpenClaim := { program := "ytdnbniggdebegaa", sum := "4902e44118fd870607894f3101032f3047c80aa2f5996b2f1763352514217e81", func := "loop.example/cribble/laws.FnExactPartAdd", spec := "fnExactPartAdd", inPlace := ["slices.overlaps[string]", "slices.overlaps[loop.example/cribble/impl.Val]"], recurses := true, loops := true, apart := false }
def FnExactPartAddSaid : Prop := fnExactPartAddRow.holds Try.pinned (OpenSpec.ofChange fnExactPartAddSpec)

/-- ITS FALSE NEIGHBOUR: 'it returns false'. Refute it at one input. -/
def fnExactPartAddWrong : ChangeSpec := { name := "fnExactPartAdd", fn := fun _ => fun
  | [d1, d2] => { results := [.lit (.bool false)], args := [d1, d2] }
  | _ => none }
def FnExactPartAddWrongFalsely : Prop := fnExactPartAddRow.holds Try.pinned (OpenSpec.ofChange fnExactPartAddWrong)

/-- 'laws.FnExactRowSum': WHATEVER THE INPUT: true; the input reads as it did. -/
def fnExactRowSumSpec : ChangeSpec := { name := "fnExactRowSum", fn := fun _ => fun
  | [d] => { results := [.lit (.bool true)], args := [d] }
  | _ => none }
def fnExactRowSumRow : OpenClaim := { program := "ytdnbniggdebegaa", sum := "4902e44118fd870607894f3101032f3047c80aa2f5996b2f1763352514217e81", func := "loop.example/cribble/laws.FnExactRowSum", spec := "fnExactRowSum", inPlace := ["slices.overlaps[string]", "slices.overlaps[loop.example/cribble/impl.Val]"], recurses := true, loops := true, apart := false }
def FnExactRowSumSaid : Prop := fnExactRowSumRow.holds Try.pinned (OpenSpec.ofChange fnExactRowSumSpec)

/-- ITS FALSE NEIGHBOUR: 'it returns false'. Refute it at one input. -/
def fnExactRowSumWrong : ChangeSpec := { name := "fnExactRowSum", fn := fun _ => fun
  | [d] => { results := [.lit (.bool false)], args := [d] }
  | _ => none }
def FnExactRowSumWrongFalsely : Prop := fnExactRowSumRow.holds Try.pinned (OpenSpec.ofChange fnExactRowSumWrong)

/- THE SECOND FORM. 'bulk': how many values and letters a reading holds, each counted each time it is reached (what is shared counts as often as it is met; a slice's spare places count too). A statement '..UptoSaid' is the law's where the arguments, and the package variables that the reading takes, are together of bulk at most 1048576: NARROWER than '..Said'. Prove '..Said' where nothing that the law and all that it calls make is longer than what came in: it says more and counts as full. Else prove '..UptoSaid'. A law counts once. -/
mutual
def uptoBulk {H : Type} : DataW H → Nat
  | .lit (.string bytes) => bytes.length + 1
  | .lit _ => 1
  | .nil => 1
  | .ptr d => uptoBulk d + 1
  | .slice elems spare => uptoBulkAll elems + uptoBulkAll spare + 1
  | .agg parts => uptoBulkAll parts + 1
  | .iface _ d => uptoBulk d + 1
  | .map entries => uptoBulkEntries entries + 1
  | .held _ => 1
def uptoBulkAll {H : Type} : List (DataW H) → Nat
  | [] => 0
  | d :: r => uptoBulk d + uptoBulkAll r
def uptoBulkEntries {H : Type} : List (Lit × DataW H) → Nat
  | [] => 0
  | x :: r => uptoBulkEntry x + uptoBulkEntries r
def uptoBulkEntry {H : Type} : Lit × DataW H → Nat
  | (.string bytes, d) => bytes.length + uptoBulk d + 1
  | (_, d) => uptoBulk d + 1
 end
def uptoSmall : (H : Type) → List (DataW H) → Bool := fun _ ds => decide (uptoBulkAll ds ≤ 1048576)
def OpenSpec.upto (s : _root_.Go.ChangeSpec) : _root_.Go.OpenSpec := { _root_.Go.OpenSpec.ofChange s with cond := some uptoSmall }

/-- 'laws.FnExactPartAdd', WHERE WHAT IT READS IS OF BULK AT MOST 1048576: true; the input reads as it did. -/
def fnExactPartAddUptoRow : OpenClaim := { program := "ytdnbniggdebegaa", sum := "4902e44118fd870607894f3101032f3047c80aa2f5996b2f1763352514217e81", func := "loop.example/cribble/laws.FnExactPartAdd", spec := "fnExactPartAdd", inPlace := ["slices.overlaps[string]", "slices.overlaps[loop.example/cribble/impl.Val]"], recurses := true, loops := true, apart := false, narrowed := true }
def FnExactPartAddUptoSaid : Prop := fnExactPartAddUptoRow.holds Try.pinned (OpenSpec.upto fnExactPartAddSpec)

/-- 'laws.FnExactRowSum', WHERE WHAT IT READS IS OF BULK AT MOST 1048576: true; the input reads as it did. -/
def fnExactRowSumUptoRow : OpenClaim := { program := "ytdnbniggdebegaa", sum := "4902e44118fd870607894f3101032f3047c80aa2f5996b2f1763352514217e81", func := "loop.example/cribble/laws.FnExactRowSum", spec := "fnExactRowSum", inPlace := ["slices.overlaps[string]", "slices.overlaps[loop.example/cribble/impl.Val]"], recurses := true, loops := true, apart := false, narrowed := true }
def FnExactRowSumUptoSaid : Prop := fnExactRowSumUptoRow.holds Try.pinned (OpenSpec.upto fnExactRowSumSpec)

end Rows
end Go.Proofs.Ytdnbniggdebegaa
