/-
  DERIVED. GIVEN WITH THE SEED: THE CARDS: each row of YtlgjkdaembipoaaDoorRows.lean that lists a variable, with what it lists TIED to the program's text (the seventh form; the later family's looks); each row that meets fmt, with fmt's text TOLD by the authors' own Lean function (tested against real Go, not proved from fmt's source: count such statements apart). THE CARD IS WHAT COUNTS. Prove the row's statement (the work); the ties are given (YtlgjkdaembipoaaDoorTie.lean); close each card by the builder's one call (the guide's Derived/Test/ToyasCard.lean, 'card_holds'). Laid BY PROGRAM, IN A SANDBOX (cutbox-door.mjs). By AI agents, Wed Nov 11 2026. No macro, syntax, notation, axiom, sorry.
-/
import Derived.Test.YtlgjkdaembipoaaDoorRows
import GoSem.ClaimSeven
namespace Go.Proofs.YtlgjkdaembipoaaDoor
namespace Rows

/-- THE TIED CARD OF 'laws.FnExactEditText'. -/
def fnExactEditTextCard : Claim7 := { stood := { row := fnExactEditTextRow, standIns := [], harness := (true, "4e409d74f9885e8c80e9e7ca4313c3a890061bcb7ff54beafd7035e24c27d501"), looks := false }, kinds := [], alts := [], laidByText := true, laidKinds := [.data, .data, .data], laidTests := true, laidLooks := .later }
def FnExactEditTextCardSaid : Prop := Claim7.holds Tryd.pinned (.plain (OpenSpec.ofChange fnExactEditTextSpec)) fnExactEditTextCard

/-- THE TIED CARD OF 'laws.FnExactFiltText'. -/
def fnExactFiltTextCard : Claim7 := { stood := { row := fnExactFiltTextRow, standIns := [], harness := (true, "4e409d74f9885e8c80e9e7ca4313c3a890061bcb7ff54beafd7035e24c27d501"), looks := false }, kinds := [], alts := [], laidByText := true, laidKinds := [.data, .data, .data, .widerDeep, .data], laidTests := true, laidLooks := .later }
def FnExactFiltTextCardSaid : Prop := Claim7.holds Tryd.pinned (.plain (OpenSpec.ofChange fnExactFiltTextSpec)) fnExactFiltTextCard

/-- THE SECOND FORM's CARD OF 'laws.FnExactEditText'. -/
def fnExactEditTextUptoCard : Claim7 := { stood := { row := fnExactEditTextUptoRow, standIns := [], harness := (true, "4e409d74f9885e8c80e9e7ca4313c3a890061bcb7ff54beafd7035e24c27d501"), looks := false }, kinds := [], alts := [], laidByText := true, laidKinds := [.data, .data, .data], laidTests := true, laidLooks := .later }
def FnExactEditTextUptoCardSaid : Prop := Claim7.holds Tryd.pinned (.plain (OpenSpec.upto fnExactEditTextSpec)) fnExactEditTextUptoCard

/-- THE SECOND FORM's CARD OF 'laws.FnExactFiltText'. -/
def fnExactFiltTextUptoCard : Claim7 := { stood := { row := fnExactFiltTextUptoRow, standIns := [], harness := (true, "4e409d74f9885e8c80e9e7ca4313c3a890061bcb7ff54beafd7035e24c27d501"), looks := false }, kinds := [], alts := [], laidByText := true, laidKinds := [.data, .data, .data, .widerDeep, .data], laidTests := true, laidLooks := .later }
def FnExactFiltTextUptoCardSaid : Prop := Claim7.holds Tryd.pinned (.plain (OpenSpec.upto fnExactFiltTextSpec)) fnExactFiltTextUptoCard
end Rows
end Go.Proofs.YtlgjkdaembipoaaDoor
