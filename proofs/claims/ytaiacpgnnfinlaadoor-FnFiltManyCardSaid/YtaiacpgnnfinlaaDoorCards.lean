/-
  DERIVED. GIVEN WITH THE SEED: THE CARDS: each row of YtaiacpgnnfinlaaDoorRows.lean that lists a variable, with what it lists TIED to the program's text (the seventh form; the later family's looks); each row that meets fmt, with fmt's text TOLD by the authors' own Lean function (tested against real Go, not proved from fmt's source: count such statements apart). THE CARD IS WHAT COUNTS. Prove the row's statement (the work); the ties are given (YtaiacpgnnfinlaaDoorTie.lean); close each card by the builder's one call (the guide's Derived/Test/ToyasCard.lean, 'card_holds'). Laid BY PROGRAM, IN A SANDBOX (cutbox-door.mjs). By AI agents, Wed Nov 11 2026. No macro, syntax, notation, axiom, sorry.
-/
import Derived.Test.YtaiacpgnnfinlaaDoorRows
import GoSem.ClaimSeven
namespace Go.Proofs.YtaiacpgnnfinlaaDoor
namespace Rows

/-- THE TIED CARD OF 'laws.FnFiltMany'. -/
def fnFiltManyCard : Claim7 := { stood := { row := fnFiltManyRow, standIns := [], harness := (true, "735dda01913fc9cda288389901bcb16fe34393ed91bdd00f2f0261d334bcd44e"), looks := false }, kinds := [], alts := [], laidByText := true, laidKinds := [.data, .data, .data, .widerDeep, .data], laidTests := true, laidLooks := .later }
def FnFiltManyCardSaid : Prop := Claim7.holds Tryd.pinned (.plain (OpenSpec.ofChange fnFiltManySpec)) fnFiltManyCard

/-- THE SECOND FORM's CARD OF 'laws.FnFiltMany'. -/
def fnFiltManyUptoCard : Claim7 := { stood := { row := fnFiltManyUptoRow, standIns := [], harness := (true, "735dda01913fc9cda288389901bcb16fe34393ed91bdd00f2f0261d334bcd44e"), looks := false }, kinds := [], alts := [], laidByText := true, laidKinds := [.data, .data, .data, .widerDeep, .data], laidTests := true, laidLooks := .later }
def FnFiltManyUptoCardSaid : Prop := Claim7.holds Tryd.pinned (.plain (OpenSpec.upto fnFiltManySpec)) fnFiltManyUptoCard
end Rows
end Go.Proofs.YtaiacpgnnfinlaaDoor
