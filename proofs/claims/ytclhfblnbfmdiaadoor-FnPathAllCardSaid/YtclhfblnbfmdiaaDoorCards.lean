/-
  DERIVED. GIVEN WITH THE SEED: THE CARDS: each row of YtclhfblnbfmdiaaDoorRows.lean that lists a variable, with what it lists TIED to the program's text (the seventh form; the later family's looks); each row that meets fmt, with fmt's text TOLD by the authors' own Lean function (tested against real Go, not proved from fmt's source: count such statements apart). THE CARD IS WHAT COUNTS. Prove the row's statement (the work); the ties are given (YtclhfblnbfmdiaaDoorTie.lean); close each card by the builder's one call (the guide's Derived/Test/ToyasCard.lean, 'card_holds'). Laid BY PROGRAM, IN A SANDBOX (cutbox-door.mjs). By AI agents, Wed Nov 11 2026. No macro, syntax, notation, axiom, sorry.
-/
import Derived.Test.YtclhfblnbfmdiaaDoorRows
import GoSem.ClaimSeven
namespace Go.Proofs.YtclhfblnbfmdiaaDoor
namespace Rows

/-- THE TIED CARD OF 'laws.FnPathAll'. -/
def fnPathAllCard : Claim7 := { stood := { row := fnPathAllRow, standIns := [], harness := (true, "cbc0a386ad86b4f3d6047286a81eea4fb68b2ab8d8abe47a98f8f86d843dd2dd"), looks := false }, kinds := [], alts := [], laidByText := true, laidKinds := [.data, .data, .data], laidTests := true, laidLooks := .later }
def FnPathAllCardSaid : Prop := Claim7.holds Tryd.pinned (.plain (OpenSpec.ofChange fnPathAllSpec)) fnPathAllCard

/-- THE SECOND FORM's CARD OF 'laws.FnPathAll'. -/
def fnPathAllUptoCard : Claim7 := { stood := { row := fnPathAllUptoRow, standIns := [], harness := (true, "cbc0a386ad86b4f3d6047286a81eea4fb68b2ab8d8abe47a98f8f86d843dd2dd"), looks := false }, kinds := [], alts := [], laidByText := true, laidKinds := [.data, .data, .data], laidTests := true, laidLooks := .later }
def FnPathAllUptoCardSaid : Prop := Claim7.holds Tryd.pinned (.plain (OpenSpec.upto fnPathAllSpec)) fnPathAllUptoCard
end Rows
end Go.Proofs.YtclhfblnbfmdiaaDoor
