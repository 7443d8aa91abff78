/-
  DERIVED. GIVEN WITH THE SEED: THE CARDS: each row of YtfjjlmoimamiaaaDoorRows.lean that lists a variable, with what it lists TIED to the program's text (the seventh form; the later family's looks); each row that meets fmt, with fmt's text TOLD by the authors' own Lean function (tested against real Go, not proved from fmt's source: count such statements apart). THE CARD IS WHAT COUNTS. Prove the row's statement (the work); the ties are given (YtfjjlmoimamiaaaDoorTie.lean); close each card by the builder's one call (the guide's Derived/Test/ToyasCard.lean, 'card_holds'). Laid BY PROGRAM, IN A SANDBOX (cutbox-door.mjs). By AI agents, Wed Nov 11 2026. No macro, syntax, notation, axiom, sorry.
-/
import Derived.Test.YtfjjlmoimamiaaaDoorRows
import GoSem.ClaimSeven
namespace Go.Proofs.YtfjjlmoimamiaaaDoor
namespace Rows

/-- THE TIED CARD OF 'laws.FnExactGenOpen'. -/
def fnExactGenOpenCard : Claim7 := { stood := { row := fnExactGenOpenRow, standIns := [], harness := (true, "d822d04c2a2a705496d58079fbb3fcf9dc775e7b5e541bea34f5de780d8520d7"), looks := false }, kinds := [], alts := [], laidByText := true, laidKinds := [.data], laidTests := true, laidLooks := .later }
def FnExactGenOpenCardSaid : Prop := Claim7.holds Tryd.pinned (.plain (OpenSpec.ofChange fnExactGenOpenSpec)) fnExactGenOpenCard

/-- THE TIED CARD OF 'laws.FnFiltBent'. -/
def fnFiltBentCard : Claim7 := { stood := { row := fnFiltBentRow, standIns := [], harness := (true, "d822d04c2a2a705496d58079fbb3fcf9dc775e7b5e541bea34f5de780d8520d7"), looks := false }, kinds := [], alts := [], laidByText := true, laidKinds := [.data, .data, .data, .widerDeep, .data], laidTests := true, laidLooks := .later }
def FnFiltBentCardSaid : Prop := Claim7.holds Tryd.pinned (.plain (OpenSpec.ofChange fnFiltBentSpec)) fnFiltBentCard

/-- THE SECOND FORM's CARD OF 'laws.FnExactGenOpen'. -/
def fnExactGenOpenUptoCard : Claim7 := { stood := { row := fnExactGenOpenUptoRow, standIns := [], harness := (true, "d822d04c2a2a705496d58079fbb3fcf9dc775e7b5e541bea34f5de780d8520d7"), looks := false }, kinds := [], alts := [], laidByText := true, laidKinds := [.data], laidTests := true, laidLooks := .later }
def FnExactGenOpenUptoCardSaid : Prop := Claim7.holds Tryd.pinned (.plain (OpenSpec.upto fnExactGenOpenSpec)) fnExactGenOpenUptoCard

/-- THE SECOND FORM's CARD OF 'laws.FnFiltBent'. -/
def fnFiltBentUptoCard : Claim7 := { stood := { row := fnFiltBentUptoRow, standIns := [], harness := (true, "d822d04c2a2a705496d58079fbb3fcf9dc775e7b5e541bea34f5de780d8520d7"), looks := false }, kinds := [], alts := [], laidByText := true, laidKinds := [.data, .data, .data, .widerDeep, .data], laidTests := true, laidLooks := .later }
def FnFiltBentUptoCardSaid : Prop := Claim7.holds Tryd.pinned (.plain (OpenSpec.upto fnFiltBentSpec)) fnFiltBentUptoCard
end Rows
end Go.Proofs.YtfjjlmoimamiaaaDoor
