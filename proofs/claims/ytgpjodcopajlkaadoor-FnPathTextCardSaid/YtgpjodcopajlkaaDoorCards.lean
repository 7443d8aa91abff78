/-
  DERIVED. GIVEN WITH THE SEED: THE CARDS: each row of YtgpjodcopajlkaaDoorRows.lean that lists a variable, with what it lists TIED to the program's text (the seventh form; the later family's looks); each row that meets fmt, with fmt's text TOLD by the authors' own Lean function (tested against real Go, not proved from fmt's source: count such statements apart). THE CARD IS WHAT COUNTS. Prove the row's statement (the work); the ties are given (YtgpjodcopajlkaaDoorTie.lean); close each card by the builder's one call (the guide's Derived/Test/ToyasCard.lean, 'card_holds'). Laid BY PROGRAM, IN A SANDBOX (cutbox-door.mjs). By AI agents, Wed Nov 11 2026. No macro, syntax, notation, axiom, sorry.
-/
import Derived.Test.YtgpjodcopajlkaaDoorRows
import GoSem.ClaimSeven
namespace Go.Proofs.YtgpjodcopajlkaaDoor
namespace Rows

/-- THE TIED CARD OF 'laws.FnValText'. -/
def fnValTextCard : Claim7 := { stood := { row := fnValTextRow, standIns := [], harness := (true, "3283d458b932a3efe594c39025808efbf158e441133865c2fd9a9c6ddfa4c2af"), looks := true }, kinds := [], alts := [], laidByText := true, laidKinds := [.data, .data, .data, .sentinel, .sentinel], laidTests := true, laidLooks := .later }
def FnValTextCardSaid : Prop := Claim7.holds Tryd.pinned (.plain (OpenSpec.ofChange fnValTextSpec)) fnValTextCard

/-- THE TIED CARD OF 'laws.FnExactValRead'. -/
def fnExactValReadCard : Claim7 := { stood := { row := fnExactValReadRow, standIns := [], harness := (true, "3283d458b932a3efe594c39025808efbf158e441133865c2fd9a9c6ddfa4c2af"), looks := true }, kinds := [], alts := [], laidByText := true, laidKinds := [.data, .data, .data, .sentinel, .sentinel], laidTests := true, laidLooks := .later }
def FnExactValReadCardSaid : Prop := Claim7.holds Tryd.pinned (.plain (OpenSpec.ofChange fnExactValReadSpec)) fnExactValReadCard

/-- THE TIED CARD OF 'laws.FnVal'. -/
def fnValCard : Claim7 := { stood := { row := fnValRow, standIns := [], harness := (true, "3283d458b932a3efe594c39025808efbf158e441133865c2fd9a9c6ddfa4c2af"), looks := true }, kinds := [], alts := [], laidByText := true, laidKinds := [.data, .data, .data, .sentinel, .sentinel], laidTests := true, laidLooks := .later }
def FnValCardSaid : Prop := Claim7.holds Tryd.pinned (.plain (OpenSpec.ofChange fnValSpec)) fnValCard

/-- THE TIED CARD OF 'laws.FnPathText'. -/
def fnPathTextCard : Claim7 := { stood := { row := fnPathTextRow, standIns := [], harness := (true, "3283d458b932a3efe594c39025808efbf158e441133865c2fd9a9c6ddfa4c2af"), looks := true }, kinds := [], alts := [], laidByText := true, laidKinds := [.data, .data, .data, .sentinel, .sentinel], laidTests := true, laidLooks := .later }
def FnPathTextCardSaid : Prop := Claim7.holds Tryd.pinned (.plain (OpenSpec.ofChange fnPathTextSpec)) fnPathTextCard

/-- THE SECOND FORM's CARD OF 'laws.FnValText'. -/
def fnValTextUptoCard : Claim7 := { stood := { row := fnValTextUptoRow, standIns := [], harness := (true, "3283d458b932a3efe594c39025808efbf158e441133865c2fd9a9c6ddfa4c2af"), looks := true }, kinds := [], alts := [], laidByText := true, laidKinds := [.data, .data, .data, .sentinel, .sentinel], laidTests := true, laidLooks := .later }
def FnValTextUptoCardSaid : Prop := Claim7.holds Tryd.pinned (.plain (OpenSpec.upto fnValTextSpec)) fnValTextUptoCard

/-- THE SECOND FORM's CARD OF 'laws.FnExactValRead'. -/
def fnExactValReadUptoCard : Claim7 := { stood := { row := fnExactValReadUptoRow, standIns := [], harness := (true, "3283d458b932a3efe594c39025808efbf158e441133865c2fd9a9c6ddfa4c2af"), looks := true }, kinds := [], alts := [], laidByText := true, laidKinds := [.data, .data, .data, .sentinel, .sentinel], laidTests := true, laidLooks := .later }
def FnExactValReadUptoCardSaid : Prop := Claim7.holds Tryd.pinned (.plain (OpenSpec.upto fnExactValReadSpec)) fnExactValReadUptoCard

/-- THE SECOND FORM's CARD OF 'laws.FnVal'. -/
def fnValUptoCard : Claim7 := { stood := { row := fnValUptoRow, standIns := [], harness := (true, "3283d458b932a3efe594c39025808efbf158e441133865c2fd9a9c6ddfa4c2af"), looks := true }, kinds := [], alts := [], laidByText := true, laidKinds := [.data, .data, .data, .sentinel, .sentinel], laidTests := true, laidLooks := .later }
def FnValUptoCardSaid : Prop := Claim7.holds Tryd.pinned (.plain (OpenSpec.upto fnValSpec)) fnValUptoCard

/-- THE SECOND FORM's CARD OF 'laws.FnPathText'. -/
def fnPathTextUptoCard : Claim7 := { stood := { row := fnPathTextUptoRow, standIns := [], harness := (true, "3283d458b932a3efe594c39025808efbf158e441133865c2fd9a9c6ddfa4c2af"), looks := true }, kinds := [], alts := [], laidByText := true, laidKinds := [.data, .data, .data, .sentinel, .sentinel], laidTests := true, laidLooks := .later }
def FnPathTextUptoCardSaid : Prop := Claim7.holds Tryd.pinned (.plain (OpenSpec.upto fnPathTextSpec)) fnPathTextUptoCard
end Rows
end Go.Proofs.YtgpjodcopajlkaaDoor
