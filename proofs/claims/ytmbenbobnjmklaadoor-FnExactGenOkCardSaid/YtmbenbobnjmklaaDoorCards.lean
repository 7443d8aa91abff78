/-
  DERIVED. GIVEN WITH THE SEED: THE CARDS: each row of YtmbenbobnjmklaaDoorRows.lean that lists a variable, with what it lists TIED to the program's text (the seventh form; the later family's looks); each row that meets fmt, with fmt's text TOLD by the authors' own Lean function (tested against real Go, not proved from fmt's source: count such statements apart). THE CARD IS WHAT COUNTS. Prove the row's statement (the work); the ties are given (YtmbenbobnjmklaaDoorTie.lean); close each card by the builder's one call (the guide's Derived/Test/ToyasCard.lean, 'card_holds'). Laid BY PROGRAM, IN A SANDBOX (cutbox-door.mjs). By AI agents, Wed Nov 11 2026. No macro, syntax, notation, axiom, sorry.
-/
import Derived.Test.YtmbenbobnjmklaaDoorRows
import GoSem.ClaimSeven
namespace Go.Proofs.YtmbenbobnjmklaaDoor
namespace Rows

/-- THE TIED CARD OF 'laws.FnExactGenOk'. -/
def fnExactGenOkCard : Claim7 := { stood := { row := fnExactGenOkRow, standIns := [], harness := (true, "15ba851fb1bea6f070e56b07ca655b76066f837628a290355d7ef60ffd7c095c"), looks := true }, kinds := [], alts := [], laidByText := true, laidKinds := [.data], laidTests := true, laidLooks := .later }
def FnExactGenOkCardSaid : Prop := Claim7.holds Tryd.pinned (.plain (OpenSpec.ofChange fnExactGenOkSpec)) fnExactGenOkCard

/-- THE TIED CARD OF 'laws.FnExactGenOpen'. -/
def fnExactGenOpenCard : Claim7 := { stood := { row := fnExactGenOpenRow, standIns := [], harness := (true, "15ba851fb1bea6f070e56b07ca655b76066f837628a290355d7ef60ffd7c095c"), looks := true }, kinds := [], alts := [], laidByText := true, laidKinds := [.data], laidTests := true, laidLooks := .later }
def FnExactGenOpenCardSaid : Prop := Claim7.holds Tryd.pinned (.plain (OpenSpec.ofChange fnExactGenOpenSpec)) fnExactGenOpenCard

/-- THE TIED CARD OF 'laws.FnFiltBent'. -/
def fnFiltBentCard : Claim7 := { stood := { row := fnFiltBentRow, standIns := [], harness := (true, "15ba851fb1bea6f070e56b07ca655b76066f837628a290355d7ef60ffd7c095c"), looks := true }, kinds := [], alts := [], laidByText := true, laidKinds := [.data, .data, .data, .widerDeep, .data], laidTests := true, laidLooks := .later }
def FnFiltBentCardSaid : Prop := Claim7.holds Tryd.pinned (.plain (OpenSpec.ofChange fnFiltBentSpec)) fnFiltBentCard

/-- THE TIED CARD OF 'laws.FnFiltMany'. -/
def fnFiltManyCard : Claim7 := { stood := { row := fnFiltManyRow, standIns := [], harness := (true, "15ba851fb1bea6f070e56b07ca655b76066f837628a290355d7ef60ffd7c095c"), looks := true }, kinds := [], alts := [], laidByText := true, laidKinds := [.data, .data, .data, .widerDeep, .data], laidTests := true, laidLooks := .later }
def FnFiltManyCardSaid : Prop := Claim7.holds Tryd.pinned (.plain (OpenSpec.ofChange fnFiltManySpec)) fnFiltManyCard

/-- THE TIED CARD OF 'laws.FnExactEditText'. -/
def fnExactEditTextCard : Claim7 := { stood := { row := fnExactEditTextRow, standIns := [], harness := (true, "15ba851fb1bea6f070e56b07ca655b76066f837628a290355d7ef60ffd7c095c"), looks := true }, kinds := [], alts := [], laidByText := true, laidKinds := [.data, .data, .data], laidTests := true, laidLooks := .later }
def FnExactEditTextCardSaid : Prop := Claim7.holds Tryd.pinned (.plain (OpenSpec.ofChange fnExactEditTextSpec)) fnExactEditTextCard

/-- THE TIED CARD OF 'laws.FnPathAll'. -/
def fnPathAllCard : Claim7 := { stood := { row := fnPathAllRow, standIns := [], harness := (true, "15ba851fb1bea6f070e56b07ca655b76066f837628a290355d7ef60ffd7c095c"), looks := true }, kinds := [], alts := [], laidByText := true, laidKinds := [.data, .data, .data], laidTests := true, laidLooks := .later }
def FnPathAllCardSaid : Prop := Claim7.holds Tryd.pinned (.plain (OpenSpec.ofChange fnPathAllSpec)) fnPathAllCard

/-- THE TIED CARD OF 'laws.FnExactFiltText'. -/
def fnExactFiltTextCard : Claim7 := { stood := { row := fnExactFiltTextRow, standIns := [], harness := (true, "15ba851fb1bea6f070e56b07ca655b76066f837628a290355d7ef60ffd7c095c"), looks := true }, kinds := [], alts := [], laidByText := true, laidKinds := [.data, .data, .data, .widerDeep, .data], laidTests := true, laidLooks := .later }
def FnExactFiltTextCardSaid : Prop := Claim7.holds Tryd.pinned (.plain (OpenSpec.ofChange fnExactFiltTextSpec)) fnExactFiltTextCard

/-- THE TIED CARD OF 'laws.FnValText'. -/
def fnValTextCard : Claim7 := { stood := { row := fnValTextRow, standIns := [], harness := (true, "15ba851fb1bea6f070e56b07ca655b76066f837628a290355d7ef60ffd7c095c"), looks := true }, kinds := [], alts := [], laidByText := true, laidKinds := [.data, .data, .data, .sentinel, .sentinel], laidTests := true, laidLooks := .later }
def FnValTextCardSaid : Prop := Claim7.holds Tryd.pinned (.plain (OpenSpec.ofChange fnValTextSpec)) fnValTextCard

/-- THE TIED CARD OF 'laws.FnExactValRead'. -/
def fnExactValReadCard : Claim7 := { stood := { row := fnExactValReadRow, standIns := [], harness := (true, "15ba851fb1bea6f070e56b07ca655b76066f837628a290355d7ef60ffd7c095c"), looks := true }, kinds := [], alts := [], laidByText := true, laidKinds := [.data, .data, .data, .sentinel, .sentinel], laidTests := true, laidLooks := .later }
def FnExactValReadCardSaid : Prop := Claim7.holds Tryd.pinned (.plain (OpenSpec.ofChange fnExactValReadSpec)) fnExactValReadCard

/-- THE TIED CARD OF 'laws.FnVal'. -/
def fnValCard : Claim7 := { stood := { row := fnValRow, standIns := [], harness := (true, "15ba851fb1bea6f070e56b07ca655b76066f837628a290355d7ef60ffd7c095c"), looks := true }, kinds := [], alts := [], laidByText := true, laidKinds := [.data, .data, .data, .sentinel, .sentinel], laidTests := true, laidLooks := .later }
def FnValCardSaid : Prop := Claim7.holds Tryd.pinned (.plain (OpenSpec.ofChange fnValSpec)) fnValCard

/-- THE TIED CARD OF 'laws.FnPathText'. -/
def fnPathTextCard : Claim7 := { stood := { row := fnPathTextRow, standIns := [], harness := (true, "15ba851fb1bea6f070e56b07ca655b76066f837628a290355d7ef60ffd7c095c"), looks := true }, kinds := [], alts := [], laidByText := true, laidKinds := [.data, .data, .data, .sentinel, .sentinel], laidTests := true, laidLooks := .later }
def FnPathTextCardSaid : Prop := Claim7.holds Tryd.pinned (.plain (OpenSpec.ofChange fnPathTextSpec)) fnPathTextCard

/-- THE SECOND FORM's CARD OF 'laws.FnExactGenOk'. -/
def fnExactGenOkUptoCard : Claim7 := { stood := { row := fnExactGenOkUptoRow, standIns := [], harness := (true, "15ba851fb1bea6f070e56b07ca655b76066f837628a290355d7ef60ffd7c095c"), looks := true }, kinds := [], alts := [], laidByText := true, laidKinds := [.data], laidTests := true, laidLooks := .later }
def FnExactGenOkUptoCardSaid : Prop := Claim7.holds Tryd.pinned (.plain (OpenSpec.upto fnExactGenOkSpec)) fnExactGenOkUptoCard

/-- THE SECOND FORM's CARD OF 'laws.FnExactGenOpen'. -/
def fnExactGenOpenUptoCard : Claim7 := { stood := { row := fnExactGenOpenUptoRow, standIns := [], harness := (true, "15ba851fb1bea6f070e56b07ca655b76066f837628a290355d7ef60ffd7c095c"), looks := true }, kinds := [], alts := [], laidByText := true, laidKinds := [.data], laidTests := true, laidLooks := .later }
def FnExactGenOpenUptoCardSaid : Prop := Claim7.holds Tryd.pinned (.plain (OpenSpec.upto fnExactGenOpenSpec)) fnExactGenOpenUptoCard

/-- THE SECOND FORM's CARD OF 'laws.FnFiltBent'. -/
def fnFiltBentUptoCard : Claim7 := { stood := { row := fnFiltBentUptoRow, standIns := [], harness := (true, "15ba851fb1bea6f070e56b07ca655b76066f837628a290355d7ef60ffd7c095c"), looks := true }, kinds := [], alts := [], laidByText := true, laidKinds := [.data, .data, .data, .widerDeep, .data], laidTests := true, laidLooks := .later }
def FnFiltBentUptoCardSaid : Prop := Claim7.holds Tryd.pinned (.plain (OpenSpec.upto fnFiltBentSpec)) fnFiltBentUptoCard

/-- THE SECOND FORM's CARD OF 'laws.FnFiltMany'. -/
def fnFiltManyUptoCard : Claim7 := { stood := { row := fnFiltManyUptoRow, standIns := [], harness := (true, "15ba851fb1bea6f070e56b07ca655b76066f837628a290355d7ef60ffd7c095c"), looks := true }, kinds := [], alts := [], laidByText := true, laidKinds := [.data, .data, .data, .widerDeep, .data], laidTests := true, laidLooks := .later }
def FnFiltManyUptoCardSaid : Prop := Claim7.holds Tryd.pinned (.plain (OpenSpec.upto fnFiltManySpec)) fnFiltManyUptoCard

/-- THE SECOND FORM's CARD OF 'laws.FnExactEditText'. -/
def fnExactEditTextUptoCard : Claim7 := { stood := { row := fnExactEditTextUptoRow, standIns := [], harness := (true, "15ba851fb1bea6f070e56b07ca655b76066f837628a290355d7ef60ffd7c095c"), looks := true }, kinds := [], alts := [], laidByText := true, laidKinds := [.data, .data, .data], laidTests := true, laidLooks := .later }
def FnExactEditTextUptoCardSaid : Prop := Claim7.holds Tryd.pinned (.plain (OpenSpec.upto fnExactEditTextSpec)) fnExactEditTextUptoCard

/-- THE SECOND FORM's CARD OF 'laws.FnPathAll'. -/
def fnPathAllUptoCard : Claim7 := { stood := { row := fnPathAllUptoRow, standIns := [], harness := (true, "15ba851fb1bea6f070e56b07ca655b76066f837628a290355d7ef60ffd7c095c"), looks := true }, kinds := [], alts := [], laidByText := true, laidKinds := [.data, .data, .data], laidTests := true, laidLooks := .later }
def FnPathAllUptoCardSaid : Prop := Claim7.holds Tryd.pinned (.plain (OpenSpec.upto fnPathAllSpec)) fnPathAllUptoCard

/-- THE SECOND FORM's CARD OF 'laws.FnExactFiltText'. -/
def fnExactFiltTextUptoCard : Claim7 := { stood := { row := fnExactFiltTextUptoRow, standIns := [], harness := (true, "15ba851fb1bea6f070e56b07ca655b76066f837628a290355d7ef60ffd7c095c"), looks := true }, kinds := [], alts := [], laidByText := true, laidKinds := [.data, .data, .data, .widerDeep, .data], laidTests := true, laidLooks := .later }
def FnExactFiltTextUptoCardSaid : Prop := Claim7.holds Tryd.pinned (.plain (OpenSpec.upto fnExactFiltTextSpec)) fnExactFiltTextUptoCard

/-- THE SECOND FORM's CARD OF 'laws.FnValText'. -/
def fnValTextUptoCard : Claim7 := { stood := { row := fnValTextUptoRow, standIns := [], harness := (true, "15ba851fb1bea6f070e56b07ca655b76066f837628a290355d7ef60ffd7c095c"), looks := true }, kinds := [], alts := [], laidByText := true, laidKinds := [.data, .data, .data, .sentinel, .sentinel], laidTests := true, laidLooks := .later }
def FnValTextUptoCardSaid : Prop := Claim7.holds Tryd.pinned (.plain (OpenSpec.upto fnValTextSpec)) fnValTextUptoCard

/-- THE SECOND FORM's CARD OF 'laws.FnExactValRead'. -/
def fnExactValReadUptoCard : Claim7 := { stood := { row := fnExactValReadUptoRow, standIns := [], harness := (true, "15ba851fb1bea6f070e56b07ca655b76066f837628a290355d7ef60ffd7c095c"), looks := true }, kinds := [], alts := [], laidByText := true, laidKinds := [.data, .data, .data, .sentinel, .sentinel], laidTests := true, laidLooks := .later }
def FnExactValReadUptoCardSaid : Prop := Claim7.holds Tryd.pinned (.plain (OpenSpec.upto fnExactValReadSpec)) fnExactValReadUptoCard

/-- THE SECOND FORM's CARD OF 'laws.FnVal'. -/
def fnValUptoCard : Claim7 := { stood := { row := fnValUptoRow, standIns := [], harness := (true, "15ba851fb1bea6f070e56b07ca655b76066f837628a290355d7ef60ffd7c095c"), looks := true }, kinds := [], alts := [], laidByText := true, laidKinds := [.data, .data, .data, .sentinel, .sentinel], laidTests := true, laidLooks := .later }
def FnValUptoCardSaid : Prop := Claim7.holds Tryd.pinned (.plain (OpenSpec.upto fnValSpec)) fnValUptoCard

/-- THE SECOND FORM's CARD OF 'laws.FnPathText'. -/
def fnPathTextUptoCard : Claim7 := { stood := { row := fnPathTextUptoRow, standIns := [], harness := (true, "15ba851fb1bea6f070e56b07ca655b76066f837628a290355d7ef60ffd7c095c"), looks := true }, kinds := [], alts := [], laidByText := true, laidKinds := [.data, .data, .data, .sentinel, .sentinel], laidTests := true, laidLooks := .later }
def FnPathTextUptoCardSaid : Prop := Claim7.holds Tryd.pinned (.plain (OpenSpec.upto fnPathTextSpec)) fnPathTextUptoCard
end Rows
end Go.Proofs.YtmbenbobnjmklaaDoor
