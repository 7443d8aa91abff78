/-
  DERIVED. GIVEN WITH THE SEED: THE CARDS: each row of YtcligmgalcidpaaGreatDoorRows.lean that lists a variable, with what it lists TIED to the program's text (the seventh form; the later family's looks); each row that meets fmt, with fmt's text TOLD by the authors' own Lean function (tested against real Go, not proved from fmt's source: count such statements apart). THE CARD IS WHAT COUNTS. Prove the row's statement (the work); the ties are given (YtcligmgalcidpaaGreatDoorTie.lean); close each card by the builder's one call (the guide's Derived/Test/ToyasCard.lean, 'card_holds'). Laid BY PROGRAM, IN A SANDBOX (cutbox-door.mjs). By AI agents, Wed Nov 11 2026. No macro, syntax, notation, axiom, sorry.
-/
import Derived.Test.YtcligmgalcidpaaGreatDoorRows
import GoSem.ClaimSeven
namespace Go.Proofs.YtcligmgalcidpaaGreatDoor
namespace Rows

/-- THE TIED CARD OF 'laws.FnFiltText'. -/
def fnFiltTextCard : Claim7 := { stood := { row := fnFiltTextRow, standIns := [], harness := (true, "b4a27e1c6a872458eeae6176c4c27f0bd0eda4621ba6680434ab896335a760da"), looks := true }, kinds := [], alts := [], laidByText := true, laidKinds := [.data, .data, .data, .data, .sentinel, .sentinel, .widerDeep, .data, .pinned], laidTests := true, laidLooks := .later }
def FnFiltTextCardSaid : Prop := Claim7.holds Tryz.pinned (.plain (OpenSpec.ofChange fnFiltTextSpec)) fnFiltTextCard

/-- THE TIED CARD OF 'laws.FnExactFiltRead'. -/
def fnExactFiltReadCard : Claim7 := { stood := { row := fnExactFiltReadRow, standIns := [], harness := (true, "b4a27e1c6a872458eeae6176c4c27f0bd0eda4621ba6680434ab896335a760da"), looks := true }, kinds := [], alts := [], laidByText := true, laidKinds := [.data, .data, .data, .data, .sentinel, .sentinel, .widerDeep, .data, .pinned], laidTests := true, laidLooks := .later }
def FnExactFiltReadCardSaid : Prop := Claim7.holds Tryz.pinned (.plain (OpenSpec.ofChange fnExactFiltReadSpec)) fnExactFiltReadCard

/-- THE TIED CARD OF 'laws.FnFilt'. -/
def fnFiltCard : Claim7 := { stood := { row := fnFiltRow, standIns := [], harness := (true, "b4a27e1c6a872458eeae6176c4c27f0bd0eda4621ba6680434ab896335a760da"), looks := true }, kinds := [], alts := [], laidByText := true, laidKinds := [.data, .data, .data, .data, .sentinel, .sentinel, .widerDeep, .data, .pinned], laidTests := true, laidLooks := .later }
def FnFiltCardSaid : Prop := Claim7.holds Tryz.pinned (.plain (OpenSpec.ofChange fnFiltSpec)) fnFiltCard

/-- THE SECOND FORM's CARD OF 'laws.FnFiltText'. -/
def fnFiltTextUptoCard : Claim7 := { stood := { row := fnFiltTextUptoRow, standIns := [], harness := (true, "b4a27e1c6a872458eeae6176c4c27f0bd0eda4621ba6680434ab896335a760da"), looks := true }, kinds := [], alts := [], laidByText := true, laidKinds := [.data, .data, .data, .data, .sentinel, .sentinel, .widerDeep, .data, .pinned], laidTests := true, laidLooks := .later }
def FnFiltTextUptoCardSaid : Prop := Claim7.holds Tryz.pinned (.plain (OpenSpec.upto fnFiltTextSpec)) fnFiltTextUptoCard

/-- THE SECOND FORM's CARD OF 'laws.FnExactFiltRead'. -/
def fnExactFiltReadUptoCard : Claim7 := { stood := { row := fnExactFiltReadUptoRow, standIns := [], harness := (true, "b4a27e1c6a872458eeae6176c4c27f0bd0eda4621ba6680434ab896335a760da"), looks := true }, kinds := [], alts := [], laidByText := true, laidKinds := [.data, .data, .data, .data, .sentinel, .sentinel, .widerDeep, .data, .pinned], laidTests := true, laidLooks := .later }
def FnExactFiltReadUptoCardSaid : Prop := Claim7.holds Tryz.pinned (.plain (OpenSpec.upto fnExactFiltReadSpec)) fnExactFiltReadUptoCard

/-- THE SECOND FORM's CARD OF 'laws.FnFilt'. -/
def fnFiltUptoCard : Claim7 := { stood := { row := fnFiltUptoRow, standIns := [], harness := (true, "b4a27e1c6a872458eeae6176c4c27f0bd0eda4621ba6680434ab896335a760da"), looks := true }, kinds := [], alts := [], laidByText := true, laidKinds := [.data, .data, .data, .data, .sentinel, .sentinel, .widerDeep, .data, .pinned], laidTests := true, laidLooks := .later }
def FnFiltUptoCardSaid : Prop := Claim7.holds Tryz.pinned (.plain (OpenSpec.upto fnFiltSpec)) fnFiltUptoCard
end Rows
end Go.Proofs.YtcligmgalcidpaaGreatDoor
