/-
  DERIVED. GIVEN WITH THE SEED: THE CARDS: each row of YtalnancndjgmgaaGreatDoorRows.lean that lists a variable, with what it lists TIED to the program's text (the seventh form; the later family's looks); each row that meets fmt, with fmt's text TOLD by the authors' own Lean function (tested against real Go, not proved from fmt's source: count such statements apart). THE CARD IS WHAT COUNTS. Prove the row's statement (the work); the ties are given (YtalnancndjgmgaaGreatDoorTie.lean); close each card by the builder's one call (the guide's Derived/Test/ToyasCard.lean, 'card_holds'). Laid BY PROGRAM, IN A SANDBOX (cutbox-door.mjs). By AI agents, Wed Nov 11 2026. No macro, syntax, notation, axiom, sorry.
-/
import Derived.Test.YtalnancndjgmgaaGreatDoorRows
import GoSem.ClaimSeven
namespace Go.Proofs.YtalnancndjgmgaaGreatDoor
namespace Rows

/-- THE TIED CARD OF 'billhooklaw07.EvalPlays'. -/
def evalPlaysCard : Claim7 := { stood := { row := evalPlaysRow, standIns := [], harness := (true, "f069079739190d365eca81e9e46f6564d0c691d12941afc79cbcc1188486c19f"), looks := true }, kinds := [], alts := [], laidByText := true, laidKinds := [.data, .data, .data, .sentinel, .sentinel], laidTests := true, laidLooks := .later }
def EvalPlaysCardSaid : Prop := Claim7.holds Tryz.pinned (.plain (OpenSpec.ofChange evalPlaysSpec)) evalPlaysCard

/-- THE TIED CARD OF 'billhooklaw07.EvalApart'. -/
def evalApartCard : Claim7 := { stood := { row := evalApartRow, standIns := [], harness := (true, "f069079739190d365eca81e9e46f6564d0c691d12941afc79cbcc1188486c19f"), looks := true }, kinds := [], alts := [], laidByText := true, laidKinds := [.data, .data, .data, .sentinel, .sentinel], laidTests := true, laidLooks := .later }
def EvalApartCardSaid : Prop := Claim7.holds Tryz.pinned (.plain (OpenSpec.ofChange evalApartSpec)) evalApartCard

/-- THE TIED CARD OF 'billhooklaw07.EvalParts'. -/
def evalPartsCard : Claim7 := { stood := { row := evalPartsRow, standIns := [], harness := (true, "f069079739190d365eca81e9e46f6564d0c691d12941afc79cbcc1188486c19f"), looks := true }, kinds := [], alts := [], laidByText := true, laidKinds := [.data, .data, .data, .sentinel, .sentinel], laidTests := true, laidLooks := .later }
def EvalPartsCardSaid : Prop := Claim7.holds Tryz.pinned (.plain (OpenSpec.ofChange evalPartsSpec)) evalPartsCard

/-- THE TIED CARD OF 'billhooklaw07.EvalNames'. -/
def evalNamesCard : Claim7 := { stood := { row := evalNamesRow, standIns := [], harness := (true, "f069079739190d365eca81e9e46f6564d0c691d12941afc79cbcc1188486c19f"), looks := true }, kinds := [], alts := [], laidByText := true, laidKinds := [.data, .data, .data, .sentinel, .sentinel], laidTests := true, laidLooks := .later }
def EvalNamesCardSaid : Prop := Claim7.holds Tryz.pinned (.plain (OpenSpec.ofChange evalNamesSpec)) evalNamesCard

/-- THE TIED CARD OF 'billhooklaw07.EvalSigns'. -/
def evalSignsCard : Claim7 := { stood := { row := evalSignsRow, standIns := [], harness := (true, "f069079739190d365eca81e9e46f6564d0c691d12941afc79cbcc1188486c19f"), looks := true }, kinds := [], alts := [], laidByText := true, laidKinds := [.data, .data, .data, .sentinel, .sentinel], laidTests := true, laidLooks := .later }
def EvalSignsCardSaid : Prop := Claim7.holds Tryz.pinned (.plain (OpenSpec.ofChange evalSignsSpec)) evalSignsCard

/-- THE TIED CARD OF 'billhooklaw07.EvalPuts'. -/
def evalPutsCard : Claim7 := { stood := { row := evalPutsRow, standIns := [], harness := (true, "f069079739190d365eca81e9e46f6564d0c691d12941afc79cbcc1188486c19f"), looks := true }, kinds := [], alts := [], laidByText := true, laidKinds := [.data, .data, .data, .sentinel, .sentinel], laidTests := true, laidLooks := .later }
def EvalPutsCardSaid : Prop := Claim7.holds Tryz.pinned (.plain (OpenSpec.ofChange evalPutsSpec)) evalPutsCard

/-- THE SECOND FORM's CARD OF 'billhooklaw07.EvalPlays'. -/
def evalPlaysUptoCard : Claim7 := { stood := { row := evalPlaysUptoRow, standIns := [], harness := (true, "f069079739190d365eca81e9e46f6564d0c691d12941afc79cbcc1188486c19f"), looks := true }, kinds := [], alts := [], laidByText := true, laidKinds := [.data, .data, .data, .sentinel, .sentinel], laidTests := true, laidLooks := .later }
def EvalPlaysUptoCardSaid : Prop := Claim7.holds Tryz.pinned (.plain (OpenSpec.upto evalPlaysSpec)) evalPlaysUptoCard

/-- THE SECOND FORM's CARD OF 'billhooklaw07.EvalApart'. -/
def evalApartUptoCard : Claim7 := { stood := { row := evalApartUptoRow, standIns := [], harness := (true, "f069079739190d365eca81e9e46f6564d0c691d12941afc79cbcc1188486c19f"), looks := true }, kinds := [], alts := [], laidByText := true, laidKinds := [.data, .data, .data, .sentinel, .sentinel], laidTests := true, laidLooks := .later }
def EvalApartUptoCardSaid : Prop := Claim7.holds Tryz.pinned (.plain (OpenSpec.upto evalApartSpec)) evalApartUptoCard

/-- THE SECOND FORM's CARD OF 'billhooklaw07.EvalParts'. -/
def evalPartsUptoCard : Claim7 := { stood := { row := evalPartsUptoRow, standIns := [], harness := (true, "f069079739190d365eca81e9e46f6564d0c691d12941afc79cbcc1188486c19f"), looks := true }, kinds := [], alts := [], laidByText := true, laidKinds := [.data, .data, .data, .sentinel, .sentinel], laidTests := true, laidLooks := .later }
def EvalPartsUptoCardSaid : Prop := Claim7.holds Tryz.pinned (.plain (OpenSpec.upto evalPartsSpec)) evalPartsUptoCard

/-- THE SECOND FORM's CARD OF 'billhooklaw07.EvalNames'. -/
def evalNamesUptoCard : Claim7 := { stood := { row := evalNamesUptoRow, standIns := [], harness := (true, "f069079739190d365eca81e9e46f6564d0c691d12941afc79cbcc1188486c19f"), looks := true }, kinds := [], alts := [], laidByText := true, laidKinds := [.data, .data, .data, .sentinel, .sentinel], laidTests := true, laidLooks := .later }
def EvalNamesUptoCardSaid : Prop := Claim7.holds Tryz.pinned (.plain (OpenSpec.upto evalNamesSpec)) evalNamesUptoCard

/-- THE SECOND FORM's CARD OF 'billhooklaw07.EvalSigns'. -/
def evalSignsUptoCard : Claim7 := { stood := { row := evalSignsUptoRow, standIns := [], harness := (true, "f069079739190d365eca81e9e46f6564d0c691d12941afc79cbcc1188486c19f"), looks := true }, kinds := [], alts := [], laidByText := true, laidKinds := [.data, .data, .data, .sentinel, .sentinel], laidTests := true, laidLooks := .later }
def EvalSignsUptoCardSaid : Prop := Claim7.holds Tryz.pinned (.plain (OpenSpec.upto evalSignsSpec)) evalSignsUptoCard

/-- THE SECOND FORM's CARD OF 'billhooklaw07.EvalPuts'. -/
def evalPutsUptoCard : Claim7 := { stood := { row := evalPutsUptoRow, standIns := [], harness := (true, "f069079739190d365eca81e9e46f6564d0c691d12941afc79cbcc1188486c19f"), looks := true }, kinds := [], alts := [], laidByText := true, laidKinds := [.data, .data, .data, .sentinel, .sentinel], laidTests := true, laidLooks := .later }
def EvalPutsUptoCardSaid : Prop := Claim7.holds Tryz.pinned (.plain (OpenSpec.upto evalPutsSpec)) evalPutsUptoCard
end Rows
end Go.Proofs.YtalnancndjgmgaaGreatDoor
