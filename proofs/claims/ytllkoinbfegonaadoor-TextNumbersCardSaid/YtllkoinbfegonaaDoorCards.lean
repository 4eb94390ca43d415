/-
  DERIVED. GIVEN WITH THE SEED: THE CARDS: each row of YtllkoinbfegonaaDoorRows.lean that lists a variable, with what it lists TIED to the program's text (the seventh form; the later family's looks); each row that meets fmt, with fmt's text TOLD by the authors' own Lean function (tested against real Go, not proved from fmt's source: count such statements apart). THE CARD IS WHAT COUNTS. Prove the row's statement (the work); the ties are given (YtllkoinbfegonaaDoorTie.lean); close each card by the builder's one call (the guide's Derived/Test/ToyasCard.lean, 'card_holds'). Laid BY PROGRAM, IN A SANDBOX (cutbox-door.mjs). By AI agents, Wed Nov 11 2026. No macro, syntax, notation, axiom, sorry.
-/
import Derived.Test.YtllkoinbfegonaaDoorRows
import GoSem.ClaimSeven
namespace Go.Proofs.YtllkoinbfegonaaDoor
namespace Rows

/-- THE TIED CARD OF 'filigreelaw03.FaultTexts'. -/
def faultTextsCard : Claim7 := { stood := { row := faultTextsRow, standIns := [], harness := (true, "2e2e24b066c27f7e182b6baece79fcc8a330c8a512fadc7dc3c73c7d8904954d"), looks := true }, kinds := [], alts := [], laidByText := true, laidKinds := [.data, .data, .data, .handle], laidTests := true, laidLooks := .later }
def FaultTextsCardSaid : Prop := Claim7.holds Tryd.pinned (.plain (OpenSpec.ofChange faultTextsSpec)) faultTextsCard

/-- THE TIED CARD OF 'filigreelaw03.FaultKinds'. -/
def faultKindsCard : Claim7 := { stood := { row := faultKindsRow, standIns := [], harness := (true, "2e2e24b066c27f7e182b6baece79fcc8a330c8a512fadc7dc3c73c7d8904954d"), looks := true }, kinds := [], alts := [], laidByText := true, laidKinds := [.data, .data, .data, .handle], laidTests := true, laidLooks := .later }
def FaultKindsCardSaid : Prop := Claim7.holds Tryd.pinned (.plain (OpenSpec.ofChange faultKindsSpec)) faultKindsCard

/-- THE TIED CARD OF 'filigreelaw03.FaultNils'. -/
def faultNilsCard : Claim7 := { stood := { row := faultNilsRow, standIns := [], harness := (true, "2e2e24b066c27f7e182b6baece79fcc8a330c8a512fadc7dc3c73c7d8904954d"), looks := true }, kinds := [], alts := [], laidByText := true, laidKinds := [.data, .data, .data, .handle], laidTests := true, laidLooks := .later }
def FaultNilsCardSaid : Prop := Claim7.holds Tryd.pinned (.plain (OpenSpec.ofChange faultNilsSpec)) faultNilsCard

/-- THE TIED CARD OF 'filigreelaw05.TextNumbers'. -/
def textNumbersCard : Claim7 := { stood := { row := textNumbersRow, standIns := [], harness := (true, "2e2e24b066c27f7e182b6baece79fcc8a330c8a512fadc7dc3c73c7d8904954d"), looks := true }, kinds := [], alts := [], laidByText := true, laidKinds := [.data, .handle, .pinned], laidTests := true, laidLooks := .later }
def TextNumbersCardSaid : Prop := Claim7.holds Tryd.pinned (.plain (OpenSpec.ofChange textNumbersSpec)) textNumbersCard

/-- THE TIED CARD OF 'filigreelaw05.TextOrder'. -/
def textOrderCard : Claim7 := { stood := { row := textOrderRow, standIns := [], harness := (true, "2e2e24b066c27f7e182b6baece79fcc8a330c8a512fadc7dc3c73c7d8904954d"), looks := true }, kinds := [], alts := [], laidByText := true, laidKinds := [.data, .handle, .pinned], laidTests := true, laidLooks := .later }
def TextOrderCardSaid : Prop := Claim7.holds Tryd.pinned (.plain (OpenSpec.ofChange textOrderSpec)) textOrderCard

/-- THE SECOND FORM's CARD OF 'filigreelaw03.FaultTexts'. -/
def faultTextsUptoCard : Claim7 := { stood := { row := faultTextsUptoRow, standIns := [], harness := (true, "2e2e24b066c27f7e182b6baece79fcc8a330c8a512fadc7dc3c73c7d8904954d"), looks := true }, kinds := [], alts := [], laidByText := true, laidKinds := [.data, .data, .data, .handle], laidTests := true, laidLooks := .later }
def FaultTextsUptoCardSaid : Prop := Claim7.holds Tryd.pinned (.plain (OpenSpec.upto faultTextsSpec)) faultTextsUptoCard

/-- THE SECOND FORM's CARD OF 'filigreelaw03.FaultKinds'. -/
def faultKindsUptoCard : Claim7 := { stood := { row := faultKindsUptoRow, standIns := [], harness := (true, "2e2e24b066c27f7e182b6baece79fcc8a330c8a512fadc7dc3c73c7d8904954d"), looks := true }, kinds := [], alts := [], laidByText := true, laidKinds := [.data, .data, .data, .handle], laidTests := true, laidLooks := .later }
def FaultKindsUptoCardSaid : Prop := Claim7.holds Tryd.pinned (.plain (OpenSpec.upto faultKindsSpec)) faultKindsUptoCard

/-- THE SECOND FORM's CARD OF 'filigreelaw03.FaultNils'. -/
def faultNilsUptoCard : Claim7 := { stood := { row := faultNilsUptoRow, standIns := [], harness := (true, "2e2e24b066c27f7e182b6baece79fcc8a330c8a512fadc7dc3c73c7d8904954d"), looks := true }, kinds := [], alts := [], laidByText := true, laidKinds := [.data, .data, .data, .handle], laidTests := true, laidLooks := .later }
def FaultNilsUptoCardSaid : Prop := Claim7.holds Tryd.pinned (.plain (OpenSpec.upto faultNilsSpec)) faultNilsUptoCard

/-- THE SECOND FORM's CARD OF 'filigreelaw05.TextNumbers'. -/
def textNumbersUptoCard : Claim7 := { stood := { row := textNumbersUptoRow, standIns := [], harness := (true, "2e2e24b066c27f7e182b6baece79fcc8a330c8a512fadc7dc3c73c7d8904954d"), looks := true }, kinds := [], alts := [], laidByText := true, laidKinds := [.data, .handle, .pinned], laidTests := true, laidLooks := .later }
def TextNumbersUptoCardSaid : Prop := Claim7.holds Tryd.pinned (.plain (OpenSpec.upto textNumbersSpec)) textNumbersUptoCard

/-- THE SECOND FORM's CARD OF 'filigreelaw05.TextOrder'. -/
def textOrderUptoCard : Claim7 := { stood := { row := textOrderUptoRow, standIns := [], harness := (true, "2e2e24b066c27f7e182b6baece79fcc8a330c8a512fadc7dc3c73c7d8904954d"), looks := true }, kinds := [], alts := [], laidByText := true, laidKinds := [.data, .handle, .pinned], laidTests := true, laidLooks := .later }
def TextOrderUptoCardSaid : Prop := Claim7.holds Tryd.pinned (.plain (OpenSpec.upto textOrderSpec)) textOrderUptoCard
end Rows
end Go.Proofs.YtllkoinbfegonaaDoor
