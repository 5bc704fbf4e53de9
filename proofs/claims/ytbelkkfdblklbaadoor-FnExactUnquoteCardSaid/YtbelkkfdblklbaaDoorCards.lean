/-
  DERIVED. GIVEN WITH THE SEED: THE CARDS: each row of YtbelkkfdblklbaaDoorRows.lean that lists a variable, with what it lists TIED to the program's text (the seventh form; the later family's looks); each row that meets fmt, with fmt's text TOLD by the authors' own Lean function (tested against real Go, not proved from fmt's source: count such statements apart). THE CARD IS WHAT COUNTS. Prove the row's statement (the work); the ties are given (YtbelkkfdblklbaaDoorTie.lean); close each card by the builder's one call (the guide's Derived/Test/ToyasCard.lean, 'card_holds'). Laid BY PROGRAM, IN A SANDBOX (cutbox-door.mjs). By AI agents, Wed Nov 11 2026. No macro, syntax, notation, axiom, sorry.
-/
import Derived.Test.YtbelkkfdblklbaaDoorRows
import GoSem.ClaimSeven
namespace Go.Proofs.YtbelkkfdblklbaaDoor
namespace Rows

/-- THE TIED CARD OF 'laws.FnExactUnhex'. -/
def fnExactUnhexCard : Claim7 := { stood := { row := fnExactUnhexRow, standIns := [], harness := (true, "772bf0986990418a7b01d4d4c433225c256835530de0e0fb9cffa627f8653c03"), looks := true }, kinds := [], alts := [], laidByText := true, laidKinds := [.sentinel], laidTests := true, laidLooks := .later }
def FnExactUnhexCardSaid : Prop := Claim7.holds Tryd.pinned (.plain (OpenSpec.ofChange fnExactUnhexSpec)) fnExactUnhexCard

/-- THE TIED CARD OF 'laws.FnExactUnquote'. -/
def fnExactUnquoteCard : Claim7 := { stood := { row := fnExactUnquoteRow, standIns := [], harness := (true, "772bf0986990418a7b01d4d4c433225c256835530de0e0fb9cffa627f8653c03"), looks := true }, kinds := [], alts := [], laidByText := true, laidKinds := [.data, .pinned], laidTests := true, laidLooks := .later }
def FnExactUnquoteCardSaid : Prop := Claim7.holds Tryd.pinned (.plain (OpenSpec.ofChange fnExactUnquoteSpec)) fnExactUnquoteCard

/-- THE TIED CARD OF 'laws.FnExactWord'. -/
def fnExactWordCard : Claim7 := { stood := { row := fnExactWordRow, standIns := [], harness := (true, "772bf0986990418a7b01d4d4c433225c256835530de0e0fb9cffa627f8653c03"), looks := true }, kinds := [], alts := [], laidByText := true, laidKinds := [.data, .pinned], laidTests := true, laidLooks := .later }
def FnExactWordCardSaid : Prop := Claim7.holds Tryd.pinned (.plain (OpenSpec.ofChange fnExactWordSpec)) fnExactWordCard

/-- THE TIED CARD OF 'laws.FnExactNumber'. -/
def fnExactNumberCard : Claim7 := { stood := { row := fnExactNumberRow, standIns := [], harness := (true, "772bf0986990418a7b01d4d4c433225c256835530de0e0fb9cffa627f8653c03"), looks := true }, kinds := [], alts := [], laidByText := true, laidKinds := [.data, .data, .data, .sentinel, .sentinel], laidTests := true, laidLooks := .later }
def FnExactNumberCardSaid : Prop := Claim7.holds Tryd.pinned (.plain (OpenSpec.ofChange fnExactNumberSpec)) fnExactNumberCard

/-- THE TIED CARD OF 'laws.FnExactLiteralAt'. -/
def fnExactLiteralAtCard : Claim7 := { stood := { row := fnExactLiteralAtRow, standIns := [], harness := (true, "772bf0986990418a7b01d4d4c433225c256835530de0e0fb9cffa627f8653c03"), looks := true }, kinds := [], alts := [], laidByText := true, laidKinds := [.data, .data, .data, .sentinel, .sentinel], laidTests := true, laidLooks := .later }
def FnExactLiteralAtCardSaid : Prop := Claim7.holds Tryd.pinned (.plain (OpenSpec.ofChange fnExactLiteralAtSpec)) fnExactLiteralAtCard

/-- THE SECOND FORM's CARD OF 'laws.FnExactUnhex'. -/
def fnExactUnhexUptoCard : Claim7 := { stood := { row := fnExactUnhexUptoRow, standIns := [], harness := (true, "772bf0986990418a7b01d4d4c433225c256835530de0e0fb9cffa627f8653c03"), looks := true }, kinds := [], alts := [], laidByText := true, laidKinds := [.sentinel], laidTests := true, laidLooks := .later }
def FnExactUnhexUptoCardSaid : Prop := Claim7.holds Tryd.pinned (.plain (OpenSpec.upto fnExactUnhexSpec)) fnExactUnhexUptoCard

/-- THE SECOND FORM's CARD OF 'laws.FnExactUnquote'. -/
def fnExactUnquoteUptoCard : Claim7 := { stood := { row := fnExactUnquoteUptoRow, standIns := [], harness := (true, "772bf0986990418a7b01d4d4c433225c256835530de0e0fb9cffa627f8653c03"), looks := true }, kinds := [], alts := [], laidByText := true, laidKinds := [.data, .pinned], laidTests := true, laidLooks := .later }
def FnExactUnquoteUptoCardSaid : Prop := Claim7.holds Tryd.pinned (.plain (OpenSpec.upto fnExactUnquoteSpec)) fnExactUnquoteUptoCard

/-- THE SECOND FORM's CARD OF 'laws.FnExactWord'. -/
def fnExactWordUptoCard : Claim7 := { stood := { row := fnExactWordUptoRow, standIns := [], harness := (true, "772bf0986990418a7b01d4d4c433225c256835530de0e0fb9cffa627f8653c03"), looks := true }, kinds := [], alts := [], laidByText := true, laidKinds := [.data, .pinned], laidTests := true, laidLooks := .later }
def FnExactWordUptoCardSaid : Prop := Claim7.holds Tryd.pinned (.plain (OpenSpec.upto fnExactWordSpec)) fnExactWordUptoCard

/-- THE SECOND FORM's CARD OF 'laws.FnExactNumber'. -/
def fnExactNumberUptoCard : Claim7 := { stood := { row := fnExactNumberUptoRow, standIns := [], harness := (true, "772bf0986990418a7b01d4d4c433225c256835530de0e0fb9cffa627f8653c03"), looks := true }, kinds := [], alts := [], laidByText := true, laidKinds := [.data, .data, .data, .sentinel, .sentinel], laidTests := true, laidLooks := .later }
def FnExactNumberUptoCardSaid : Prop := Claim7.holds Tryd.pinned (.plain (OpenSpec.upto fnExactNumberSpec)) fnExactNumberUptoCard

/-- THE SECOND FORM's CARD OF 'laws.FnExactLiteralAt'. -/
def fnExactLiteralAtUptoCard : Claim7 := { stood := { row := fnExactLiteralAtUptoRow, standIns := [], harness := (true, "772bf0986990418a7b01d4d4c433225c256835530de0e0fb9cffa627f8653c03"), looks := true }, kinds := [], alts := [], laidByText := true, laidKinds := [.data, .data, .data, .sentinel, .sentinel], laidTests := true, laidLooks := .later }
def FnExactLiteralAtUptoCardSaid : Prop := Claim7.holds Tryd.pinned (.plain (OpenSpec.upto fnExactLiteralAtSpec)) fnExactLiteralAtUptoCard
end Rows
end Go.Proofs.YtbelkkfdblklbaaDoor
