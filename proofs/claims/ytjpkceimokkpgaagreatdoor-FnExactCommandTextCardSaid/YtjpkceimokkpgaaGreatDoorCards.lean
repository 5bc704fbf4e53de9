/-
  DERIVED. GIVEN WITH THE SEED: THE CARDS: each row of YtjpkceimokkpgaaGreatDoorRows.lean that lists a variable, with what it lists TIED to the program's text (the seventh form; the later family's looks); each row that meets fmt, with fmt's text TOLD by the authors' own Lean function (tested against real Go, not proved from fmt's source: count such statements apart). THE CARD IS WHAT COUNTS. Prove the row's statement (the work); the ties are given (YtjpkceimokkpgaaGreatDoorTie.lean); close each card by the builder's one call (the guide's Derived/Test/ToyasCard.lean, 'card_holds'). Laid BY PROGRAM, IN A SANDBOX (cutbox-door.mjs). By AI agents, Wed Nov 11 2026. No macro, syntax, notation, axiom, sorry.
-/
import Derived.Test.YtjpkceimokkpgaaGreatDoorRows
import GoSem.ClaimSeven
namespace Go.Proofs.YtjpkceimokkpgaaGreatDoor
namespace Rows

/-- THE TIED CARD OF 'laws.FnExactCommandTokens'. -/
def fnExactCommandTokensCard : Claim7 := { stood := { row := fnExactCommandTokensRow, standIns := [], harness := (true, "f9c4151572ebc983f37813194646e3aedc6204b90ef75372e4b8d96aa4a83d28"), looks := false }, kinds := [], alts := [], laidByText := true, laidKinds := [.data, .data, .data], laidTests := true, laidLooks := .later }
def FnExactCommandTokensCardSaid : Prop := Claim7.holds Tryz.pinned (.plain (OpenSpec.ofChange fnExactCommandTokensSpec)) fnExactCommandTokensCard

/-- THE TIED CARD OF 'laws.FnExactCommandText'. -/
def fnExactCommandTextCard : Claim7 := { stood := { row := fnExactCommandTextRow, standIns := [], harness := (true, "f9c4151572ebc983f37813194646e3aedc6204b90ef75372e4b8d96aa4a83d28"), looks := false }, kinds := [], alts := [], laidByText := true, laidKinds := [.data, .data, .data, .data, .pinned], laidTests := true, laidLooks := .later }
def FnExactCommandTextCardSaid : Prop := Claim7.holds Tryz.pinned (.plain (OpenSpec.ofChange fnExactCommandTextSpec)) fnExactCommandTextCard

/-- THE SECOND FORM's CARD OF 'laws.FnExactCommandTokens'. -/
def fnExactCommandTokensUptoCard : Claim7 := { stood := { row := fnExactCommandTokensUptoRow, standIns := [], harness := (true, "f9c4151572ebc983f37813194646e3aedc6204b90ef75372e4b8d96aa4a83d28"), looks := false }, kinds := [], alts := [], laidByText := true, laidKinds := [.data, .data, .data], laidTests := true, laidLooks := .later }
def FnExactCommandTokensUptoCardSaid : Prop := Claim7.holds Tryz.pinned (.plain (OpenSpec.upto fnExactCommandTokensSpec)) fnExactCommandTokensUptoCard

/-- THE SECOND FORM's CARD OF 'laws.FnExactCommandText'. -/
def fnExactCommandTextUptoCard : Claim7 := { stood := { row := fnExactCommandTextUptoRow, standIns := [], harness := (true, "f9c4151572ebc983f37813194646e3aedc6204b90ef75372e4b8d96aa4a83d28"), looks := false }, kinds := [], alts := [], laidByText := true, laidKinds := [.data, .data, .data, .data, .pinned], laidTests := true, laidLooks := .later }
def FnExactCommandTextUptoCardSaid : Prop := Claim7.holds Tryz.pinned (.plain (OpenSpec.upto fnExactCommandTextSpec)) fnExactCommandTextUptoCard
end Rows
end Go.Proofs.YtjpkceimokkpgaaGreatDoor
