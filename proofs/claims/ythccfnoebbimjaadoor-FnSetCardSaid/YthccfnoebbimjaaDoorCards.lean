/-
  DERIVED. GIVEN WITH THE SEED: THE CARDS: each row of YthccfnoebbimjaaDoorRows.lean that lists a variable, with what it lists TIED to the program's text (the seventh form; the later family's looks); each row that meets fmt, with fmt's text TOLD by the authors' own Lean function (tested against real Go, not proved from fmt's source: count such statements apart). THE CARD IS WHAT COUNTS. Prove the row's statement (the work); the ties are given (YthccfnoebbimjaaDoorTie.lean); close each card by the builder's one call (the guide's Derived/Test/ToyasCard.lean, 'card_holds'). Laid BY PROGRAM, IN A SANDBOX (cutbox-door.mjs). By AI agents, Wed Nov 11 2026. No macro, syntax, notation, axiom, sorry.
-/
import Derived.Test.YthccfnoebbimjaaDoorRows
import GoSem.ClaimSeven
namespace Go.Proofs.YthccfnoebbimjaaDoor
namespace Rows

/-- THE TIED CARD OF 'laws.FnExactReadSet'. -/
def fnExactReadSetCard : Claim7 := { stood := { row := fnExactReadSetRow, standIns := [], harness := (true, "f5fc14a670a22284d83ddf016d899a8f12bf40d0592945107889c83e5ae738c4"), looks := true }, kinds := [], alts := [], laidByText := true, laidKinds := [.data, .data, .data, .sentinel, .sentinel], laidTests := true, laidLooks := .later }
def FnExactReadSetCardSaid : Prop := Claim7.holds Tryd.pinned (.plain (OpenSpec.ofChange fnExactReadSetSpec)) fnExactReadSetCard

/-- THE TIED CARD OF 'laws.FnSet'. -/
def fnSetCard : Claim7 := { stood := { row := fnSetRow, standIns := [], harness := (true, "f5fc14a670a22284d83ddf016d899a8f12bf40d0592945107889c83e5ae738c4"), looks := true }, kinds := [], alts := [], laidByText := true, laidKinds := [.data, .data, .data, .sentinel, .sentinel], laidTests := true, laidLooks := .later }
def FnSetCardSaid : Prop := Claim7.holds Tryd.pinned (.plain (OpenSpec.ofChange fnSetSpec)) fnSetCard

/-- THE SECOND FORM's CARD OF 'laws.FnExactReadSet'. -/
def fnExactReadSetUptoCard : Claim7 := { stood := { row := fnExactReadSetUptoRow, standIns := [], harness := (true, "f5fc14a670a22284d83ddf016d899a8f12bf40d0592945107889c83e5ae738c4"), looks := true }, kinds := [], alts := [], laidByText := true, laidKinds := [.data, .data, .data, .sentinel, .sentinel], laidTests := true, laidLooks := .later }
def FnExactReadSetUptoCardSaid : Prop := Claim7.holds Tryd.pinned (.plain (OpenSpec.upto fnExactReadSetSpec)) fnExactReadSetUptoCard

/-- THE SECOND FORM's CARD OF 'laws.FnSet'. -/
def fnSetUptoCard : Claim7 := { stood := { row := fnSetUptoRow, standIns := [], harness := (true, "f5fc14a670a22284d83ddf016d899a8f12bf40d0592945107889c83e5ae738c4"), looks := true }, kinds := [], alts := [], laidByText := true, laidKinds := [.data, .data, .data, .sentinel, .sentinel], laidTests := true, laidLooks := .later }
def FnSetUptoCardSaid : Prop := Claim7.holds Tryd.pinned (.plain (OpenSpec.upto fnSetSpec)) fnSetUptoCard
end Rows
end Go.Proofs.YthccfnoebbimjaaDoor
