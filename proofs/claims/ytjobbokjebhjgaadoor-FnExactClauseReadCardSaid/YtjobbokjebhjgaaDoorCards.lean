/-
  DERIVED. GIVEN WITH THE SEED: THE CARDS: each row of YtjobbokjebhjgaaDoorRows.lean that lists a variable, with what it lists TIED to the program's text (the seventh form; the later family's looks); each row that meets fmt, with fmt's text TOLD by the authors' own Lean function (tested against real Go, not proved from fmt's source: count such statements apart). THE CARD IS WHAT COUNTS. Prove the row's statement (the work); the ties are given (YtjobbokjebhjgaaDoorTie.lean); close each card by the builder's one call (the guide's Derived/Test/ToyasCard.lean, 'card_holds'). Laid BY PROGRAM, IN A SANDBOX (cutbox-door.mjs). By AI agents, Wed Nov 11 2026. No macro, syntax, notation, axiom, sorry.
-/
import Derived.Test.YtjobbokjebhjgaaDoorRows
import GoSem.ClaimSeven
namespace Go.Proofs.YtjobbokjebhjgaaDoor
namespace Rows

/-- THE TIED CARD OF 'laws.FnExactClauseText'. -/
def fnExactClauseTextCard : Claim7 := { stood := { row := fnExactClauseTextRow, standIns := [], harness := (true, "be75dd00e5ebb0cc31fef3e8a2bd51f8bc08b521e82aa33e61fa7be1011ae1c4"), looks := true }, kinds := [], alts := [], laidByText := true, laidKinds := [.data, .data, .data], laidTests := true, laidLooks := .later }
def FnExactClauseTextCardSaid : Prop := Claim7.holds Tryd.pinned (.plain (OpenSpec.ofChange fnExactClauseTextSpec)) fnExactClauseTextCard

/-- THE TIED CARD OF 'laws.FnExactClauseRead'. -/
def fnExactClauseReadCard : Claim7 := { stood := { row := fnExactClauseReadRow, standIns := [], harness := (true, "be75dd00e5ebb0cc31fef3e8a2bd51f8bc08b521e82aa33e61fa7be1011ae1c4"), looks := true }, kinds := [], alts := [], laidByText := true, laidKinds := [.data, .data, .data, .sentinel, .sentinel], laidTests := true, laidLooks := .later }
def FnExactClauseReadCardSaid : Prop := Claim7.holds Tryd.pinned (.plain (OpenSpec.ofChange fnExactClauseReadSpec)) fnExactClauseReadCard

/-- THE SECOND FORM's CARD OF 'laws.FnExactClauseText'. -/
def fnExactClauseTextUptoCard : Claim7 := { stood := { row := fnExactClauseTextUptoRow, standIns := [], harness := (true, "be75dd00e5ebb0cc31fef3e8a2bd51f8bc08b521e82aa33e61fa7be1011ae1c4"), looks := true }, kinds := [], alts := [], laidByText := true, laidKinds := [.data, .data, .data], laidTests := true, laidLooks := .later }
def FnExactClauseTextUptoCardSaid : Prop := Claim7.holds Tryd.pinned (.plain (OpenSpec.upto fnExactClauseTextSpec)) fnExactClauseTextUptoCard

/-- THE SECOND FORM's CARD OF 'laws.FnExactClauseRead'. -/
def fnExactClauseReadUptoCard : Claim7 := { stood := { row := fnExactClauseReadUptoRow, standIns := [], harness := (true, "be75dd00e5ebb0cc31fef3e8a2bd51f8bc08b521e82aa33e61fa7be1011ae1c4"), looks := true }, kinds := [], alts := [], laidByText := true, laidKinds := [.data, .data, .data, .sentinel, .sentinel], laidTests := true, laidLooks := .later }
def FnExactClauseReadUptoCardSaid : Prop := Claim7.holds Tryd.pinned (.plain (OpenSpec.upto fnExactClauseReadSpec)) fnExactClauseReadUptoCard
end Rows
end Go.Proofs.YtjobbokjebhjgaaDoor
