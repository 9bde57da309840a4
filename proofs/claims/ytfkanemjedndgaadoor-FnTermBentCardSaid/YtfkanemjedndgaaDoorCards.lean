/-
  DERIVED. GIVEN WITH THE SEED: THE CARDS: each row of YtfkanemjedndgaaDoorRows.lean that lists a variable, with what it lists TIED to the program's text (the seventh form; the later family's looks); each row that meets fmt, with fmt's text TOLD by the authors' own Lean function (tested against real Go, not proved from fmt's source: count such statements apart). THE CARD IS WHAT COUNTS. Prove the row's statement (the work); the ties are given (YtfkanemjedndgaaDoorTie.lean); close each card by the builder's one call (the guide's Derived/Test/ToyasCard.lean, 'card_holds'). Laid BY PROGRAM, IN A SANDBOX (cutbox-door.mjs). By AI agents, Wed Nov 11 2026. No macro, syntax, notation, axiom, sorry.
-/
import Derived.Test.YtfkanemjedndgaaDoorRows
import GoSem.ClaimSeven
namespace Go.Proofs.YtfkanemjedndgaaDoor
namespace Rows

/-- THE TIED CARD OF 'laws.FnExactTermSort'. -/
def fnExactTermSortCard : Claim7 := { stood := { row := fnExactTermSortRow, standIns := [], harness := (true, "535c25319d225bde05d29101f9db7e6f5e2eb76dff41e97bcd1b20f3112edfde"), looks := false }, kinds := [], alts := [], laidByText := true, laidKinds := [.data, .pinned], laidTests := true, laidLooks := .later }
def FnExactTermSortCardSaid : Prop := Claim7.holds Tryd.pinned (.plain (OpenSpec.ofChange fnExactTermSortSpec)) fnExactTermSortCard

/-- THE TIED CARD OF 'laws.FnTermBent'. -/
def fnTermBentCard : Claim7 := { stood := { row := fnTermBentRow, standIns := [], harness := (true, "535c25319d225bde05d29101f9db7e6f5e2eb76dff41e97bcd1b20f3112edfde"), looks := false }, kinds := [], alts := [], laidByText := true, laidKinds := [.data, .pinned], laidTests := true, laidLooks := .later }
def FnTermBentCardSaid : Prop := Claim7.holds Tryd.pinned (.plain (OpenSpec.ofChange fnTermBentSpec)) fnTermBentCard

/-- THE SECOND FORM's CARD OF 'laws.FnExactTermSort'. -/
def fnExactTermSortUptoCard : Claim7 := { stood := { row := fnExactTermSortUptoRow, standIns := [], harness := (true, "535c25319d225bde05d29101f9db7e6f5e2eb76dff41e97bcd1b20f3112edfde"), looks := false }, kinds := [], alts := [], laidByText := true, laidKinds := [.data, .pinned], laidTests := true, laidLooks := .later }
def FnExactTermSortUptoCardSaid : Prop := Claim7.holds Tryd.pinned (.plain (OpenSpec.upto fnExactTermSortSpec)) fnExactTermSortUptoCard

/-- THE SECOND FORM's CARD OF 'laws.FnTermBent'. -/
def fnTermBentUptoCard : Claim7 := { stood := { row := fnTermBentUptoRow, standIns := [], harness := (true, "535c25319d225bde05d29101f9db7e6f5e2eb76dff41e97bcd1b20f3112edfde"), looks := false }, kinds := [], alts := [], laidByText := true, laidKinds := [.data, .pinned], laidTests := true, laidLooks := .later }
def FnTermBentUptoCardSaid : Prop := Claim7.holds Tryd.pinned (.plain (OpenSpec.upto fnTermBentSpec)) fnTermBentUptoCard
end Rows
end Go.Proofs.YtfkanemjedndgaaDoor
