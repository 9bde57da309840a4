/-
  DERIVED. GIVEN WITH THE SEED: THE CARDS: each row of YtklbdfjmhbiheaaDoorRows.lean that lists a variable, with what it lists TIED to the program's text (the seventh form; the later family's looks); each row that meets fmt, with fmt's text TOLD by the authors' own Lean function (tested against real Go, not proved from fmt's source: count such statements apart). THE CARD IS WHAT COUNTS. Prove the row's statement (the work); the ties are given (YtklbdfjmhbiheaaDoorTie.lean); close each card by the builder's one call (the guide's Derived/Test/ToyasCard.lean, 'card_holds'). Laid BY PROGRAM, IN A SANDBOX (cutbox-door.mjs). By AI agents, Wed Nov 11 2026. No macro, syntax, notation, axiom, sorry.
-/
import Derived.Test.YtklbdfjmhbiheaaDoorRows
import GoSem.ClaimSeven
namespace Go.Proofs.YtklbdfjmhbiheaaDoor
namespace Rows

/-- THE TIED CARD OF 'laws.FnExactDeclOk'. -/
def fnExactDeclOkCard : Claim7 := { stood := { row := fnExactDeclOkRow, standIns := [], harness := (true, "7c7e0bef249030e38a0d69e0e4dd459b95c036f4c54bc3e3d8cdbd5baf8ab4e8"), looks := false }, kinds := [], alts := [], laidByText := true, laidKinds := [.data, .pinned], laidTests := true, laidLooks := .later }
def FnExactDeclOkCardSaid : Prop := Claim7.holds Tryd.pinned (.plain (OpenSpec.ofChange fnExactDeclOkSpec)) fnExactDeclOkCard

/-- THE TIED CARD OF 'laws.FnExactEnvMany'. -/
def fnExactEnvManyCard : Claim7 := { stood := { row := fnExactEnvManyRow, standIns := [], harness := (true, "7c7e0bef249030e38a0d69e0e4dd459b95c036f4c54bc3e3d8cdbd5baf8ab4e8"), looks := false }, kinds := [], alts := [], laidByText := true, laidKinds := [.data, .pinned], laidTests := true, laidLooks := .later }
def FnExactEnvManyCardSaid : Prop := Claim7.holds Tryd.pinned (.plain (OpenSpec.ofChange fnExactEnvManySpec)) fnExactEnvManyCard

/-- THE TIED CARD OF 'laws.FnExactEnvOk'. -/
def fnExactEnvOkCard : Claim7 := { stood := { row := fnExactEnvOkRow, standIns := [], harness := (true, "7c7e0bef249030e38a0d69e0e4dd459b95c036f4c54bc3e3d8cdbd5baf8ab4e8"), looks := false }, kinds := [], alts := [], laidByText := true, laidKinds := [.data, .pinned], laidTests := true, laidLooks := .later }
def FnExactEnvOkCardSaid : Prop := Claim7.holds Tryd.pinned (.plain (OpenSpec.ofChange fnExactEnvOkSpec)) fnExactEnvOkCard

/-- THE TIED CARD OF 'laws.FnEnv'. -/
def fnEnvCard : Claim7 := { stood := { row := fnEnvRow, standIns := [], harness := (true, "7c7e0bef249030e38a0d69e0e4dd459b95c036f4c54bc3e3d8cdbd5baf8ab4e8"), looks := false }, kinds := [], alts := [], laidByText := true, laidKinds := [.data, .pinned], laidTests := true, laidLooks := .later }
def FnEnvCardSaid : Prop := Claim7.holds Tryd.pinned (.plain (OpenSpec.ofChange fnEnvSpec)) fnEnvCard

/-- THE TIED CARD OF 'laws.FnEnvAll'. -/
def fnEnvAllCard : Claim7 := { stood := { row := fnEnvAllRow, standIns := [], harness := (true, "7c7e0bef249030e38a0d69e0e4dd459b95c036f4c54bc3e3d8cdbd5baf8ab4e8"), looks := false }, kinds := [], alts := [], laidByText := true, laidKinds := [.data, .pinned], laidTests := true, laidLooks := .later }
def FnEnvAllCardSaid : Prop := Claim7.holds Tryd.pinned (.plain (OpenSpec.ofChange fnEnvAllSpec)) fnEnvAllCard

/-- THE TIED CARD OF 'laws.FnExactEnvAll'. -/
def fnExactEnvAllCard : Claim7 := { stood := { row := fnExactEnvAllRow, standIns := [], harness := (true, "7c7e0bef249030e38a0d69e0e4dd459b95c036f4c54bc3e3d8cdbd5baf8ab4e8"), looks := false }, kinds := [], alts := [], laidByText := true, laidKinds := [.data, .pinned], laidTests := true, laidLooks := .later }
def FnExactEnvAllCardSaid : Prop := Claim7.holds Tryd.pinned (.plain (OpenSpec.ofChange fnExactEnvAllSpec)) fnExactEnvAllCard

/-- THE SECOND FORM's CARD OF 'laws.FnExactDeclOk'. -/
def fnExactDeclOkUptoCard : Claim7 := { stood := { row := fnExactDeclOkUptoRow, standIns := [], harness := (true, "7c7e0bef249030e38a0d69e0e4dd459b95c036f4c54bc3e3d8cdbd5baf8ab4e8"), looks := false }, kinds := [], alts := [], laidByText := true, laidKinds := [.data, .pinned], laidTests := true, laidLooks := .later }
def FnExactDeclOkUptoCardSaid : Prop := Claim7.holds Tryd.pinned (.plain (OpenSpec.upto fnExactDeclOkSpec)) fnExactDeclOkUptoCard

/-- THE SECOND FORM's CARD OF 'laws.FnExactEnvMany'. -/
def fnExactEnvManyUptoCard : Claim7 := { stood := { row := fnExactEnvManyUptoRow, standIns := [], harness := (true, "7c7e0bef249030e38a0d69e0e4dd459b95c036f4c54bc3e3d8cdbd5baf8ab4e8"), looks := false }, kinds := [], alts := [], laidByText := true, laidKinds := [.data, .pinned], laidTests := true, laidLooks := .later }
def FnExactEnvManyUptoCardSaid : Prop := Claim7.holds Tryd.pinned (.plain (OpenSpec.upto fnExactEnvManySpec)) fnExactEnvManyUptoCard

/-- THE SECOND FORM's CARD OF 'laws.FnExactEnvOk'. -/
def fnExactEnvOkUptoCard : Claim7 := { stood := { row := fnExactEnvOkUptoRow, standIns := [], harness := (true, "7c7e0bef249030e38a0d69e0e4dd459b95c036f4c54bc3e3d8cdbd5baf8ab4e8"), looks := false }, kinds := [], alts := [], laidByText := true, laidKinds := [.data, .pinned], laidTests := true, laidLooks := .later }
def FnExactEnvOkUptoCardSaid : Prop := Claim7.holds Tryd.pinned (.plain (OpenSpec.upto fnExactEnvOkSpec)) fnExactEnvOkUptoCard

/-- THE SECOND FORM's CARD OF 'laws.FnEnv'. -/
def fnEnvUptoCard : Claim7 := { stood := { row := fnEnvUptoRow, standIns := [], harness := (true, "7c7e0bef249030e38a0d69e0e4dd459b95c036f4c54bc3e3d8cdbd5baf8ab4e8"), looks := false }, kinds := [], alts := [], laidByText := true, laidKinds := [.data, .pinned], laidTests := true, laidLooks := .later }
def FnEnvUptoCardSaid : Prop := Claim7.holds Tryd.pinned (.plain (OpenSpec.upto fnEnvSpec)) fnEnvUptoCard

/-- THE SECOND FORM's CARD OF 'laws.FnEnvAll'. -/
def fnEnvAllUptoCard : Claim7 := { stood := { row := fnEnvAllUptoRow, standIns := [], harness := (true, "7c7e0bef249030e38a0d69e0e4dd459b95c036f4c54bc3e3d8cdbd5baf8ab4e8"), looks := false }, kinds := [], alts := [], laidByText := true, laidKinds := [.data, .pinned], laidTests := true, laidLooks := .later }
def FnEnvAllUptoCardSaid : Prop := Claim7.holds Tryd.pinned (.plain (OpenSpec.upto fnEnvAllSpec)) fnEnvAllUptoCard

/-- THE SECOND FORM's CARD OF 'laws.FnExactEnvAll'. -/
def fnExactEnvAllUptoCard : Claim7 := { stood := { row := fnExactEnvAllUptoRow, standIns := [], harness := (true, "7c7e0bef249030e38a0d69e0e4dd459b95c036f4c54bc3e3d8cdbd5baf8ab4e8"), looks := false }, kinds := [], alts := [], laidByText := true, laidKinds := [.data, .pinned], laidTests := true, laidLooks := .later }
def FnExactEnvAllUptoCardSaid : Prop := Claim7.holds Tryd.pinned (.plain (OpenSpec.upto fnExactEnvAllSpec)) fnExactEnvAllUptoCard
end Rows
end Go.Proofs.YtklbdfjmhbiheaaDoor
