/-
  NARROWER THAN 'FOR EVERY INPUT', by the rows' own cells (each row's printed sentence says how): FnExactDeclOk: laid · FnExactEnvMany: laid · FnExactEnvOk: laid · FnEnv: laid · FnEnvAll: laid · FnExactEnvAll: laid.
  DERIVED. THE GIVEN ROWS OF THIS SEAT. 6 by the template 'for every input the law returns true; each argument reads behind the call as it read before'; 0 by the template 'total and deterministic' (their statements: YtklbdfjmhbiheaaDoorTotals.lean).
  GIVEN WITH THE SEED: the statements are not yours to turn. If you find one false, say at which input.
  Laid BY PROGRAM, IN A SANDBOX (cutbox-rows.mjs): the forced cells as the released guide's own fill.sh prints them over the translation 80440172b4d4cc1a… (all of the seat's roots in one cut). By AI agents, Wed Nov 11 2026. No macro, syntax, notation, axiom, sorry.
-/
import Derived.Test.YtklbdfjmhbiheaaDoorChecked
import GoSem.PinnedTables
import GoSem.Claim
import GoSem.ClaimJoined
import GoSem.ClaimMapViews
import Derived.JoinedTies
import Derived.KernelRfl
namespace Go.Proofs.YtklbdfjmhbiheaaDoor
/- THE CELL 'sum', in the pinned program and in every row, IS THE sha256 OF THE DUMP (.gsa) THAT YtklbdfjmhbiheaaDoorProg.lean LOADS. Nothing in Lean hashes anything: it is a label: what it is worth is what the hold of that sum in a sandbox is worth. -/
noncomputable def Tryd.pinned : Pinned := { name := "ytklbdfjmhbiheaadoor", sum := "80440172b4d4cc1ad6754c63344dde030a47bcfb19fd6202e3b515dc24f27d38", checked := Tryd.checked }
namespace Rows
def none {H : Type} : Left H := { results := [], args := [] }

/- WHAT THE LISTED PACKAGE-LEVEL VARIABLES READ AS WHEN THE CALL BEGINS. Each datum BY PROGRAM (the guide's laid-datum.mjs) off the statement by which the dump's own 'gosem.cut.vars' lays the variable. In a bare row this is a premise. The card (YtklbdfjmhbiheaaDoorCards.lean) ties it to the program's text. -/
def laid_unicode_utf8_acceptRanges {H : Type} : DataW H := .agg [.agg [.lit (.int .u8 128), .lit (.int .u8 191)], .agg [.lit (.int .u8 160), .lit (.int .u8 191)], .agg [.lit (.int .u8 128), .lit (.int .u8 159)], .agg [.lit (.int .u8 144), .lit (.int .u8 191)], .agg [.lit (.int .u8 128), .lit (.int .u8 143)], .agg [.lit (.int .u8 0), .lit (.int .u8 0)], .agg [.lit (.int .u8 0), .lit (.int .u8 0)], .agg [.lit (.int .u8 0), .lit (.int .u8 0)], .agg [.lit (.int .u8 0), .lit (.int .u8 0)], .agg [.lit (.int .u8 0), .lit (.int .u8 0)], .agg [.lit (.int .u8 0), .lit (.int .u8 0)], .agg [.lit (.int .u8 0), .lit (.int .u8 0)], .agg [.lit (.int .u8 0), .lit (.int .u8 0)], .agg [.lit (.int .u8 0), .lit (.int .u8 0)], .agg [.lit (.int .u8 0), .lit (.int .u8 0)], .agg [.lit (.int .u8 0), .lit (.int .u8 0)]]
/-- One of Go's own tables, pinned by name: the form's constant. -/
def laid_unicode_utf8_first : DataW Unit := Go.Pinned.utf8First

/-- 'laws.FnExactDeclOk': WHATEVER THE INPUT: true; the input reads as it did. -/
def fnExactDeclOkSpec : ChangeSpec := { name := "fnExactDeclOk", fn := fun _ => fun
  | [d] => { results := [.lit (.bool true)], args := [d] }
  | _ => none }
def fnExactDeclOkRow : OpenClaim := { program := "ytklbdfjmhbiheaadoor", sum := "80440172b4d4cc1ad6754c63344dde030a47bcfb19fd6202e3b515dc24f27d38", func := "loop.example/seedlip/laws.FnExactDeclOk", spec := "fnExactDeclOk", inPlace := ["internal/bytealg.IndexByteString", "internal/bytealg.IndexString"], unfollowed := true, recurses := true, named := ["unicode/utf8.first", "unicode/utf8.acceptRanges", "internal/bytealg.MaxLen"], apart := false, laid := [("unicode/utf8.acceptRanges", laid_unicode_utf8_acceptRanges), ("unicode/utf8.first", laid_unicode_utf8_first)] }
def FnExactDeclOkSaid : Prop := fnExactDeclOkRow.holds Tryd.pinned (OpenSpec.ofChange fnExactDeclOkSpec)

/-- ITS FALSE NEIGHBOUR: 'it returns false'. Refute it at one input. -/
def fnExactDeclOkWrong : ChangeSpec := { name := "fnExactDeclOk", fn := fun _ => fun
  | [d] => { results := [.lit (.bool false)], args := [d] }
  | _ => none }
def FnExactDeclOkWrongFalsely : Prop := fnExactDeclOkRow.holds Tryd.pinned (OpenSpec.ofChange fnExactDeclOkWrong)

/-- 'laws.FnExactEnvMany': WHATEVER THE INPUT: true; the input reads as it did. -/
def fnExactEnvManySpec : ChangeSpec := { name := "fnExactEnvMany", fn := fun _ => fun
  | [d] => { results := [.lit (.bool true)], args := [d] }
  | _ => none }
def fnExactEnvManyRow : OpenClaim := { program := "ytklbdfjmhbiheaadoor", sum := "80440172b4d4cc1ad6754c63344dde030a47bcfb19fd6202e3b515dc24f27d38", func := "loop.example/seedlip/laws.FnExactEnvMany", spec := "fnExactEnvMany", inPlace := ["internal/bytealg.IndexByteString", "internal/bytealg.IndexString"], unfollowed := true, recurses := true, named := ["unicode/utf8.first", "unicode/utf8.acceptRanges", "internal/bytealg.MaxLen"], apart := false, laid := [("unicode/utf8.acceptRanges", laid_unicode_utf8_acceptRanges), ("unicode/utf8.first", laid_unicode_utf8_first)] }
def FnExactEnvManySaid : Prop := fnExactEnvManyRow.holds Tryd.pinned (OpenSpec.ofChange fnExactEnvManySpec)

/-- ITS FALSE NEIGHBOUR: 'it returns false'. Refute it at one input. -/
def fnExactEnvManyWrong : ChangeSpec := { name := "fnExactEnvMany", fn := fun _ => fun
  | [d] => { results := [.lit (.bool false)], args := [d] }
  | _ => none }
def FnExactEnvManyWrongFalsely : Prop := fnExactEnvManyRow.holds Tryd.pinned (OpenSpec.ofChange fnExactEnvManyWrong)

/-- 'laws.FnExactEnvOk': WHATEVER THE INPUT: true; the input reads as it did. -/
def fnExactEnvOkSpec : ChangeSpec := { name := "fnExactEnvOk", fn := fun _ => fun
  | [d1, d2] => { results := [.lit (.bool true)], args := [d1, d2] }
  | _ => none }
def fnExactEnvOkRow : OpenClaim := { program := "ytklbdfjmhbiheaadoor", sum := "80440172b4d4cc1ad6754c63344dde030a47bcfb19fd6202e3b515dc24f27d38", func := "loop.example/seedlip/laws.FnExactEnvOk", spec := "fnExactEnvOk", inPlace := ["internal/bytealg.IndexByteString", "internal/bytealg.IndexString"], unfollowed := true, recurses := true, named := ["unicode/utf8.first", "unicode/utf8.acceptRanges", "internal/bytealg.MaxLen"], apart := false, laid := [("unicode/utf8.acceptRanges", laid_unicode_utf8_acceptRanges), ("unicode/utf8.first", laid_unicode_utf8_first)] }
def FnExactEnvOkSaid : Prop := fnExactEnvOkRow.holds Tryd.pinned (OpenSpec.ofChange fnExactEnvOkSpec)

/-- ITS FALSE NEIGHBOUR: 'it returns false'. Refute it at one input. -/
def fnExactEnvOkWrong : ChangeSpec := { name := "fnExactEnvOk", fn := fun _ => fun
  | [d1, d2] => { results := [.lit (.bool false)], args := [d1, d2] }
  | _ => none }
def FnExactEnvOkWrongFalsely : Prop := fnExactEnvOkRow.holds Tryd.pinned (OpenSpec.ofChange fnExactEnvOkWrong)

/-- 'laws.FnEnv': WHATEVER THE INPUT: true; the input reads as it did. -/
def fnEnvSpec : ChangeSpec := { name := "fnEnv", fn := fun _ => fun
  | [d] => { results := [.lit (.bool true)], args := [d] }
  | _ => none }
def fnEnvRow : OpenClaim := { program := "ytklbdfjmhbiheaadoor", sum := "80440172b4d4cc1ad6754c63344dde030a47bcfb19fd6202e3b515dc24f27d38", func := "loop.example/seedlip/laws.FnEnv", spec := "fnEnv", inPlace := ["internal/bytealg.IndexByteString", "internal/bytealg.IndexString"], unfollowed := true, recurses := true, named := ["unicode/utf8.first", "unicode/utf8.acceptRanges", "internal/bytealg.MaxLen"], apart := false, laid := [("unicode/utf8.acceptRanges", laid_unicode_utf8_acceptRanges), ("unicode/utf8.first", laid_unicode_utf8_first)] }
def FnEnvSaid : Prop := fnEnvRow.holds Tryd.pinned (OpenSpec.ofChange fnEnvSpec)

/-- ITS FALSE NEIGHBOUR: 'it returns false'. Refute it at one input. -/
def fnEnvWrong : ChangeSpec := { name := "fnEnv", fn := fun _ => fun
  | [d] => { results := [.lit (.bool false)], args := [d] }
  | _ => none }
def FnEnvWrongFalsely : Prop := fnEnvRow.holds Tryd.pinned (OpenSpec.ofChange fnEnvWrong)

/-- 'laws.FnEnvAll': WHATEVER THE INPUT: true; the input reads as it did. -/
def fnEnvAllSpec : ChangeSpec := { name := "fnEnvAll", fn := fun _ => fun
  | [d] => { results := [.lit (.bool true)], args := [d] }
  | _ => none }
def fnEnvAllRow : OpenClaim := { program := "ytklbdfjmhbiheaadoor", sum := "80440172b4d4cc1ad6754c63344dde030a47bcfb19fd6202e3b515dc24f27d38", func := "loop.example/seedlip/laws.FnEnvAll", spec := "fnEnvAll", inPlace := ["internal/bytealg.IndexByteString", "internal/bytealg.IndexString"], unfollowed := true, recurses := true, named := ["unicode/utf8.first", "unicode/utf8.acceptRanges", "internal/bytealg.MaxLen"], apart := false, laid := [("unicode/utf8.acceptRanges", laid_unicode_utf8_acceptRanges), ("unicode/utf8.first", laid_unicode_utf8_first)] }
def FnEnvAllSaid : Prop := fnEnvAllRow.holds Tryd.pinned (OpenSpec.ofChange fnEnvAllSpec)

/-- ITS FALSE NEIGHBOUR: 'it returns false'. Refute it at one input. -/
def fnEnvAllWrong : ChangeSpec := { name := "fnEnvAll", fn := fun _ => fun
  | [d] => { results := [.lit (.bool false)], args := [d] }
  | _ => none }
def FnEnvAllWrongFalsely : Prop := fnEnvAllRow.holds Tryd.pinned (OpenSpec.ofChange fnEnvAllWrong)

/-- 'laws.FnExactEnvAll': WHATEVER THE INPUT: true; the input reads as it did. -/
def fnExactEnvAllSpec : ChangeSpec := { name := "fnExactEnvAll", fn := fun _ => fun
  | [d1, d2] => { results := [.lit (.bool true)], args := [d1, d2] }
  | _ => none }
def fnExactEnvAllRow : OpenClaim := { program := "ytklbdfjmhbiheaadoor", sum := "80440172b4d4cc1ad6754c63344dde030a47bcfb19fd6202e3b515dc24f27d38", func := "loop.example/seedlip/laws.FnExactEnvAll", spec := "fnExactEnvAll", inPlace := ["internal/bytealg.IndexByteString", "internal/bytealg.IndexString"], unfollowed := true, recurses := true, named := ["unicode/utf8.first", "unicode/utf8.acceptRanges", "internal/bytealg.MaxLen"], apart := false, laid := [("unicode/utf8.acceptRanges", laid_unicode_utf8_acceptRanges), ("unicode/utf8.first", laid_unicode_utf8_first)] }
def FnExactEnvAllSaid : Prop := fnExactEnvAllRow.holds Tryd.pinned (OpenSpec.ofChange fnExactEnvAllSpec)

/-- ITS FALSE NEIGHBOUR: 'it returns false'. Refute it at one input. -/
def fnExactEnvAllWrong : ChangeSpec := { name := "fnExactEnvAll", fn := fun _ => fun
  | [d1, d2] => { results := [.lit (.bool false)], args := [d1, d2] }
  | _ => none }
def FnExactEnvAllWrongFalsely : Prop := fnExactEnvAllRow.holds Tryd.pinned (OpenSpec.ofChange fnExactEnvAllWrong)

/- THE SECOND FORM. 'bulk': how many values and letters a reading holds, each counted each time it is reached (what is shared counts as often as it is met; a slice's spare places count too). A statement '..UptoSaid' is the law's where the arguments, and the package variables that the reading takes, are together of bulk at most 1048576: NARROWER than '..Said'. Prove '..Said' where nothing that the law and all that it calls make is longer than what came in: it says more and counts as full. Else prove '..UptoSaid'. A law counts once. -/
mutual
def uptoBulk {H : Type} : DataW H → Nat
  | .lit (.string bytes) => bytes.length + 1
  | .lit _ => 1
  | .nil => 1
  | .ptr d => uptoBulk d + 1
  | .slice elems spare => uptoBulkAll elems + uptoBulkAll spare + 1
  | .agg parts => uptoBulkAll parts + 1
  | .iface _ d => uptoBulk d + 1
  | .map entries => uptoBulkEntries entries + 1
  | .held _ => 1
def uptoBulkAll {H : Type} : List (DataW H) → Nat
  | [] => 0
  | d :: r => uptoBulk d + uptoBulkAll r
def uptoBulkEntries {H : Type} : List (Lit × DataW H) → Nat
  | [] => 0
  | x :: r => uptoBulkEntry x + uptoBulkEntries r
def uptoBulkEntry {H : Type} : Lit × DataW H → Nat
  | (.string bytes, d) => bytes.length + uptoBulk d + 1
  | (_, d) => uptoBulk d + 1
 end
def uptoSmall : (H : Type) → List (DataW H) → Bool := fun _ ds => decide (uptoBulkAll ds ≤ 1048576)
def OpenSpec.upto (s : _root_.Go.ChangeSpec) : _root_.Go.OpenSpec := { _root_.Go.OpenSpec.ofChange s with cond := some uptoSmall }

/-- 'laws.FnExactDeclOk', WHERE WHAT IT READS IS OF BULK AT MOST 1048576: true; the input reads as it did. -/
def fnExactDeclOkUptoRow : OpenClaim := { program := "ytklbdfjmhbiheaadoor", sum := "80440172b4d4cc1ad6754c63344dde030a47bcfb19fd6202e3b515dc24f27d38", func := "loop.example/seedlip/laws.FnExactDeclOk", spec := "fnExactDeclOk", inPlace := ["internal/bytealg.IndexByteString", "internal/bytealg.IndexString"], unfollowed := true, recurses := true, named := ["unicode/utf8.first", "unicode/utf8.acceptRanges", "internal/bytealg.MaxLen"], apart := false, laid := [("unicode/utf8.acceptRanges", laid_unicode_utf8_acceptRanges), ("unicode/utf8.first", laid_unicode_utf8_first)], narrowed := true }
def FnExactDeclOkUptoSaid : Prop := fnExactDeclOkUptoRow.holds Tryd.pinned (OpenSpec.upto fnExactDeclOkSpec)

/-- 'laws.FnExactEnvMany', WHERE WHAT IT READS IS OF BULK AT MOST 1048576: true; the input reads as it did. -/
def fnExactEnvManyUptoRow : OpenClaim := { program := "ytklbdfjmhbiheaadoor", sum := "80440172b4d4cc1ad6754c63344dde030a47bcfb19fd6202e3b515dc24f27d38", func := "loop.example/seedlip/laws.FnExactEnvMany", spec := "fnExactEnvMany", inPlace := ["internal/bytealg.IndexByteString", "internal/bytealg.IndexString"], unfollowed := true, recurses := true, named := ["unicode/utf8.first", "unicode/utf8.acceptRanges", "internal/bytealg.MaxLen"], apart := false, laid := [("unicode/utf8.acceptRanges", laid_unicode_utf8_acceptRanges), ("unicode/utf8.first", laid_unicode_utf8_first)], narrowed := true }
def FnExactEnvManyUptoSaid : Prop := fnExactEnvManyUptoRow.holds Tryd.pinned (OpenSpec.upto fnExactEnvManySpec)

/-- 'laws.FnExactEnvOk', WHERE WHAT IT READS IS OF BULK AT MOST 1048576: true; the input reads as it did. -/
def fnExactEnvOkUptoRow : OpenClaim := { program := "ytklbdfjmhbiheaadoor", sum := "80440172b4d4cc1ad6754c63344dde030a47bcfb19fd6202e3b515dc24f27d38", func := "loop.example/seedlip/laws.FnExactEnvOk", spec := "fnExactEnvOk", inPlace := ["internal/bytealg.IndexByteString", "internal/bytealg.IndexString"], unfollowed := true, recurses := true, named := ["unicode/utf8.first", "unicode/utf8.acceptRanges", "internal/bytealg.MaxLen"], apart := false, laid := [("unicode/utf8.acceptRanges", laid_unicode_utf8_acceptRanges), ("unicode/utf8.first", laid_unicode_utf8_first)], narrowed := true }
def FnExactEnvOkUptoSaid : Prop := fnExactEnvOkUptoRow.holds Tryd.pinned (OpenSpec.upto fnExactEnvOkSpec)

/-- 'laws.FnEnv', WHERE WHAT IT READS IS OF BULK AT MOST 1048576: true; the input reads as it did. -/
def fnEnvUptoRow : OpenClaim := { program := "ytklbdfjmhbiheaadoor", sum := "80440172b4d4cc1ad6754c63344dde030a47bcfb19fd6202e3b515dc24f27d38", func := "loop.example/seedlip/laws.FnEnv", spec := "fnEnv", inPlace := ["internal/bytealg.IndexByteString", "internal/bytealg.IndexString"], unfollowed := true, recurses := true, named := ["unicode/utf8.first", "unicode/utf8.acceptRanges", "internal/bytealg.MaxLen"], apart := false, laid := [("unicode/utf8.acceptRanges", laid_unicode_utf8_acceptRanges), ("unicode/utf8.first", laid_unicode_utf8_first)], narrowed := true }
def FnEnvUptoSaid : Prop := fnEnvUptoRow.holds Tryd.pinned (OpenSpec.upto fnEnvSpec)

/-- 'laws.FnEnvAll', WHERE WHAT IT READS IS OF BULK AT MOST 1048576: true; the input reads as it did. -/
def fnEnvAllUptoRow : OpenClaim := { program := "ytklbdfjmhbiheaadoor", sum := "80440172b4d4cc1ad6754c63344dde030a47bcfb19fd6202e3b515dc24f27d38", func := "loop.example/seedlip/laws.FnEnvAll", spec := "fnEnvAll", inPlace := ["internal/bytealg.IndexByteString", "internal/bytealg.IndexString"], unfollowed := true, recurses := true, named := ["unicode/utf8.first", "unicode/utf8.acceptRanges", "internal/bytealg.MaxLen"], apart := false, laid := [("unicode/utf8.acceptRanges", laid_unicode_utf8_acceptRanges), ("unicode/utf8.first", laid_unicode_utf8_first)], narrowed := true }
def FnEnvAllUptoSaid : Prop := fnEnvAllUptoRow.holds Tryd.pinned (OpenSpec.upto fnEnvAllSpec)

/-- 'laws.FnExactEnvAll', WHERE WHAT IT READS IS OF BULK AT MOST 1048576: true; the input reads as it did. -/
def fnExactEnvAllUptoRow : OpenClaim := { program := "ytklbdfjmhbiheaadoor", sum := "80440172b4d4cc1ad6754c63344dde030a47bcfb19fd6202e3b515dc24f27d38", func := "loop.example/seedlip/laws.FnExactEnvAll", spec := "fnExactEnvAll", inPlace := ["internal/bytealg.IndexByteString", "internal/bytealg.IndexString"], unfollowed := true, recurses := true, named := ["unicode/utf8.first", "unicode/utf8.acceptRanges", "internal/bytealg.MaxLen"], apart := false, laid := [("unicode/utf8.acceptRanges", laid_unicode_utf8_acceptRanges), ("unicode/utf8.first", laid_unicode_utf8_first)], narrowed := true }
def FnExactEnvAllUptoSaid : Prop := fnExactEnvAllUptoRow.holds Tryd.pinned (OpenSpec.upto fnExactEnvAllSpec)

end Rows
end Go.Proofs.YtklbdfjmhbiheaaDoor
