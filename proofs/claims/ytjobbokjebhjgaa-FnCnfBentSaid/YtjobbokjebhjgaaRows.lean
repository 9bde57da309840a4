/-
  No cell of these rows narrows 'for every input' (looked for: loops, veiled, ifaces, maps, wideKeys, modest, calm, conditions, laid).
  DERIVED. THE GIVEN ROWS OF THIS SEAT. 11 by the template 'for every input the law returns true; each argument reads behind the call as it read before'; 0 by the template 'total and deterministic' (their statements: YtjobbokjebhjgaaTotals.lean).
  GIVEN WITH THE SEED: the statements are not yours to turn. If you find one false, say at which input.
  Laid BY PROGRAM, IN A SANDBOX (cutbox-rows.mjs): the forced cells as the released guide's own fill.sh prints them over the translation 1977dba38e2a289a… (all of the seat's roots in one cut). By AI agents, Wed Nov 11 2026. No macro, syntax, notation, axiom, sorry.
-/
import Derived.Test.YtjobbokjebhjgaaChecked
import GoSem.Claim
import GoSem.ClaimJoined
import GoSem.ClaimMapViews
import Derived.JoinedTies
import Derived.KernelRfl
namespace Go.Proofs.Ytjobbokjebhjgaa
/- THE CELL 'sum', in the pinned program and in every row, IS THE sha256 OF THE DUMP (.gsa) THAT YtjobbokjebhjgaaProg.lean LOADS. Nothing in Lean hashes anything: it is a label: what it is worth is what the hold of that sum in a sandbox is worth. -/
noncomputable def Try.pinned : Pinned := { name := "ytjobbokjebhjgaa", sum := "1977dba38e2a289a9e7bba518f960cbf949e73cc9fa061f233726f867615cb8d", checked := Try.checked }
namespace Rows
def none {H : Type} : Left H := { results := [], args := [] }

/-- 'laws.FnExactClauseHas': WHATEVER THE INPUT: true; the input reads as it did. -/
def fnExactClauseHasSpec : ChangeSpec := { name := "fnExactClauseHas", fn := fun _ => fun
  | [d1, d2] => { results := [.lit (.bool true)], args := [d1, d2] }
  | _ => none }
def fnExactClauseHasRow : OpenClaim := { program := "ytjobbokjebhjgaa", sum := "1977dba38e2a289a9e7bba518f960cbf949e73cc9fa061f233726f867615cb8d", func := "loop.example/seedlip/laws.FnExactClauseHas", spec := "fnExactClauseHas", unfollowed := true, recurses := true, apart := false }
def FnExactClauseHasSaid : Prop := fnExactClauseHasRow.holds Try.pinned (OpenSpec.ofChange fnExactClauseHasSpec)

/-- ITS FALSE NEIGHBOUR: 'it returns false'. Refute it at one input. -/
def fnExactClauseHasWrong : ChangeSpec := { name := "fnExactClauseHas", fn := fun _ => fun
  | [d1, d2] => { results := [.lit (.bool false)], args := [d1, d2] }
  | _ => none }
def FnExactClauseHasWrongFalsely : Prop := fnExactClauseHasRow.holds Try.pinned (OpenSpec.ofChange fnExactClauseHasWrong)

/-- 'laws.FnClauseHas': WHATEVER THE INPUT: true; the input reads as it did. -/
def fnClauseHasSpec : ChangeSpec := { name := "fnClauseHas", fn := fun _ => fun
  | [d] => { results := [.lit (.bool true)], args := [d] }
  | _ => none }
def fnClauseHasRow : OpenClaim := { program := "ytjobbokjebhjgaa", sum := "1977dba38e2a289a9e7bba518f960cbf949e73cc9fa061f233726f867615cb8d", func := "loop.example/seedlip/laws.FnClauseHas", spec := "fnClauseHas", unfollowed := true, recurses := true, apart := false }
def FnClauseHasSaid : Prop := fnClauseHasRow.holds Try.pinned (OpenSpec.ofChange fnClauseHasSpec)

/-- ITS FALSE NEIGHBOUR: 'it returns false'. Refute it at one input. -/
def fnClauseHasWrong : ChangeSpec := { name := "fnClauseHas", fn := fun _ => fun
  | [d] => { results := [.lit (.bool false)], args := [d] }
  | _ => none }
def FnClauseHasWrongFalsely : Prop := fnClauseHasRow.holds Try.pinned (OpenSpec.ofChange fnClauseHasWrong)

/-- 'laws.FnExactCnfSame': WHATEVER THE INPUT: true; the input reads as it did. -/
def fnExactCnfSameSpec : ChangeSpec := { name := "fnExactCnfSame", fn := fun _ => fun
  | [d1, d2] => { results := [.lit (.bool true)], args := [d1, d2] }
  | _ => none }
def fnExactCnfSameRow : OpenClaim := { program := "ytjobbokjebhjgaa", sum := "1977dba38e2a289a9e7bba518f960cbf949e73cc9fa061f233726f867615cb8d", func := "loop.example/seedlip/laws.FnExactCnfSame", spec := "fnExactCnfSame", unfollowed := true, recurses := true, apart := false }
def FnExactCnfSameSaid : Prop := fnExactCnfSameRow.holds Try.pinned (OpenSpec.ofChange fnExactCnfSameSpec)

/-- ITS FALSE NEIGHBOUR: 'it returns false'. Refute it at one input. -/
def fnExactCnfSameWrong : ChangeSpec := { name := "fnExactCnfSame", fn := fun _ => fun
  | [d1, d2] => { results := [.lit (.bool false)], args := [d1, d2] }
  | _ => none }
def FnExactCnfSameWrongFalsely : Prop := fnExactCnfSameRow.holds Try.pinned (OpenSpec.ofChange fnExactCnfSameWrong)

/-- 'laws.FnExactCnfOk': WHATEVER THE INPUT: true; the input reads as it did. -/
def fnExactCnfOkSpec : ChangeSpec := { name := "fnExactCnfOk", fn := fun _ => fun
  | [d] => { results := [.lit (.bool true)], args := [d] }
  | _ => none }
def fnExactCnfOkRow : OpenClaim := { program := "ytjobbokjebhjgaa", sum := "1977dba38e2a289a9e7bba518f960cbf949e73cc9fa061f233726f867615cb8d", func := "loop.example/seedlip/laws.FnExactCnfOk", spec := "fnExactCnfOk", unfollowed := true, recurses := true, apart := false }
def FnExactCnfOkSaid : Prop := fnExactCnfOkRow.holds Try.pinned (OpenSpec.ofChange fnExactCnfOkSpec)

/-- ITS FALSE NEIGHBOUR: 'it returns false'. Refute it at one input. -/
def fnExactCnfOkWrong : ChangeSpec := { name := "fnExactCnfOk", fn := fun _ => fun
  | [d] => { results := [.lit (.bool false)], args := [d] }
  | _ => none }
def FnExactCnfOkWrongFalsely : Prop := fnExactCnfOkRow.holds Try.pinned (OpenSpec.ofChange fnExactCnfOkWrong)

/-- 'laws.FnExactSatSame': WHATEVER THE INPUT: true; the input reads as it did. -/
def fnExactSatSameSpec : ChangeSpec := { name := "fnExactSatSame", fn := fun _ => fun
  | [d1, d2] => { results := [.lit (.bool true)], args := [d1, d2] }
  | _ => none }
def fnExactSatSameRow : OpenClaim := { program := "ytjobbokjebhjgaa", sum := "1977dba38e2a289a9e7bba518f960cbf949e73cc9fa061f233726f867615cb8d", func := "loop.example/seedlip/laws.FnExactSatSame", spec := "fnExactSatSame", unfollowed := true, recurses := true, apart := false }
def FnExactSatSameSaid : Prop := fnExactSatSameRow.holds Try.pinned (OpenSpec.ofChange fnExactSatSameSpec)

/-- ITS FALSE NEIGHBOUR: 'it returns false'. Refute it at one input. -/
def fnExactSatSameWrong : ChangeSpec := { name := "fnExactSatSame", fn := fun _ => fun
  | [d1, d2] => { results := [.lit (.bool false)], args := [d1, d2] }
  | _ => none }
def FnExactSatSameWrongFalsely : Prop := fnExactSatSameRow.holds Try.pinned (OpenSpec.ofChange fnExactSatSameWrong)

/-- 'laws.FnCnfBent': WHATEVER THE INPUT: true; the input reads as it did. -/
def fnCnfBentSpec : ChangeSpec := { name := "fnCnfBent", fn := fun _ => fun
  | [d] => { results := [.lit (.bool true)], args := [d] }
  | _ => none }
def fnCnfBentRow : OpenClaim := { program := "ytjobbokjebhjgaa", sum := "1977dba38e2a289a9e7bba518f960cbf949e73cc9fa061f233726f867615cb8d", func := "loop.example/seedlip/laws.FnCnfBent", spec := "fnCnfBent", unfollowed := true, recurses := true, apart := false }
def FnCnfBentSaid : Prop := fnCnfBentRow.holds Try.pinned (OpenSpec.ofChange fnCnfBentSpec)

/-- ITS FALSE NEIGHBOUR: 'it returns false'. Refute it at one input. -/
def fnCnfBentWrong : ChangeSpec := { name := "fnCnfBent", fn := fun _ => fun
  | [d] => { results := [.lit (.bool false)], args := [d] }
  | _ => none }
def FnCnfBentWrongFalsely : Prop := fnCnfBentRow.holds Try.pinned (OpenSpec.ofChange fnCnfBentWrong)

/-- 'laws.FnExactCnfHas': WHATEVER THE INPUT: true; the input reads as it did. -/
def fnExactCnfHasSpec : ChangeSpec := { name := "fnExactCnfHas", fn := fun _ => fun
  | [d1, d2] => { results := [.lit (.bool true)], args := [d1, d2] }
  | _ => none }
def fnExactCnfHasRow : OpenClaim := { program := "ytjobbokjebhjgaa", sum := "1977dba38e2a289a9e7bba518f960cbf949e73cc9fa061f233726f867615cb8d", func := "loop.example/seedlip/laws.FnExactCnfHas", spec := "fnExactCnfHas", unfollowed := true, recurses := true, apart := false }
def FnExactCnfHasSaid : Prop := fnExactCnfHasRow.holds Try.pinned (OpenSpec.ofChange fnExactCnfHasSpec)

/-- ITS FALSE NEIGHBOUR: 'it returns false'. Refute it at one input. -/
def fnExactCnfHasWrong : ChangeSpec := { name := "fnExactCnfHas", fn := fun _ => fun
  | [d1, d2] => { results := [.lit (.bool false)], args := [d1, d2] }
  | _ => none }
def FnExactCnfHasWrongFalsely : Prop := fnExactCnfHasRow.holds Try.pinned (OpenSpec.ofChange fnExactCnfHasWrong)

/-- 'laws.FnCnfHas': WHATEVER THE INPUT: true; the input reads as it did. -/
def fnCnfHasSpec : ChangeSpec := { name := "fnCnfHas", fn := fun _ => fun
  | [d] => { results := [.lit (.bool true)], args := [d] }
  | _ => none }
def fnCnfHasRow : OpenClaim := { program := "ytjobbokjebhjgaa", sum := "1977dba38e2a289a9e7bba518f960cbf949e73cc9fa061f233726f867615cb8d", func := "loop.example/seedlip/laws.FnCnfHas", spec := "fnCnfHas", unfollowed := true, recurses := true, apart := false }
def FnCnfHasSaid : Prop := fnCnfHasRow.holds Try.pinned (OpenSpec.ofChange fnCnfHasSpec)

/-- ITS FALSE NEIGHBOUR: 'it returns false'. Refute it at one input. -/
def fnCnfHasWrong : ChangeSpec := { name := "fnCnfHas", fn := fun _ => fun
  | [d] => { results := [.lit (.bool false)], args := [d] }
  | _ => none }
def FnCnfHasWrongFalsely : Prop := fnCnfHasRow.holds Try.pinned (OpenSpec.ofChange fnCnfHasWrong)

/-- 'laws.FnCnfLeast': WHATEVER THE INPUT: true; the input reads as it did. -/
def fnCnfLeastSpec : ChangeSpec := { name := "fnCnfLeast", fn := fun _ => fun
  | [d] => { results := [.lit (.bool true)], args := [d] }
  | _ => none }
def fnCnfLeastRow : OpenClaim := { program := "ytjobbokjebhjgaa", sum := "1977dba38e2a289a9e7bba518f960cbf949e73cc9fa061f233726f867615cb8d", func := "loop.example/seedlip/laws.FnCnfLeast", spec := "fnCnfLeast", unfollowed := true, recurses := true, apart := false }
def FnCnfLeastSaid : Prop := fnCnfLeastRow.holds Try.pinned (OpenSpec.ofChange fnCnfLeastSpec)

/-- ITS FALSE NEIGHBOUR: 'it returns false'. Refute it at one input. -/
def fnCnfLeastWrong : ChangeSpec := { name := "fnCnfLeast", fn := fun _ => fun
  | [d] => { results := [.lit (.bool false)], args := [d] }
  | _ => none }
def FnCnfLeastWrongFalsely : Prop := fnCnfLeastRow.holds Try.pinned (OpenSpec.ofChange fnCnfLeastWrong)

/-- 'laws.FnCnfMore': WHATEVER THE INPUT: true; the input reads as it did. -/
def fnCnfMoreSpec : ChangeSpec := { name := "fnCnfMore", fn := fun _ => fun
  | [d1, d2] => { results := [.lit (.bool true)], args := [d1, d2] }
  | _ => none }
def fnCnfMoreRow : OpenClaim := { program := "ytjobbokjebhjgaa", sum := "1977dba38e2a289a9e7bba518f960cbf949e73cc9fa061f233726f867615cb8d", func := "loop.example/seedlip/laws.FnCnfMore", spec := "fnCnfMore", unfollowed := true, recurses := true, apart := false }
def FnCnfMoreSaid : Prop := fnCnfMoreRow.holds Try.pinned (OpenSpec.ofChange fnCnfMoreSpec)

/-- ITS FALSE NEIGHBOUR: 'it returns false'. Refute it at one input. -/
def fnCnfMoreWrong : ChangeSpec := { name := "fnCnfMore", fn := fun _ => fun
  | [d1, d2] => { results := [.lit (.bool false)], args := [d1, d2] }
  | _ => none }
def FnCnfMoreWrongFalsely : Prop := fnCnfMoreRow.holds Try.pinned (OpenSpec.ofChange fnCnfMoreWrong)

/-- 'laws.FnExactCnfLeast': WHATEVER THE INPUT: true; the input reads as it did. -/
def fnExactCnfLeastSpec : ChangeSpec := { name := "fnExactCnfLeast", fn := fun _ => fun
  | [d] => { results := [.lit (.bool true)], args := [d] }
  | _ => none }
def fnExactCnfLeastRow : OpenClaim := { program := "ytjobbokjebhjgaa", sum := "1977dba38e2a289a9e7bba518f960cbf949e73cc9fa061f233726f867615cb8d", func := "loop.example/seedlip/laws.FnExactCnfLeast", spec := "fnExactCnfLeast", unfollowed := true, recurses := true, apart := false }
def FnExactCnfLeastSaid : Prop := fnExactCnfLeastRow.holds Try.pinned (OpenSpec.ofChange fnExactCnfLeastSpec)

/-- ITS FALSE NEIGHBOUR: 'it returns false'. Refute it at one input. -/
def fnExactCnfLeastWrong : ChangeSpec := { name := "fnExactCnfLeast", fn := fun _ => fun
  | [d] => { results := [.lit (.bool false)], args := [d] }
  | _ => none }
def FnExactCnfLeastWrongFalsely : Prop := fnExactCnfLeastRow.holds Try.pinned (OpenSpec.ofChange fnExactCnfLeastWrong)

/- THE SECOND FORM. 'bulk': how many values and letters a reading holds, each counted each time it is reached (what is shared counts as often as it is met; a slice's spare places count too). A statement '..UptoSaid' is the law's where the arguments, and the package variables that the reading takes, are together of bulk at most 1048576: NARROWER than '..Said'. Prove '..Said' where nothing that the law and all that it calls make is longer than what came in: it says more and counts as full. Else prove '..UptoSaid'. A law counts once. -/
mutual
def uptoBulk {H : Type} : DataW H → Nat
  | .lit (.string bytes) => bytes.length + 1
  | .lit _ => 1
  | .nil => 1
  | .ptr d => uptoBulk d + 1
  | .slice elems spare => uptoBulkAll elems + uptoBulkAll spare + 1
  | .agg parts => uptoBulkAll parts + 1
  | .iface _ d => uptoBulk d + 1
  | .map entries => uptoBulkEntries entries + 1
  | .held _ => 1
def uptoBulkAll {H : Type} : List (DataW H) → Nat
  | [] => 0
  | d :: r => uptoBulk d + uptoBulkAll r
def uptoBulkEntries {H : Type} : List (Lit × DataW H) → Nat
  | [] => 0
  | x :: r => uptoBulkEntry x + uptoBulkEntries r
def uptoBulkEntry {H : Type} : Lit × DataW H → Nat
  | (.string bytes, d) => bytes.length + uptoBulk d + 1
  | (_, d) => uptoBulk d + 1
 end
def uptoSmall : (H : Type) → List (DataW H) → Bool := fun _ ds => decide (uptoBulkAll ds ≤ 1048576)
def OpenSpec.upto (s : _root_.Go.ChangeSpec) : _root_.Go.OpenSpec := { _root_.Go.OpenSpec.ofChange s with cond := some uptoSmall }

/-- 'laws.FnExactClauseHas', WHERE WHAT IT READS IS OF BULK AT MOST 1048576: true; the input reads as it did. -/
def fnExactClauseHasUptoRow : OpenClaim := { program := "ytjobbokjebhjgaa", sum := "1977dba38e2a289a9e7bba518f960cbf949e73cc9fa061f233726f867615cb8d", func := "loop.example/seedlip/laws.FnExactClauseHas", spec := "fnExactClauseHas", unfollowed := true, recurses := true, apart := false, narrowed := true }
def FnExactClauseHasUptoSaid : Prop := fnExactClauseHasUptoRow.holds Try.pinned (OpenSpec.upto fnExactClauseHasSpec)

/-- 'laws.FnClauseHas', WHERE WHAT IT READS IS OF BULK AT MOST 1048576: true; the input reads as it did. -/
def fnClauseHasUptoRow : OpenClaim := { program := "ytjobbokjebhjgaa", sum := "1977dba38e2a289a9e7bba518f960cbf949e73cc9fa061f233726f867615cb8d", func := "loop.example/seedlip/laws.FnClauseHas", spec := "fnClauseHas", unfollowed := true, recurses := true, apart := false, narrowed := true }
def FnClauseHasUptoSaid : Prop := fnClauseHasUptoRow.holds Try.pinned (OpenSpec.upto fnClauseHasSpec)

/-- 'laws.FnExactCnfSame', WHERE WHAT IT READS IS OF BULK AT MOST 1048576: true; the input reads as it did. -/
def fnExactCnfSameUptoRow : OpenClaim := { program := "ytjobbokjebhjgaa", sum := "1977dba38e2a289a9e7bba518f960cbf949e73cc9fa061f233726f867615cb8d", func := "loop.example/seedlip/laws.FnExactCnfSame", spec := "fnExactCnfSame", unfollowed := true, recurses := true, apart := false, narrowed := true }
def FnExactCnfSameUptoSaid : Prop := fnExactCnfSameUptoRow.holds Try.pinned (OpenSpec.upto fnExactCnfSameSpec)

/-- 'laws.FnExactCnfOk', WHERE WHAT IT READS IS OF BULK AT MOST 1048576: true; the input reads as it did. -/
def fnExactCnfOkUptoRow : OpenClaim := { program := "ytjobbokjebhjgaa", sum := "1977dba38e2a289a9e7bba518f960cbf949e73cc9fa061f233726f867615cb8d", func := "loop.example/seedlip/laws.FnExactCnfOk", spec := "fnExactCnfOk", unfollowed := true, recurses := true, apart := false, narrowed := true }
def FnExactCnfOkUptoSaid : Prop := fnExactCnfOkUptoRow.holds Try.pinned (OpenSpec.upto fnExactCnfOkSpec)

/-- 'laws.FnExactSatSame', WHERE WHAT IT READS IS OF BULK AT MOST 1048576: true; the input reads as it did. -/
def fnExactSatSameUptoRow : OpenClaim := { program := "ytjobbokjebhjgaa", sum := "1977dba38e2a289a9e7bba518f960cbf949e73cc9fa061f233726f867615cb8d", func := "loop.example/seedlip/laws.FnExactSatSame", spec := "fnExactSatSame", unfollowed := true, recurses := true, apart := false, narrowed := true }
def FnExactSatSameUptoSaid : Prop := fnExactSatSameUptoRow.holds Try.pinned (OpenSpec.upto fnExactSatSameSpec)

/-- 'laws.FnCnfBent', WHERE WHAT IT READS IS OF BULK AT MOST 1048576: true; the input reads as it did. -/
def fnCnfBentUptoRow : OpenClaim := { program := "ytjobbokjebhjgaa", sum := "1977dba38e2a289a9e7bba518f960cbf949e73cc9fa061f233726f867615cb8d", func := "loop.example/seedlip/laws.FnCnfBent", spec := "fnCnfBent", unfollowed := true, recurses := true, apart := false, narrowed := true }
def FnCnfBentUptoSaid : Prop := fnCnfBentUptoRow.holds Try.pinned (OpenSpec.upto fnCnfBentSpec)

/-- 'laws.FnExactCnfHas', WHERE WHAT IT READS IS OF BULK AT MOST 1048576: true; the input reads as it did. -/
def fnExactCnfHasUptoRow : OpenClaim := { program := "ytjobbokjebhjgaa", sum := "1977dba38e2a289a9e7bba518f960cbf949e73cc9fa061f233726f867615cb8d", func := "loop.example/seedlip/laws.FnExactCnfHas", spec := "fnExactCnfHas", unfollowed := true, recurses := true, apart := false, narrowed := true }
def FnExactCnfHasUptoSaid : Prop := fnExactCnfHasUptoRow.holds Try.pinned (OpenSpec.upto fnExactCnfHasSpec)

/-- 'laws.FnCnfHas', WHERE WHAT IT READS IS OF BULK AT MOST 1048576: true; the input reads as it did. -/
def fnCnfHasUptoRow : OpenClaim := { program := "ytjobbokjebhjgaa", sum := "1977dba38e2a289a9e7bba518f960cbf949e73cc9fa061f233726f867615cb8d", func := "loop.example/seedlip/laws.FnCnfHas", spec := "fnCnfHas", unfollowed := true, recurses := true, apart := false, narrowed := true }
def FnCnfHasUptoSaid : Prop := fnCnfHasUptoRow.holds Try.pinned (OpenSpec.upto fnCnfHasSpec)

/-- 'laws.FnCnfLeast', WHERE WHAT IT READS IS OF BULK AT MOST 1048576: true; the input reads as it did. -/
def fnCnfLeastUptoRow : OpenClaim := { program := "ytjobbokjebhjgaa", sum := "1977dba38e2a289a9e7bba518f960cbf949e73cc9fa061f233726f867615cb8d", func := "loop.example/seedlip/laws.FnCnfLeast", spec := "fnCnfLeast", unfollowed := true, recurses := true, apart := false, narrowed := true }
def FnCnfLeastUptoSaid : Prop := fnCnfLeastUptoRow.holds Try.pinned (OpenSpec.upto fnCnfLeastSpec)

/-- 'laws.FnCnfMore', WHERE WHAT IT READS IS OF BULK AT MOST 1048576: true; the input reads as it did. -/
def fnCnfMoreUptoRow : OpenClaim := { program := "ytjobbokjebhjgaa", sum := "1977dba38e2a289a9e7bba518f960cbf949e73cc9fa061f233726f867615cb8d", func := "loop.example/seedlip/laws.FnCnfMore", spec := "fnCnfMore", unfollowed := true, recurses := true, apart := false, narrowed := true }
def FnCnfMoreUptoSaid : Prop := fnCnfMoreUptoRow.holds Try.pinned (OpenSpec.upto fnCnfMoreSpec)

/-- 'laws.FnExactCnfLeast', WHERE WHAT IT READS IS OF BULK AT MOST 1048576: true; the input reads as it did. -/
def fnExactCnfLeastUptoRow : OpenClaim := { program := "ytjobbokjebhjgaa", sum := "1977dba38e2a289a9e7bba518f960cbf949e73cc9fa061f233726f867615cb8d", func := "loop.example/seedlip/laws.FnExactCnfLeast", spec := "fnExactCnfLeast", unfollowed := true, recurses := true, apart := false, narrowed := true }
def FnExactCnfLeastUptoSaid : Prop := fnExactCnfLeastUptoRow.holds Try.pinned (OpenSpec.upto fnExactCnfLeastSpec)

end Rows
end Go.Proofs.Ytjobbokjebhjgaa
