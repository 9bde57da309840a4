/-
  No cell of these rows narrows 'for every input' (looked for: loops, veiled, ifaces, maps, wideKeys, modest, calm, conditions, laid).
  DERIVED. THE GIVEN ROWS OF THIS SEAT. 8 by the template 'for every input the law returns true; each argument reads behind the call as it read before'; 0 by the template 'total and deterministic' (their statements: YteeaafdgkepaeaaTotals.lean).
  GIVEN WITH THE SEED: the statements are not yours to turn. If you find one false, say at which input.
  Laid BY PROGRAM, IN A SANDBOX (cutbox-rows.mjs): the forced cells as the released guide's own fill.sh prints them over the translation 2b4ca10105c3ac9d… (all of the seat's roots in one cut). By AI agents, Wed Nov 11 2026. No macro, syntax, notation, axiom, sorry.
-/
import Derived.Test.YteeaafdgkepaeaaChecked
import GoSem.Claim
import GoSem.ClaimJoined
import GoSem.ClaimMapViews
import Derived.JoinedTies
import Derived.KernelRfl
namespace Go.Proofs.Yteeaafdgkepaeaa
/- THE CELL 'sum', in the pinned program and in every row, IS THE sha256 OF THE DUMP (.gsa) THAT YteeaafdgkepaeaaProg.lean LOADS. Nothing in Lean hashes anything: it is a label: what it is worth is what the hold of that sum in a sandbox is worth. -/
noncomputable def Try.pinned : Pinned := { name := "yteeaafdgkepaeaa", sum := "2b4ca10105c3ac9dec2c1239e4549bd08381235bb2021d6d5a0d827d8a7ce332", checked := Try.checked }
namespace Rows
def none {H : Type} : Left H := { results := [], args := [] }

/-- 'laws.FnExactNetLit': WHATEVER THE INPUT: true; the input reads as it did. -/
def fnExactNetLitSpec : ChangeSpec := { name := "fnExactNetLit", fn := fun _ => fun
  | [d1, d2] => { results := [.lit (.bool true)], args := [d1, d2] }
  | _ => none }
def fnExactNetLitRow : OpenClaim := { program := "yteeaafdgkepaeaa", sum := "2b4ca10105c3ac9dec2c1239e4549bd08381235bb2021d6d5a0d827d8a7ce332", func := "loop.example/seedlip/laws.FnExactNetLit", spec := "fnExactNetLit", plainKeys := false, apart := false }
def FnExactNetLitSaid : Prop := fnExactNetLitRow.holds Try.pinned (OpenSpec.ofChange fnExactNetLitSpec)

/-- ITS FALSE NEIGHBOUR: 'it returns false'. Refute it at one input. -/
def fnExactNetLitWrong : ChangeSpec := { name := "fnExactNetLit", fn := fun _ => fun
  | [d1, d2] => { results := [.lit (.bool false)], args := [d1, d2] }
  | _ => none }
def FnExactNetLitWrongFalsely : Prop := fnExactNetLitRow.holds Try.pinned (OpenSpec.ofChange fnExactNetLitWrong)

/-- 'laws.FnNetLit': WHATEVER THE INPUT: true; the input reads as it did. -/
def fnNetLitSpec : ChangeSpec := { name := "fnNetLit", fn := fun _ => fun
  | [d] => { results := [.lit (.bool true)], args := [d] }
  | _ => none }
def fnNetLitRow : OpenClaim := { program := "yteeaafdgkepaeaa", sum := "2b4ca10105c3ac9dec2c1239e4549bd08381235bb2021d6d5a0d827d8a7ce332", func := "loop.example/seedlip/laws.FnNetLit", spec := "fnNetLit", unfollowed := true, recurses := true, plainKeys := false, apart := false }
def FnNetLitSaid : Prop := fnNetLitRow.holds Try.pinned (OpenSpec.ofChange fnNetLitSpec)

/-- ITS FALSE NEIGHBOUR: 'it returns false'. Refute it at one input. -/
def fnNetLitWrong : ChangeSpec := { name := "fnNetLit", fn := fun _ => fun
  | [d] => { results := [.lit (.bool false)], args := [d] }
  | _ => none }
def FnNetLitWrongFalsely : Prop := fnNetLitRow.holds Try.pinned (OpenSpec.ofChange fnNetLitWrong)

/-- 'laws.FnExactNetSame': WHATEVER THE INPUT: true; the input reads as it did. -/
def fnExactNetSameSpec : ChangeSpec := { name := "fnExactNetSame", fn := fun _ => fun
  | [d1, d2] => { results := [.lit (.bool true)], args := [d1, d2] }
  | _ => none }
def fnExactNetSameRow : OpenClaim := { program := "yteeaafdgkepaeaa", sum := "2b4ca10105c3ac9dec2c1239e4549bd08381235bb2021d6d5a0d827d8a7ce332", func := "loop.example/seedlip/laws.FnExactNetSame", spec := "fnExactNetSame", plainKeys := false, apart := false }
def FnExactNetSameSaid : Prop := fnExactNetSameRow.holds Try.pinned (OpenSpec.ofChange fnExactNetSameSpec)

/-- ITS FALSE NEIGHBOUR: 'it returns false'. Refute it at one input. -/
def fnExactNetSameWrong : ChangeSpec := { name := "fnExactNetSame", fn := fun _ => fun
  | [d1, d2] => { results := [.lit (.bool false)], args := [d1, d2] }
  | _ => none }
def FnExactNetSameWrongFalsely : Prop := fnExactNetSameRow.holds Try.pinned (OpenSpec.ofChange fnExactNetSameWrong)

/-- 'laws.FnExactNetOk': WHATEVER THE INPUT: true; the input reads as it did. -/
def fnExactNetOkSpec : ChangeSpec := { name := "fnExactNetOk", fn := fun _ => fun
  | [d] => { results := [.lit (.bool true)], args := [d] }
  | _ => none }
def fnExactNetOkRow : OpenClaim := { program := "yteeaafdgkepaeaa", sum := "2b4ca10105c3ac9dec2c1239e4549bd08381235bb2021d6d5a0d827d8a7ce332", func := "loop.example/seedlip/laws.FnExactNetOk", spec := "fnExactNetOk", plainKeys := false, apart := false }
def FnExactNetOkSaid : Prop := fnExactNetOkRow.holds Try.pinned (OpenSpec.ofChange fnExactNetOkSpec)

/-- ITS FALSE NEIGHBOUR: 'it returns false'. Refute it at one input. -/
def fnExactNetOkWrong : ChangeSpec := { name := "fnExactNetOk", fn := fun _ => fun
  | [d] => { results := [.lit (.bool false)], args := [d] }
  | _ => none }
def FnExactNetOkWrongFalsely : Prop := fnExactNetOkRow.holds Try.pinned (OpenSpec.ofChange fnExactNetOkWrong)

/-- 'laws.FnNetBent': WHATEVER THE INPUT: true; the input reads as it did. -/
def fnNetBentSpec : ChangeSpec := { name := "fnNetBent", fn := fun _ => fun
  | [d] => { results := [.lit (.bool true)], args := [d] }
  | _ => none }
def fnNetBentRow : OpenClaim := { program := "yteeaafdgkepaeaa", sum := "2b4ca10105c3ac9dec2c1239e4549bd08381235bb2021d6d5a0d827d8a7ce332", func := "loop.example/seedlip/laws.FnNetBent", spec := "fnNetBent", plainKeys := false, apart := false }
def FnNetBentSaid : Prop := fnNetBentRow.holds Try.pinned (OpenSpec.ofChange fnNetBentSpec)

/-- ITS FALSE NEIGHBOUR: 'it returns false'. Refute it at one input. -/
def fnNetBentWrong : ChangeSpec := { name := "fnNetBent", fn := fun _ => fun
  | [d] => { results := [.lit (.bool false)], args := [d] }
  | _ => none }
def FnNetBentWrongFalsely : Prop := fnNetBentRow.holds Try.pinned (OpenSpec.ofChange fnNetBentWrong)

/-- 'laws.FnExactNetVals': WHATEVER THE INPUT: true; the input reads as it did. -/
def fnExactNetValsSpec : ChangeSpec := { name := "fnExactNetVals", fn := fun _ => fun
  | [d1, d2] => { results := [.lit (.bool true)], args := [d1, d2] }
  | _ => none }
def fnExactNetValsRow : OpenClaim := { program := "yteeaafdgkepaeaa", sum := "2b4ca10105c3ac9dec2c1239e4549bd08381235bb2021d6d5a0d827d8a7ce332", func := "loop.example/seedlip/laws.FnExactNetVals", spec := "fnExactNetVals", plainKeys := false, apart := false }
def FnExactNetValsSaid : Prop := fnExactNetValsRow.holds Try.pinned (OpenSpec.ofChange fnExactNetValsSpec)

/-- ITS FALSE NEIGHBOUR: 'it returns false'. Refute it at one input. -/
def fnExactNetValsWrong : ChangeSpec := { name := "fnExactNetVals", fn := fun _ => fun
  | [d1, d2] => { results := [.lit (.bool false)], args := [d1, d2] }
  | _ => none }
def FnExactNetValsWrongFalsely : Prop := fnExactNetValsRow.holds Try.pinned (OpenSpec.ofChange fnExactNetValsWrong)

/-- 'laws.FnExactNetCnf': WHATEVER THE INPUT: true; the input reads as it did. -/
def fnExactNetCnfSpec : ChangeSpec := { name := "fnExactNetCnf", fn := fun _ => fun
  | [d] => { results := [.lit (.bool true)], args := [d] }
  | _ => none }
def fnExactNetCnfRow : OpenClaim := { program := "yteeaafdgkepaeaa", sum := "2b4ca10105c3ac9dec2c1239e4549bd08381235bb2021d6d5a0d827d8a7ce332", func := "loop.example/seedlip/laws.FnExactNetCnf", spec := "fnExactNetCnf", plainKeys := false, apart := false }
def FnExactNetCnfSaid : Prop := fnExactNetCnfRow.holds Try.pinned (OpenSpec.ofChange fnExactNetCnfSpec)

/-- ITS FALSE NEIGHBOUR: 'it returns false'. Refute it at one input. -/
def fnExactNetCnfWrong : ChangeSpec := { name := "fnExactNetCnf", fn := fun _ => fun
  | [d] => { results := [.lit (.bool false)], args := [d] }
  | _ => none }
def FnExactNetCnfWrongFalsely : Prop := fnExactNetCnfRow.holds Try.pinned (OpenSpec.ofChange fnExactNetCnfWrong)

/-- 'laws.FnNetVals': WHATEVER THE INPUT: true; the input reads as it did. -/
def fnNetValsSpec : ChangeSpec := { name := "fnNetVals", fn := fun _ => fun
  | [d] => { results := [.lit (.bool true)], args := [d] }
  | _ => none }
def fnNetValsRow : OpenClaim := { program := "yteeaafdgkepaeaa", sum := "2b4ca10105c3ac9dec2c1239e4549bd08381235bb2021d6d5a0d827d8a7ce332", func := "loop.example/seedlip/laws.FnNetVals", spec := "fnNetVals", plainKeys := false, apart := false }
def FnNetValsSaid : Prop := fnNetValsRow.holds Try.pinned (OpenSpec.ofChange fnNetValsSpec)

/-- ITS FALSE NEIGHBOUR: 'it returns false'. Refute it at one input. -/
def fnNetValsWrong : ChangeSpec := { name := "fnNetVals", fn := fun _ => fun
  | [d] => { results := [.lit (.bool false)], args := [d] }
  | _ => none }
def FnNetValsWrongFalsely : Prop := fnNetValsRow.holds Try.pinned (OpenSpec.ofChange fnNetValsWrong)

/- THE SECOND FORM. 'bulk': how many values and letters a reading holds, each counted each time it is reached (what is shared counts as often as it is met; a slice's spare places count too). A statement '..UptoSaid' is the law's where the arguments, and the package variables that the reading takes, are together of bulk at most 1048576: NARROWER than '..Said'. Prove '..Said' where nothing that the law and all that it calls make is longer than what came in: it says more and counts as full. Else prove '..UptoSaid'. A law counts once. -/
mutual
def uptoBulk {H : Type} : DataW H → Nat
  | .lit (.string bytes) => bytes.length + 1
  | .lit _ => 1
  | .nil => 1
  | .ptr d => uptoBulk d + 1
  | .slice elems spare => uptoBulkAll elems + uptoBulkAll spare + 1
  | .agg parts => uptoBulkAll parts + 1
  | .iface _ d => uptoBulk d + 1
  | .map entries => uptoBulkEntries entries + 1
  | .held _ => 1
def uptoBulkAll {H : Type} : List (DataW H) → Nat
  | [] => 0
  | d :: r => uptoBulk d + uptoBulkAll r
def uptoBulkEntries {H : Type} : List (Lit × DataW H) → Nat
  | [] => 0
  | x :: r => uptoBulkEntry x + uptoBulkEntries r
def uptoBulkEntry {H : Type} : Lit × DataW H → Nat
  | (.string bytes, d) => bytes.length + uptoBulk d + 1
  | (_, d) => uptoBulk d + 1
 end
def uptoSmall : (H : Type) → List (DataW H) → Bool := fun _ ds => decide (uptoBulkAll ds ≤ 1048576)
def OpenSpec.upto (s : _root_.Go.ChangeSpec) : _root_.Go.OpenSpec := { _root_.Go.OpenSpec.ofChange s with cond := some uptoSmall }

/-- 'laws.FnExactNetLit', WHERE WHAT IT READS IS OF BULK AT MOST 1048576: true; the input reads as it did. -/
def fnExactNetLitUptoRow : OpenClaim := { program := "yteeaafdgkepaeaa", sum := "2b4ca10105c3ac9dec2c1239e4549bd08381235bb2021d6d5a0d827d8a7ce332", func := "loop.example/seedlip/laws.FnExactNetLit", spec := "fnExactNetLit", plainKeys := false, apart := false, narrowed := true }
def FnExactNetLitUptoSaid : Prop := fnExactNetLitUptoRow.holds Try.pinned (OpenSpec.upto fnExactNetLitSpec)

/-- 'laws.FnNetLit', WHERE WHAT IT READS IS OF BULK AT MOST 1048576: true; the input reads as it did. -/
def fnNetLitUptoRow : OpenClaim := { program := "yteeaafdgkepaeaa", sum := "2b4ca10105c3ac9dec2c1239e4549bd08381235bb2021d6d5a0d827d8a7ce332", func := "loop.example/seedlip/laws.FnNetLit", spec := "fnNetLit", unfollowed := true, recurses := true, plainKeys := false, apart := false, narrowed := true }
def FnNetLitUptoSaid : Prop := fnNetLitUptoRow.holds Try.pinned (OpenSpec.upto fnNetLitSpec)

/-- 'laws.FnExactNetSame', WHERE WHAT IT READS IS OF BULK AT MOST 1048576: true; the input reads as it did. -/
def fnExactNetSameUptoRow : OpenClaim := { program := "yteeaafdgkepaeaa", sum := "2b4ca10105c3ac9dec2c1239e4549bd08381235bb2021d6d5a0d827d8a7ce332", func := "loop.example/seedlip/laws.FnExactNetSame", spec := "fnExactNetSame", plainKeys := false, apart := false, narrowed := true }
def FnExactNetSameUptoSaid : Prop := fnExactNetSameUptoRow.holds Try.pinned (OpenSpec.upto fnExactNetSameSpec)

/-- 'laws.FnExactNetOk', WHERE WHAT IT READS IS OF BULK AT MOST 1048576: true; the input reads as it did. -/
def fnExactNetOkUptoRow : OpenClaim := { program := "yteeaafdgkepaeaa", sum := "2b4ca10105c3ac9dec2c1239e4549bd08381235bb2021d6d5a0d827d8a7ce332", func := "loop.example/seedlip/laws.FnExactNetOk", spec := "fnExactNetOk", plainKeys := false, apart := false, narrowed := true }
def FnExactNetOkUptoSaid : Prop := fnExactNetOkUptoRow.holds Try.pinned (OpenSpec.upto fnExactNetOkSpec)

/-- 'laws.FnNetBent', WHERE WHAT IT READS IS OF BULK AT MOST 1048576: true; the input reads as it did. -/
def fnNetBentUptoRow : OpenClaim := { program := "yteeaafdgkepaeaa", sum := "2b4ca10105c3ac9dec2c1239e4549bd08381235bb2021d6d5a0d827d8a7ce332", func := "loop.example/seedlip/laws.FnNetBent", spec := "fnNetBent", plainKeys := false, apart := false, narrowed := true }
def FnNetBentUptoSaid : Prop := fnNetBentUptoRow.holds Try.pinned (OpenSpec.upto fnNetBentSpec)

/-- 'laws.FnExactNetVals', WHERE WHAT IT READS IS OF BULK AT MOST 1048576: true; the input reads as it did. -/
def fnExactNetValsUptoRow : OpenClaim := { program := "yteeaafdgkepaeaa", sum := "2b4ca10105c3ac9dec2c1239e4549bd08381235bb2021d6d5a0d827d8a7ce332", func := "loop.example/seedlip/laws.FnExactNetVals", spec := "fnExactNetVals", plainKeys := false, apart := false, narrowed := true }
def FnExactNetValsUptoSaid : Prop := fnExactNetValsUptoRow.holds Try.pinned (OpenSpec.upto fnExactNetValsSpec)

/-- 'laws.FnExactNetCnf', WHERE WHAT IT READS IS OF BULK AT MOST 1048576: true; the input reads as it did. -/
def fnExactNetCnfUptoRow : OpenClaim := { program := "yteeaafdgkepaeaa", sum := "2b4ca10105c3ac9dec2c1239e4549bd08381235bb2021d6d5a0d827d8a7ce332", func := "loop.example/seedlip/laws.FnExactNetCnf", spec := "fnExactNetCnf", plainKeys := false, apart := false, narrowed := true }
def FnExactNetCnfUptoSaid : Prop := fnExactNetCnfUptoRow.holds Try.pinned (OpenSpec.upto fnExactNetCnfSpec)

/-- 'laws.FnNetVals', WHERE WHAT IT READS IS OF BULK AT MOST 1048576: true; the input reads as it did. -/
def fnNetValsUptoRow : OpenClaim := { program := "yteeaafdgkepaeaa", sum := "2b4ca10105c3ac9dec2c1239e4549bd08381235bb2021d6d5a0d827d8a7ce332", func := "loop.example/seedlip/laws.FnNetVals", spec := "fnNetVals", plainKeys := false, apart := false, narrowed := true }
def FnNetValsUptoSaid : Prop := fnNetValsUptoRow.holds Try.pinned (OpenSpec.upto fnNetValsSpec)

end Rows
end Go.Proofs.Yteeaafdgkepaeaa
