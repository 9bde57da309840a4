/-
  No cell of these rows narrows 'for every input' (looked for: loops, veiled, ifaces, maps, wideKeys, modest, calm, conditions, laid).
  DERIVED. THE GIVEN ROWS OF THIS SEAT. 18 by the template 'for every input the law returns true; each argument reads behind the call as it read before'; 0 by the template 'total and deterministic' (their statements: YtpnpjdebmakamaaTotals.lean).
  GIVEN WITH THE SEED: the statements are not yours to turn. If you find one false, say at which input.
  Laid BY PROGRAM, IN A SANDBOX (cutbox-rows.mjs): the forced cells as the released guide's own fill.sh prints them over the translation 7fc9bf93d945124d… (all of the seat's roots in one cut). By AI agents, Wed Nov 11 2026. No macro, syntax, notation, axiom, sorry.
-/
import Derived.Test.YtpnpjdebmakamaaChecked
import GoSem.Claim
import GoSem.ClaimJoined
import GoSem.ClaimMapViews
import Derived.JoinedTies
import Derived.KernelRfl
namespace Go.Proofs.Ytpnpjdebmakamaa
/- THE CELL 'sum', in the pinned program and in every row, IS THE sha256 OF THE DUMP (.gsa) THAT YtpnpjdebmakamaaProg.lean LOADS. Nothing in Lean hashes anything: it is a label: what it is worth is what the hold of that sum in a sandbox is worth. -/
noncomputable def Try.pinned : Pinned := { name := "ytpnpjdebmakamaa", sum := "7fc9bf93d945124d1a2df19c08b4784a3cd769db9218a9acab9ca1f46b242943", checked := Try.checked }
namespace Rows
def none {H : Type} : Left H := { results := [], args := [] }

/-- 'laws.FnExactConstants': WHATEVER THE INPUT: true; the input reads as it did. -/
def fnExactConstantsSpec : ChangeSpec := { name := "fnExactConstants", fn := fun _ => fun
  | [] => { results := [.lit (.bool true)], args := [] }
  | _ => none }
def fnExactConstantsRow : OpenClaim := { program := "ytpnpjdebmakamaa", sum := "7fc9bf93d945124d1a2df19c08b4784a3cd769db9218a9acab9ca1f46b242943", func := "loop.example/seedlip/laws.FnExactConstants", spec := "fnExactConstants", apart := false }
def FnExactConstantsSaid : Prop := fnExactConstantsRow.holds Try.pinned (OpenSpec.ofChange fnExactConstantsSpec)

/-- ITS FALSE NEIGHBOUR: 'it returns false'. Refute it at one input. -/
def fnExactConstantsWrong : ChangeSpec := { name := "fnExactConstants", fn := fun _ => fun
  | [] => { results := [.lit (.bool false)], args := [] }
  | _ => none }
def FnExactConstantsWrongFalsely : Prop := fnExactConstantsRow.holds Try.pinned (OpenSpec.ofChange fnExactConstantsWrong)

/-- 'laws.FnExactVecOk': WHATEVER THE INPUT: true; the input reads as it did. -/
def fnExactVecOkSpec : ChangeSpec := { name := "fnExactVecOk", fn := fun _ => fun
  | [d] => { results := [.lit (.bool true)], args := [d] }
  | _ => none }
def fnExactVecOkRow : OpenClaim := { program := "ytpnpjdebmakamaa", sum := "7fc9bf93d945124d1a2df19c08b4784a3cd769db9218a9acab9ca1f46b242943", func := "loop.example/seedlip/laws.FnExactVecOk", spec := "fnExactVecOk", apart := false }
def FnExactVecOkSaid : Prop := fnExactVecOkRow.holds Try.pinned (OpenSpec.ofChange fnExactVecOkSpec)

/-- ITS FALSE NEIGHBOUR: 'it returns false'. Refute it at one input. -/
def fnExactVecOkWrong : ChangeSpec := { name := "fnExactVecOk", fn := fun _ => fun
  | [d] => { results := [.lit (.bool false)], args := [d] }
  | _ => none }
def FnExactVecOkWrongFalsely : Prop := fnExactVecOkRow.holds Try.pinned (OpenSpec.ofChange fnExactVecOkWrong)

/-- 'laws.FnExactVecRead': WHATEVER THE INPUT: true; the input reads as it did. -/
def fnExactVecReadSpec : ChangeSpec := { name := "fnExactVecRead", fn := fun _ => fun
  | [d] => { results := [.lit (.bool true)], args := [d] }
  | _ => none }
def fnExactVecReadRow : OpenClaim := { program := "ytpnpjdebmakamaa", sum := "7fc9bf93d945124d1a2df19c08b4784a3cd769db9218a9acab9ca1f46b242943", func := "loop.example/seedlip/laws.FnExactVecRead", spec := "fnExactVecRead", apart := false }
def FnExactVecReadSaid : Prop := fnExactVecReadRow.holds Try.pinned (OpenSpec.ofChange fnExactVecReadSpec)

/-- ITS FALSE NEIGHBOUR: 'it returns false'. Refute it at one input. -/
def fnExactVecReadWrong : ChangeSpec := { name := "fnExactVecRead", fn := fun _ => fun
  | [d] => { results := [.lit (.bool false)], args := [d] }
  | _ => none }
def FnExactVecReadWrongFalsely : Prop := fnExactVecReadRow.holds Try.pinned (OpenSpec.ofChange fnExactVecReadWrong)

/-- 'laws.FnExactVecSigned': WHATEVER THE INPUT: true; the input reads as it did. -/
def fnExactVecSignedSpec : ChangeSpec := { name := "fnExactVecSigned", fn := fun _ => fun
  | [d] => { results := [.lit (.bool true)], args := [d] }
  | _ => none }
def fnExactVecSignedRow : OpenClaim := { program := "ytpnpjdebmakamaa", sum := "7fc9bf93d945124d1a2df19c08b4784a3cd769db9218a9acab9ca1f46b242943", func := "loop.example/seedlip/laws.FnExactVecSigned", spec := "fnExactVecSigned", apart := false }
def FnExactVecSignedSaid : Prop := fnExactVecSignedRow.holds Try.pinned (OpenSpec.ofChange fnExactVecSignedSpec)

/-- ITS FALSE NEIGHBOUR: 'it returns false'. Refute it at one input. -/
def fnExactVecSignedWrong : ChangeSpec := { name := "fnExactVecSigned", fn := fun _ => fun
  | [d] => { results := [.lit (.bool false)], args := [d] }
  | _ => none }
def FnExactVecSignedWrongFalsely : Prop := fnExactVecSignedRow.holds Try.pinned (OpenSpec.ofChange fnExactVecSignedWrong)

/-- 'laws.FnExactVecCut': WHATEVER THE INPUT: true; the input reads as it did. -/
def fnExactVecCutSpec : ChangeSpec := { name := "fnExactVecCut", fn := fun _ => fun
  | [d1, d2, d3] => { results := [.lit (.bool true)], args := [d1, d2, d3] }
  | _ => none }
def fnExactVecCutRow : OpenClaim := { program := "ytpnpjdebmakamaa", sum := "7fc9bf93d945124d1a2df19c08b4784a3cd769db9218a9acab9ca1f46b242943", func := "loop.example/seedlip/laws.FnExactVecCut", spec := "fnExactVecCut", apart := false }
def FnExactVecCutSaid : Prop := fnExactVecCutRow.holds Try.pinned (OpenSpec.ofChange fnExactVecCutSpec)

/-- ITS FALSE NEIGHBOUR: 'it returns false'. Refute it at one input. -/
def fnExactVecCutWrong : ChangeSpec := { name := "fnExactVecCut", fn := fun _ => fun
  | [d1, d2, d3] => { results := [.lit (.bool false)], args := [d1, d2, d3] }
  | _ => none }
def FnExactVecCutWrongFalsely : Prop := fnExactVecCutRow.holds Try.pinned (OpenSpec.ofChange fnExactVecCutWrong)

/-- 'laws.FnExactVecText': WHATEVER THE INPUT: true; the input reads as it did. -/
def fnExactVecTextSpec : ChangeSpec := { name := "fnExactVecText", fn := fun _ => fun
  | [d] => { results := [.lit (.bool true)], args := [d] }
  | _ => none }
def fnExactVecTextRow : OpenClaim := { program := "ytpnpjdebmakamaa", sum := "7fc9bf93d945124d1a2df19c08b4784a3cd769db9218a9acab9ca1f46b242943", func := "loop.example/seedlip/laws.FnExactVecText", spec := "fnExactVecText", recurses := true, apart := false }
def FnExactVecTextSaid : Prop := fnExactVecTextRow.holds Try.pinned (OpenSpec.ofChange fnExactVecTextSpec)

/-- ITS FALSE NEIGHBOUR: 'it returns false'. Refute it at one input. -/
def fnExactVecTextWrong : ChangeSpec := { name := "fnExactVecText", fn := fun _ => fun
  | [d] => { results := [.lit (.bool false)], args := [d] }
  | _ => none }
def FnExactVecTextWrongFalsely : Prop := fnExactVecTextRow.holds Try.pinned (OpenSpec.ofChange fnExactVecTextWrong)

/-- 'laws.FnExactVecUn': WHATEVER THE INPUT: true; the input reads as it did. -/
def fnExactVecUnSpec : ChangeSpec := { name := "fnExactVecUn", fn := fun _ => fun
  | [d1, d2] => { results := [.lit (.bool true)], args := [d1, d2] }
  | _ => none }
def fnExactVecUnRow : OpenClaim := { program := "ytpnpjdebmakamaa", sum := "7fc9bf93d945124d1a2df19c08b4784a3cd769db9218a9acab9ca1f46b242943", func := "loop.example/seedlip/laws.FnExactVecUn", spec := "fnExactVecUn", apart := false }
def FnExactVecUnSaid : Prop := fnExactVecUnRow.holds Try.pinned (OpenSpec.ofChange fnExactVecUnSpec)

/-- ITS FALSE NEIGHBOUR: 'it returns false'. Refute it at one input. -/
def fnExactVecUnWrong : ChangeSpec := { name := "fnExactVecUn", fn := fun _ => fun
  | [d1, d2] => { results := [.lit (.bool false)], args := [d1, d2] }
  | _ => none }
def FnExactVecUnWrongFalsely : Prop := fnExactVecUnRow.holds Try.pinned (OpenSpec.ofChange fnExactVecUnWrong)

/-- 'laws.FnExactVecCmp': WHATEVER THE INPUT: true; the input reads as it did. -/
def fnExactVecCmpSpec : ChangeSpec := { name := "fnExactVecCmp", fn := fun _ => fun
  | [d1, d2, d3] => { results := [.lit (.bool true)], args := [d1, d2, d3] }
  | _ => none }
def fnExactVecCmpRow : OpenClaim := { program := "ytpnpjdebmakamaa", sum := "7fc9bf93d945124d1a2df19c08b4784a3cd769db9218a9acab9ca1f46b242943", func := "loop.example/seedlip/laws.FnExactVecCmp", spec := "fnExactVecCmp", apart := false }
def FnExactVecCmpSaid : Prop := fnExactVecCmpRow.holds Try.pinned (OpenSpec.ofChange fnExactVecCmpSpec)

/-- ITS FALSE NEIGHBOUR: 'it returns false'. Refute it at one input. -/
def fnExactVecCmpWrong : ChangeSpec := { name := "fnExactVecCmp", fn := fun _ => fun
  | [d1, d2, d3] => { results := [.lit (.bool false)], args := [d1, d2, d3] }
  | _ => none }
def FnExactVecCmpWrongFalsely : Prop := fnExactVecCmpRow.holds Try.pinned (OpenSpec.ofChange fnExactVecCmpWrong)

/-- 'laws.FnVecCmp': WHATEVER THE INPUT: true; the input reads as it did. -/
def fnVecCmpSpec : ChangeSpec := { name := "fnVecCmp", fn := fun _ => fun
  | [d] => { results := [.lit (.bool true)], args := [d] }
  | _ => none }
def fnVecCmpRow : OpenClaim := { program := "ytpnpjdebmakamaa", sum := "7fc9bf93d945124d1a2df19c08b4784a3cd769db9218a9acab9ca1f46b242943", func := "loop.example/seedlip/laws.FnVecCmp", spec := "fnVecCmp", apart := false }
def FnVecCmpSaid : Prop := fnVecCmpRow.holds Try.pinned (OpenSpec.ofChange fnVecCmpSpec)

/-- ITS FALSE NEIGHBOUR: 'it returns false'. Refute it at one input. -/
def fnVecCmpWrong : ChangeSpec := { name := "fnVecCmp", fn := fun _ => fun
  | [d] => { results := [.lit (.bool false)], args := [d] }
  | _ => none }
def FnVecCmpWrongFalsely : Prop := fnVecCmpRow.holds Try.pinned (OpenSpec.ofChange fnVecCmpWrong)

/-- 'laws.FnVecCut': WHATEVER THE INPUT: true; the input reads as it did. -/
def fnVecCutSpec : ChangeSpec := { name := "fnVecCut", fn := fun _ => fun
  | [d] => { results := [.lit (.bool true)], args := [d] }
  | _ => none }
def fnVecCutRow : OpenClaim := { program := "ytpnpjdebmakamaa", sum := "7fc9bf93d945124d1a2df19c08b4784a3cd769db9218a9acab9ca1f46b242943", func := "loop.example/seedlip/laws.FnVecCut", spec := "fnVecCut", unfollowed := true, recurses := true, apart := false }
def FnVecCutSaid : Prop := fnVecCutRow.holds Try.pinned (OpenSpec.ofChange fnVecCutSpec)

/-- ITS FALSE NEIGHBOUR: 'it returns false'. Refute it at one input. -/
def fnVecCutWrong : ChangeSpec := { name := "fnVecCut", fn := fun _ => fun
  | [d] => { results := [.lit (.bool false)], args := [d] }
  | _ => none }
def FnVecCutWrongFalsely : Prop := fnVecCutRow.holds Try.pinned (OpenSpec.ofChange fnVecCutWrong)

/-- 'laws.FnVec': WHATEVER THE INPUT: true; the input reads as it did. -/
def fnVecSpec : ChangeSpec := { name := "fnVec", fn := fun _ => fun
  | [d1, d2] => { results := [.lit (.bool true)], args := [d1, d2] }
  | _ => none }
def fnVecRow : OpenClaim := { program := "ytpnpjdebmakamaa", sum := "7fc9bf93d945124d1a2df19c08b4784a3cd769db9218a9acab9ca1f46b242943", func := "loop.example/seedlip/laws.FnVec", spec := "fnVec", recurses := true, apart := false }
def FnVecSaid : Prop := fnVecRow.holds Try.pinned (OpenSpec.ofChange fnVecSpec)

/-- ITS FALSE NEIGHBOUR: 'it returns false'. Refute it at one input. -/
def fnVecWrong : ChangeSpec := { name := "fnVec", fn := fun _ => fun
  | [d1, d2] => { results := [.lit (.bool false)], args := [d1, d2] }
  | _ => none }
def FnVecWrongFalsely : Prop := fnVecRow.holds Try.pinned (OpenSpec.ofChange fnVecWrong)

/-- 'laws.FnVecUn': WHATEVER THE INPUT: true; the input reads as it did. -/
def fnVecUnSpec : ChangeSpec := { name := "fnVecUn", fn := fun _ => fun
  | [d] => { results := [.lit (.bool true)], args := [d] }
  | _ => none }
def fnVecUnRow : OpenClaim := { program := "ytpnpjdebmakamaa", sum := "7fc9bf93d945124d1a2df19c08b4784a3cd769db9218a9acab9ca1f46b242943", func := "loop.example/seedlip/laws.FnVecUn", spec := "fnVecUn", unfollowed := true, recurses := true, apart := false }
def FnVecUnSaid : Prop := fnVecUnRow.holds Try.pinned (OpenSpec.ofChange fnVecUnSpec)

/-- ITS FALSE NEIGHBOUR: 'it returns false'. Refute it at one input. -/
def fnVecUnWrong : ChangeSpec := { name := "fnVecUn", fn := fun _ => fun
  | [d] => { results := [.lit (.bool false)], args := [d] }
  | _ => none }
def FnVecUnWrongFalsely : Prop := fnVecUnRow.holds Try.pinned (OpenSpec.ofChange fnVecUnWrong)

/-- 'laws.FnExactVecBin': WHATEVER THE INPUT: true; the input reads as it did. -/
def fnExactVecBinSpec : ChangeSpec := { name := "fnExactVecBin", fn := fun _ => fun
  | [d1, d2, d3] => { results := [.lit (.bool true)], args := [d1, d2, d3] }
  | _ => none }
def fnExactVecBinRow : OpenClaim := { program := "ytpnpjdebmakamaa", sum := "7fc9bf93d945124d1a2df19c08b4784a3cd769db9218a9acab9ca1f46b242943", func := "loop.example/seedlip/laws.FnExactVecBin", spec := "fnExactVecBin", unfollowed := true, recurses := true, apart := false }
def FnExactVecBinSaid : Prop := fnExactVecBinRow.holds Try.pinned (OpenSpec.ofChange fnExactVecBinSpec)

/-- ITS FALSE NEIGHBOUR: 'it returns false'. Refute it at one input. -/
def fnExactVecBinWrong : ChangeSpec := { name := "fnExactVecBin", fn := fun _ => fun
  | [d1, d2, d3] => { results := [.lit (.bool false)], args := [d1, d2, d3] }
  | _ => none }
def FnExactVecBinWrongFalsely : Prop := fnExactVecBinRow.holds Try.pinned (OpenSpec.ofChange fnExactVecBinWrong)

/-- 'laws.FnVecCat': WHATEVER THE INPUT: true; the input reads as it did. -/
def fnVecCatSpec : ChangeSpec := { name := "fnVecCat", fn := fun _ => fun
  | [d1, d2] => { results := [.lit (.bool true)], args := [d1, d2] }
  | _ => none }
def fnVecCatRow : OpenClaim := { program := "ytpnpjdebmakamaa", sum := "7fc9bf93d945124d1a2df19c08b4784a3cd769db9218a9acab9ca1f46b242943", func := "loop.example/seedlip/laws.FnVecCat", spec := "fnVecCat", unfollowed := true, recurses := true, apart := false }
def FnVecCatSaid : Prop := fnVecCatRow.holds Try.pinned (OpenSpec.ofChange fnVecCatSpec)

/-- ITS FALSE NEIGHBOUR: 'it returns false'. Refute it at one input. -/
def fnVecCatWrong : ChangeSpec := { name := "fnVecCat", fn := fun _ => fun
  | [d1, d2] => { results := [.lit (.bool false)], args := [d1, d2] }
  | _ => none }
def FnVecCatWrongFalsely : Prop := fnVecCatRow.holds Try.pinned (OpenSpec.ofChange fnVecCatWrong)

/-- 'laws.FnVecRing': WHATEVER THE INPUT: true; the input reads as it did. -/
def fnVecRingSpec : ChangeSpec := { name := "fnVecRing", fn := fun _ => fun
  | [d1, d2] => { results := [.lit (.bool true)], args := [d1, d2] }
  | _ => none }
def fnVecRingRow : OpenClaim := { program := "ytpnpjdebmakamaa", sum := "7fc9bf93d945124d1a2df19c08b4784a3cd769db9218a9acab9ca1f46b242943", func := "loop.example/seedlip/laws.FnVecRing", spec := "fnVecRing", unfollowed := true, recurses := true, apart := false }
def FnVecRingSaid : Prop := fnVecRingRow.holds Try.pinned (OpenSpec.ofChange fnVecRingSpec)

/-- ITS FALSE NEIGHBOUR: 'it returns false'. Refute it at one input. -/
def fnVecRingWrong : ChangeSpec := { name := "fnVecRing", fn := fun _ => fun
  | [d1, d2] => { results := [.lit (.bool false)], args := [d1, d2] }
  | _ => none }
def FnVecRingWrongFalsely : Prop := fnVecRingRow.holds Try.pinned (OpenSpec.ofChange fnVecRingWrong)

/-- 'laws.FnVecBits': WHATEVER THE INPUT: true; the input reads as it did. -/
def fnVecBitsSpec : ChangeSpec := { name := "fnVecBits", fn := fun _ => fun
  | [d] => { results := [.lit (.bool true)], args := [d] }
  | _ => none }
def fnVecBitsRow : OpenClaim := { program := "ytpnpjdebmakamaa", sum := "7fc9bf93d945124d1a2df19c08b4784a3cd769db9218a9acab9ca1f46b242943", func := "loop.example/seedlip/laws.FnVecBits", spec := "fnVecBits", unfollowed := true, recurses := true, apart := false }
def FnVecBitsSaid : Prop := fnVecBitsRow.holds Try.pinned (OpenSpec.ofChange fnVecBitsSpec)

/-- ITS FALSE NEIGHBOUR: 'it returns false'. Refute it at one input. -/
def fnVecBitsWrong : ChangeSpec := { name := "fnVecBits", fn := fun _ => fun
  | [d] => { results := [.lit (.bool false)], args := [d] }
  | _ => none }
def FnVecBitsWrongFalsely : Prop := fnVecBitsRow.holds Try.pinned (OpenSpec.ofChange fnVecBitsWrong)

/-- 'laws.FnVecDiv': WHATEVER THE INPUT: true; the input reads as it did. -/
def fnVecDivSpec : ChangeSpec := { name := "fnVecDiv", fn := fun _ => fun
  | [d] => { results := [.lit (.bool true)], args := [d] }
  | _ => none }
def fnVecDivRow : OpenClaim := { program := "ytpnpjdebmakamaa", sum := "7fc9bf93d945124d1a2df19c08b4784a3cd769db9218a9acab9ca1f46b242943", func := "loop.example/seedlip/laws.FnVecDiv", spec := "fnVecDiv", unfollowed := true, recurses := true, apart := false }
def FnVecDivSaid : Prop := fnVecDivRow.holds Try.pinned (OpenSpec.ofChange fnVecDivSpec)

/-- ITS FALSE NEIGHBOUR: 'it returns false'. Refute it at one input. -/
def fnVecDivWrong : ChangeSpec := { name := "fnVecDiv", fn := fun _ => fun
  | [d] => { results := [.lit (.bool false)], args := [d] }
  | _ => none }
def FnVecDivWrongFalsely : Prop := fnVecDivRow.holds Try.pinned (OpenSpec.ofChange fnVecDivWrong)

/-- 'laws.FnVecShift': WHATEVER THE INPUT: true; the input reads as it did. -/
def fnVecShiftSpec : ChangeSpec := { name := "fnVecShift", fn := fun _ => fun
  | [d] => { results := [.lit (.bool true)], args := [d] }
  | _ => none }
def fnVecShiftRow : OpenClaim := { program := "ytpnpjdebmakamaa", sum := "7fc9bf93d945124d1a2df19c08b4784a3cd769db9218a9acab9ca1f46b242943", func := "loop.example/seedlip/laws.FnVecShift", spec := "fnVecShift", unfollowed := true, recurses := true, apart := false }
def FnVecShiftSaid : Prop := fnVecShiftRow.holds Try.pinned (OpenSpec.ofChange fnVecShiftSpec)

/-- ITS FALSE NEIGHBOUR: 'it returns false'. Refute it at one input. -/
def fnVecShiftWrong : ChangeSpec := { name := "fnVecShift", fn := fun _ => fun
  | [d] => { results := [.lit (.bool false)], args := [d] }
  | _ => none }
def FnVecShiftWrongFalsely : Prop := fnVecShiftRow.holds Try.pinned (OpenSpec.ofChange fnVecShiftWrong)

/- THE SECOND FORM. 'bulk': how many values and letters a reading holds, each counted each time it is reached (what is shared counts as often as it is met; a slice's spare places count too). A statement '..UptoSaid' is the law's where the arguments, and the package variables that the reading takes, are together of bulk at most 1048576: NARROWER than '..Said'. Prove '..Said' where nothing that the law and all that it calls make is longer than what came in: it says more and counts as full. Else prove '..UptoSaid'. A law counts once. -/
mutual
def uptoBulk {H : Type} : DataW H → Nat
  | .lit (.string bytes) => bytes.length + 1
  | .lit _ => 1
  | .nil => 1
  | .ptr d => uptoBulk d + 1
  | .slice elems spare => uptoBulkAll elems + uptoBulkAll spare + 1
  | .agg parts => uptoBulkAll parts + 1
  | .iface _ d => uptoBulk d + 1
  | .map entries => uptoBulkEntries entries + 1
  | .held _ => 1
def uptoBulkAll {H : Type} : List (DataW H) → Nat
  | [] => 0
  | d :: r => uptoBulk d + uptoBulkAll r
def uptoBulkEntries {H : Type} : List (Lit × DataW H) → Nat
  | [] => 0
  | x :: r => uptoBulkEntry x + uptoBulkEntries r
def uptoBulkEntry {H : Type} : Lit × DataW H → Nat
  | (.string bytes, d) => bytes.length + uptoBulk d + 1
  | (_, d) => uptoBulk d + 1
 end
def uptoSmall : (H : Type) → List (DataW H) → Bool := fun _ ds => decide (uptoBulkAll ds ≤ 1048576)
def OpenSpec.upto (s : _root_.Go.ChangeSpec) : _root_.Go.OpenSpec := { _root_.Go.OpenSpec.ofChange s with cond := some uptoSmall }

/-- 'laws.FnExactConstants', WHERE WHAT IT READS IS OF BULK AT MOST 1048576: true; the input reads as it did. -/
def fnExactConstantsUptoRow : OpenClaim := { program := "ytpnpjdebmakamaa", sum := "7fc9bf93d945124d1a2df19c08b4784a3cd769db9218a9acab9ca1f46b242943", func := "loop.example/seedlip/laws.FnExactConstants", spec := "fnExactConstants", apart := false, narrowed := true }
def FnExactConstantsUptoSaid : Prop := fnExactConstantsUptoRow.holds Try.pinned (OpenSpec.upto fnExactConstantsSpec)

/-- 'laws.FnExactVecOk', WHERE WHAT IT READS IS OF BULK AT MOST 1048576: true; the input reads as it did. -/
def fnExactVecOkUptoRow : OpenClaim := { program := "ytpnpjdebmakamaa", sum := "7fc9bf93d945124d1a2df19c08b4784a3cd769db9218a9acab9ca1f46b242943", func := "loop.example/seedlip/laws.FnExactVecOk", spec := "fnExactVecOk", apart := false, narrowed := true }
def FnExactVecOkUptoSaid : Prop := fnExactVecOkUptoRow.holds Try.pinned (OpenSpec.upto fnExactVecOkSpec)

/-- 'laws.FnExactVecRead', WHERE WHAT IT READS IS OF BULK AT MOST 1048576: true; the input reads as it did. -/
def fnExactVecReadUptoRow : OpenClaim := { program := "ytpnpjdebmakamaa", sum := "7fc9bf93d945124d1a2df19c08b4784a3cd769db9218a9acab9ca1f46b242943", func := "loop.example/seedlip/laws.FnExactVecRead", spec := "fnExactVecRead", apart := false, narrowed := true }
def FnExactVecReadUptoSaid : Prop := fnExactVecReadUptoRow.holds Try.pinned (OpenSpec.upto fnExactVecReadSpec)

/-- 'laws.FnExactVecSigned', WHERE WHAT IT READS IS OF BULK AT MOST 1048576: true; the input reads as it did. -/
def fnExactVecSignedUptoRow : OpenClaim := { program := "ytpnpjdebmakamaa", sum := "7fc9bf93d945124d1a2df19c08b4784a3cd769db9218a9acab9ca1f46b242943", func := "loop.example/seedlip/laws.FnExactVecSigned", spec := "fnExactVecSigned", apart := false, narrowed := true }
def FnExactVecSignedUptoSaid : Prop := fnExactVecSignedUptoRow.holds Try.pinned (OpenSpec.upto fnExactVecSignedSpec)

/-- 'laws.FnExactVecCut', WHERE WHAT IT READS IS OF BULK AT MOST 1048576: true; the input reads as it did. -/
def fnExactVecCutUptoRow : OpenClaim := { program := "ytpnpjdebmakamaa", sum := "7fc9bf93d945124d1a2df19c08b4784a3cd769db9218a9acab9ca1f46b242943", func := "loop.example/seedlip/laws.FnExactVecCut", spec := "fnExactVecCut", apart := false, narrowed := true }
def FnExactVecCutUptoSaid : Prop := fnExactVecCutUptoRow.holds Try.pinned (OpenSpec.upto fnExactVecCutSpec)

/-- 'laws.FnExactVecText', WHERE WHAT IT READS IS OF BULK AT MOST 1048576: true; the input reads as it did. -/
def fnExactVecTextUptoRow : OpenClaim := { program := "ytpnpjdebmakamaa", sum := "7fc9bf93d945124d1a2df19c08b4784a3cd769db9218a9acab9ca1f46b242943", func := "loop.example/seedlip/laws.FnExactVecText", spec := "fnExactVecText", recurses := true, apart := false, narrowed := true }
def FnExactVecTextUptoSaid : Prop := fnExactVecTextUptoRow.holds Try.pinned (OpenSpec.upto fnExactVecTextSpec)

/-- 'laws.FnExactVecUn', WHERE WHAT IT READS IS OF BULK AT MOST 1048576: true; the input reads as it did. -/
def fnExactVecUnUptoRow : OpenClaim := { program := "ytpnpjdebmakamaa", sum := "7fc9bf93d945124d1a2df19c08b4784a3cd769db9218a9acab9ca1f46b242943", func := "loop.example/seedlip/laws.FnExactVecUn", spec := "fnExactVecUn", apart := false, narrowed := true }
def FnExactVecUnUptoSaid : Prop := fnExactVecUnUptoRow.holds Try.pinned (OpenSpec.upto fnExactVecUnSpec)

/-- 'laws.FnExactVecCmp', WHERE WHAT IT READS IS OF BULK AT MOST 1048576: true; the input reads as it did. -/
def fnExactVecCmpUptoRow : OpenClaim := { program := "ytpnpjdebmakamaa", sum := "7fc9bf93d945124d1a2df19c08b4784a3cd769db9218a9acab9ca1f46b242943", func := "loop.example/seedlip/laws.FnExactVecCmp", spec := "fnExactVecCmp", apart := false, narrowed := true }
def FnExactVecCmpUptoSaid : Prop := fnExactVecCmpUptoRow.holds Try.pinned (OpenSpec.upto fnExactVecCmpSpec)

/-- 'laws.FnVecCmp', WHERE WHAT IT READS IS OF BULK AT MOST 1048576: true; the input reads as it did. -/
def fnVecCmpUptoRow : OpenClaim := { program := "ytpnpjdebmakamaa", sum := "7fc9bf93d945124d1a2df19c08b4784a3cd769db9218a9acab9ca1f46b242943", func := "loop.example/seedlip/laws.FnVecCmp", spec := "fnVecCmp", apart := false, narrowed := true }
def FnVecCmpUptoSaid : Prop := fnVecCmpUptoRow.holds Try.pinned (OpenSpec.upto fnVecCmpSpec)

/-- 'laws.FnVecCut', WHERE WHAT IT READS IS OF BULK AT MOST 1048576: true; the input reads as it did. -/
def fnVecCutUptoRow : OpenClaim := { program := "ytpnpjdebmakamaa", sum := "7fc9bf93d945124d1a2df19c08b4784a3cd769db9218a9acab9ca1f46b242943", func := "loop.example/seedlip/laws.FnVecCut", spec := "fnVecCut", unfollowed := true, recurses := true, apart := false, narrowed := true }
def FnVecCutUptoSaid : Prop := fnVecCutUptoRow.holds Try.pinned (OpenSpec.upto fnVecCutSpec)

/-- 'laws.FnVec', WHERE WHAT IT READS IS OF BULK AT MOST 1048576: true; the input reads as it did. -/
def fnVecUptoRow : OpenClaim := { program := "ytpnpjdebmakamaa", sum := "7fc9bf93d945124d1a2df19c08b4784a3cd769db9218a9acab9ca1f46b242943", func := "loop.example/seedlip/laws.FnVec", spec := "fnVec", recurses := true, apart := false, narrowed := true }
def FnVecUptoSaid : Prop := fnVecUptoRow.holds Try.pinned (OpenSpec.upto fnVecSpec)

/-- 'laws.FnVecUn', WHERE WHAT IT READS IS OF BULK AT MOST 1048576: true; the input reads as it did. -/
def fnVecUnUptoRow : OpenClaim := { program := "ytpnpjdebmakamaa", sum := "7fc9bf93d945124d1a2df19c08b4784a3cd769db9218a9acab9ca1f46b242943", func := "loop.example/seedlip/laws.FnVecUn", spec := "fnVecUn", unfollowed := true, recurses := true, apart := false, narrowed := true }
def FnVecUnUptoSaid : Prop := fnVecUnUptoRow.holds Try.pinned (OpenSpec.upto fnVecUnSpec)

/-- 'laws.FnExactVecBin', WHERE WHAT IT READS IS OF BULK AT MOST 1048576: true; the input reads as it did. -/
def fnExactVecBinUptoRow : OpenClaim := { program := "ytpnpjdebmakamaa", sum := "7fc9bf93d945124d1a2df19c08b4784a3cd769db9218a9acab9ca1f46b242943", func := "loop.example/seedlip/laws.FnExactVecBin", spec := "fnExactVecBin", unfollowed := true, recurses := true, apart := false, narrowed := true }
def FnExactVecBinUptoSaid : Prop := fnExactVecBinUptoRow.holds Try.pinned (OpenSpec.upto fnExactVecBinSpec)

/-- 'laws.FnVecCat', WHERE WHAT IT READS IS OF BULK AT MOST 1048576: true; the input reads as it did. -/
def fnVecCatUptoRow : OpenClaim := { program := "ytpnpjdebmakamaa", sum := "7fc9bf93d945124d1a2df19c08b4784a3cd769db9218a9acab9ca1f46b242943", func := "loop.example/seedlip/laws.FnVecCat", spec := "fnVecCat", unfollowed := true, recurses := true, apart := false, narrowed := true }
def FnVecCatUptoSaid : Prop := fnVecCatUptoRow.holds Try.pinned (OpenSpec.upto fnVecCatSpec)

/-- 'laws.FnVecRing', WHERE WHAT IT READS IS OF BULK AT MOST 1048576: true; the input reads as it did. -/
def fnVecRingUptoRow : OpenClaim := { program := "ytpnpjdebmakamaa", sum := "7fc9bf93d945124d1a2df19c08b4784a3cd769db9218a9acab9ca1f46b242943", func := "loop.example/seedlip/laws.FnVecRing", spec := "fnVecRing", unfollowed := true, recurses := true, apart := false, narrowed := true }
def FnVecRingUptoSaid : Prop := fnVecRingUptoRow.holds Try.pinned (OpenSpec.upto fnVecRingSpec)

/-- 'laws.FnVecBits', WHERE WHAT IT READS IS OF BULK AT MOST 1048576: true; the input reads as it did. -/
def fnVecBitsUptoRow : OpenClaim := { program := "ytpnpjdebmakamaa", sum := "7fc9bf93d945124d1a2df19c08b4784a3cd769db9218a9acab9ca1f46b242943", func := "loop.example/seedlip/laws.FnVecBits", spec := "fnVecBits", unfollowed := true, recurses := true, apart := false, narrowed := true }
def FnVecBitsUptoSaid : Prop := fnVecBitsUptoRow.holds Try.pinned (OpenSpec.upto fnVecBitsSpec)

/-- 'laws.FnVecDiv', WHERE WHAT IT READS IS OF BULK AT MOST 1048576: true; the input reads as it did. -/
def fnVecDivUptoRow : OpenClaim := { program := "ytpnpjdebmakamaa", sum := "7fc9bf93d945124d1a2df19c08b4784a3cd769db9218a9acab9ca1f46b242943", func := "loop.example/seedlip/laws.FnVecDiv", spec := "fnVecDiv", unfollowed := true, recurses := true, apart := false, narrowed := true }
def FnVecDivUptoSaid : Prop := fnVecDivUptoRow.holds Try.pinned (OpenSpec.upto fnVecDivSpec)

/-- 'laws.FnVecShift', WHERE WHAT IT READS IS OF BULK AT MOST 1048576: true; the input reads as it did. -/
def fnVecShiftUptoRow : OpenClaim := { program := "ytpnpjdebmakamaa", sum := "7fc9bf93d945124d1a2df19c08b4784a3cd769db9218a9acab9ca1f46b242943", func := "loop.example/seedlip/laws.FnVecShift", spec := "fnVecShift", unfollowed := true, recurses := true, apart := false, narrowed := true }
def FnVecShiftUptoSaid : Prop := fnVecShiftUptoRow.holds Try.pinned (OpenSpec.upto fnVecShiftSpec)

end Rows
end Go.Proofs.Ytpnpjdebmakamaa
