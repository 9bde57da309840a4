/-
  NARROWER THAN 'FOR EVERY INPUT', by the rows' own cells (each row's printed sentence says how): FnExactTermSame: loops · FnExactTermMany: loops · FnExactTermFixed: loops.
  DERIVED. THE GIVEN ROWS OF THIS SEAT. 4 by the template 'for every input the law returns true; each argument reads behind the call as it read before'; 0 by the template 'total and deterministic' (their statements: YtfkanemjedndgaaTotals.lean).
  GIVEN WITH THE SEED: the statements are not yours to turn. If you find one false, say at which input.
  Laid BY PROGRAM, IN A SANDBOX (cutbox-rows.mjs): the forced cells as the released guide's own fill.sh prints them over the translation cc589a12b4c08fd4… (all of the seat's roots in one cut). By AI agents, Wed Nov 11 2026. No macro, syntax, notation, axiom, sorry.
-/
import Derived.Test.YtfkanemjedndgaaChecked
import GoSem.Claim
import GoSem.ClaimJoined
import GoSem.ClaimMapViews
import Derived.JoinedTies
import Derived.KernelRfl
namespace Go.Proofs.Ytfkanemjedndgaa
/- THE CELL 'sum', in the pinned program and in every row, IS THE sha256 OF THE DUMP (.gsa) THAT YtfkanemjedndgaaProg.lean LOADS. Nothing in Lean hashes anything: it is a label: what it is worth is what the hold of that sum in a sandbox is worth. -/
noncomputable def Try.pinned : Pinned := { name := "ytfkanemjedndgaa", sum := "cc589a12b4c08fd4053ccfd86db555044550d4437cca355c044c775660cd48ab", checked := Try.checked }
namespace Rows
def none {H : Type} : Left H := { results := [], args := [] }

/-- 'laws.FnExactTermSame': WHATEVER THE INPUT: true; the input reads as it did. -/
def fnExactTermSameSpec : ChangeSpec := { name := "fnExactTermSame", fn := fun _ => fun
  | [d1, d2] => { results := [.lit (.bool true)], args := [d1, d2] }
  | _ => none }
def fnExactTermSameRow : OpenClaim := { program := "ytfkanemjedndgaa", sum := "cc589a12b4c08fd4053ccfd86db555044550d4437cca355c044c775660cd48ab", func := "loop.example/seedlip/laws.FnExactTermSame", spec := "fnExactTermSame", unfollowed := true, recurses := true, loops := true, apart := false }
def FnExactTermSameSaid : Prop := fnExactTermSameRow.holds Try.pinned (OpenSpec.ofChange fnExactTermSameSpec)

/-- ITS FALSE NEIGHBOUR: 'it returns false'. Refute it at one input. -/
def fnExactTermSameWrong : ChangeSpec := { name := "fnExactTermSame", fn := fun _ => fun
  | [d1, d2] => { results := [.lit (.bool false)], args := [d1, d2] }
  | _ => none }
def FnExactTermSameWrongFalsely : Prop := fnExactTermSameRow.holds Try.pinned (OpenSpec.ofChange fnExactTermSameWrong)

/-- 'laws.FnExactTermMany': WHATEVER THE INPUT: true; the input reads as it did. -/
def fnExactTermManySpec : ChangeSpec := { name := "fnExactTermMany", fn := fun _ => fun
  | [d] => { results := [.lit (.bool true)], args := [d] }
  | _ => none }
def fnExactTermManyRow : OpenClaim := { program := "ytfkanemjedndgaa", sum := "cc589a12b4c08fd4053ccfd86db555044550d4437cca355c044c775660cd48ab", func := "loop.example/seedlip/laws.FnExactTermMany", spec := "fnExactTermMany", recurses := true, loops := true, apart := false }
def FnExactTermManySaid : Prop := fnExactTermManyRow.holds Try.pinned (OpenSpec.ofChange fnExactTermManySpec)

/-- ITS FALSE NEIGHBOUR: 'it returns false'. Refute it at one input. -/
def fnExactTermManyWrong : ChangeSpec := { name := "fnExactTermMany", fn := fun _ => fun
  | [d] => { results := [.lit (.bool false)], args := [d] }
  | _ => none }
def FnExactTermManyWrongFalsely : Prop := fnExactTermManyRow.holds Try.pinned (OpenSpec.ofChange fnExactTermManyWrong)

/-- 'laws.FnExactTermFixed': WHATEVER THE INPUT: true; the input reads as it did. -/
def fnExactTermFixedSpec : ChangeSpec := { name := "fnExactTermFixed", fn := fun _ => fun
  | [d] => { results := [.lit (.bool true)], args := [d] }
  | _ => none }
def fnExactTermFixedRow : OpenClaim := { program := "ytfkanemjedndgaa", sum := "cc589a12b4c08fd4053ccfd86db555044550d4437cca355c044c775660cd48ab", func := "loop.example/seedlip/laws.FnExactTermFixed", spec := "fnExactTermFixed", unfollowed := true, recurses := true, loops := true, apart := false }
def FnExactTermFixedSaid : Prop := fnExactTermFixedRow.holds Try.pinned (OpenSpec.ofChange fnExactTermFixedSpec)

/-- ITS FALSE NEIGHBOUR: 'it returns false'. Refute it at one input. -/
def fnExactTermFixedWrong : ChangeSpec := { name := "fnExactTermFixed", fn := fun _ => fun
  | [d] => { results := [.lit (.bool false)], args := [d] }
  | _ => none }
def FnExactTermFixedWrongFalsely : Prop := fnExactTermFixedRow.holds Try.pinned (OpenSpec.ofChange fnExactTermFixedWrong)

/-- 'laws.FnTermMany': WHATEVER THE INPUT: true; the input reads as it did. -/
def fnTermManySpec : ChangeSpec := { name := "fnTermMany", fn := fun _ => fun
  | [d] => { results := [.lit (.bool true)], args := [d] }
  | _ => none }
def fnTermManyRow : OpenClaim := { program := "ytfkanemjedndgaa", sum := "cc589a12b4c08fd4053ccfd86db555044550d4437cca355c044c775660cd48ab", func := "loop.example/seedlip/laws.FnTermMany", spec := "fnTermMany", recurses := true, apart := false }
def FnTermManySaid : Prop := fnTermManyRow.holds Try.pinned (OpenSpec.ofChange fnTermManySpec)

/-- ITS FALSE NEIGHBOUR: 'it returns false'. Refute it at one input. -/
def fnTermManyWrong : ChangeSpec := { name := "fnTermMany", fn := fun _ => fun
  | [d] => { results := [.lit (.bool false)], args := [d] }
  | _ => none }
def FnTermManyWrongFalsely : Prop := fnTermManyRow.holds Try.pinned (OpenSpec.ofChange fnTermManyWrong)

/- THE SECOND FORM. 'bulk': how many values and letters a reading holds, each counted each time it is reached (what is shared counts as often as it is met; a slice's spare places count too). A statement '..UptoSaid' is the law's where the arguments, and the package variables that the reading takes, are together of bulk at most 1048576: NARROWER than '..Said'. Prove '..Said' where nothing that the law and all that it calls make is longer than what came in: it says more and counts as full. Else prove '..UptoSaid'. A law counts once. -/
mutual
def uptoBulk {H : Type} : DataW H → Nat
  | .lit (.string bytes) => bytes.length + 1
  | .lit _ => 1
  | .nil => 1
  | .ptr d => uptoBulk d + 1
  | .slice elems spare => uptoBulkAll elems + uptoBulkAll spare + 1
  | .agg parts => uptoBulkAll parts + 1
  | .iface _ d => uptoBulk d + 1
  | .map entries => uptoBulkEntries entries + 1
  | .held _ => 1
def uptoBulkAll {H : Type} : List (DataW H) → Nat
  | [] => 0
  | d :: r => uptoBulk d + uptoBulkAll r
def uptoBulkEntries {H : Type} : List (Lit × DataW H) → Nat
  | [] => 0
  | x :: r => uptoBulkEntry x + uptoBulkEntries r
def uptoBulkEntry {H : Type} : Lit × DataW H → Nat
  | (.string bytes, d) => bytes.length + uptoBulk d + 1
  | (_, d) => uptoBulk d + 1
 end
def uptoSmall : (H : Type) → List (DataW H) → Bool := fun _ ds => decide (uptoBulkAll ds ≤ 1048576)
def OpenSpec.upto (s : _root_.Go.ChangeSpec) : _root_.Go.OpenSpec := { _root_.Go.OpenSpec.ofChange s with cond := some uptoSmall }

/-- 'laws.FnExactTermSame', WHERE WHAT IT READS IS OF BULK AT MOST 1048576: true; the input reads as it did. -/
def fnExactTermSameUptoRow : OpenClaim := { program := "ytfkanemjedndgaa", sum := "cc589a12b4c08fd4053ccfd86db555044550d4437cca355c044c775660cd48ab", func := "loop.example/seedlip/laws.FnExactTermSame", spec := "fnExactTermSame", unfollowed := true, recurses := true, loops := true, apart := false, narrowed := true }
def FnExactTermSameUptoSaid : Prop := fnExactTermSameUptoRow.holds Try.pinned (OpenSpec.upto fnExactTermSameSpec)

/-- 'laws.FnExactTermMany', WHERE WHAT IT READS IS OF BULK AT MOST 1048576: true; the input reads as it did. -/
def fnExactTermManyUptoRow : OpenClaim := { program := "ytfkanemjedndgaa", sum := "cc589a12b4c08fd4053ccfd86db555044550d4437cca355c044c775660cd48ab", func := "loop.example/seedlip/laws.FnExactTermMany", spec := "fnExactTermMany", recurses := true, loops := true, apart := false, narrowed := true }
def FnExactTermManyUptoSaid : Prop := fnExactTermManyUptoRow.holds Try.pinned (OpenSpec.upto fnExactTermManySpec)

/-- 'laws.FnExactTermFixed', WHERE WHAT IT READS IS OF BULK AT MOST 1048576: true; the input reads as it did. -/
def fnExactTermFixedUptoRow : OpenClaim := { program := "ytfkanemjedndgaa", sum := "cc589a12b4c08fd4053ccfd86db555044550d4437cca355c044c775660cd48ab", func := "loop.example/seedlip/laws.FnExactTermFixed", spec := "fnExactTermFixed", unfollowed := true, recurses := true, loops := true, apart := false, narrowed := true }
def FnExactTermFixedUptoSaid : Prop := fnExactTermFixedUptoRow.holds Try.pinned (OpenSpec.upto fnExactTermFixedSpec)

/-- 'laws.FnTermMany', WHERE WHAT IT READS IS OF BULK AT MOST 1048576: true; the input reads as it did. -/
def fnTermManyUptoRow : OpenClaim := { program := "ytfkanemjedndgaa", sum := "cc589a12b4c08fd4053ccfd86db555044550d4437cca355c044c775660cd48ab", func := "loop.example/seedlip/laws.FnTermMany", spec := "fnTermMany", recurses := true, apart := false, narrowed := true }
def FnTermManyUptoSaid : Prop := fnTermManyUptoRow.holds Try.pinned (OpenSpec.upto fnTermManySpec)

end Rows
end Go.Proofs.Ytfkanemjedndgaa
