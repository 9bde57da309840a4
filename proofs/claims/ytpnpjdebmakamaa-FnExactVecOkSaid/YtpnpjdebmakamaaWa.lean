import Derived.Test.YtpnpjdebmakamaaVb
namespace Go.Proofs.Ytpnpjdebmakamaa
open Go.RowKit
set_option maxHeartbeats 1000000 in
theorem walk_FnExactConstants (w : World) :
    Calls Try.prog 3 #[] w fun e w' => e = .returned (.bool true) ∧ Below w.heap.size w w' := by
  go_enter Try.func3, Try.ntmps3
  go_wp2
  go_ret
  exact ⟨rfl, Below.refl _ _⟩

set_option linter.unusedVariables false in
set_option maxHeartbeats 1000000 in
theorem walk_FnExactVecOk (a b : Int) (wa : (Lit.int .i64 a).wf = true) (wb : (Lit.int .i64 b).wf = true) (w : World) :
    Calls Try.prog 4 #[.agg #[.int .i64 a, .int .i64 b]] w fun e w' => e = .returned (.bool true) ∧ Below w.heap.size w w' := by
  clear wa wb
  go_enter Try.func4, Try.ntmps4
  go_wp2_with fail
  refine (toVec_any a b _).mono ?_; rintro e w1 ⟨rfl, hb1⟩
  have k1 := box2 hb1
  go_wp2_with fail
  refine (vecOk_spec a b _).mono ?_; rintro e w2 ⟨rfl, hb2⟩
  have k2 := keep2 hb2 k1
  clear k1
  go_wp2_with fail
  refine (toVec_any a b _).mono ?_; rintro e w3 ⟨rfl, hb3⟩
  clear k2
  go_wp2_with fail
  refine (vecOk_impl a b _).mono ?_; rintro e w4 ⟨rfl, hb4⟩
  go_wp2_with fail
  all_goals
    go_ret
    exact ⟨rfl, below_two (below_two (below_two (box2_below hb1) hb2) hb3) hb4⟩
end Go.Proofs.Ytpnpjdebmakamaa
