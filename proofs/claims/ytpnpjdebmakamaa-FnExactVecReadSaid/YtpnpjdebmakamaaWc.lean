/- The walks of FnExactVecText and FnExactVecRead: for every argument the law returns true and leaves alone what was there. -/
import Derived.Test.YtpnpjdebmakamaaVj
namespace Go.Proofs.Ytpnpjdebmakamaa
open Go.RowKit

set_option linter.unusedVariables false in
set_option maxHeartbeats 1000000 in
theorem walk_FnExactVecText (a b : Int) (wa : (Lit.int .i64 a).wf = true) (wb : (Lit.int .i64 b).wf = true) (w : World) :
    Calls Try.prog 8 #[.agg #[.int .i64 a, .int .i64 b]] w fun e w' => e = .returned (.bool true) ∧ Below w.heap.size w w' := by
  clear wa wb
  go_enter Try.func8, Try.ntmps8
  go_wp2_with fail
  refine (toVec_any a b _).mono ?_; rintro e w1 ⟨rfl, hb1⟩
  have k1 := box2 hb1
  go_wp2_with fail
  refine (vecText_spec a b _).mono ?_; rintro e w2 ⟨rfl, hb2⟩
  have k2 := keep2 hb2 k1
  clear k1
  go_wp2_with fail
  refine (toVec_any a b _).mono ?_; rintro e w3 ⟨rfl, hb3⟩
  clear k2
  go_wp2_with fail
  refine (vecText_impl a b _).mono ?_; rintro e w4 ⟨rfl, hb4⟩
  go_wp2_with fail
  all_goals
    go_ret
    exact ⟨rfl, below_two (below_two (below_two (box2_below hb1) hb2) hb3) hb4⟩

set_option maxHeartbeats 1000000 in
theorem walk_FnExactVecRead (s : ByteArray) (hs : s.size ≤ maxLen) (w : World) :
    Calls Try.prog 5 #[.string s] w fun e w' => e = .returned (.bool true) ∧ Below w.heap.size w w' := by
  unfold maxLen at hs
  by_cases hl : (1048576 : Int) < s.size
  · go_enter Try.func5, Try.ntmps5
    go_wp2_with fail
    go_ret
    exact ⟨rfl, Below.refl _ _⟩
  · go_enter Try.func5, Try.ntmps5
    go_wp2_with fail
    refine (vecRead_spec s _ (by omega)).mono ?_; rintro e w1 ⟨rfl, hb1⟩
    go_wp2_with fail
    refine (vecRead_impl s _ (by omega)).mono ?_; rintro e w2 ⟨rfl, hb2⟩
    have q := (blk_new w1 (.int .i64 (rdW s)) (.int .i64 (rdN s)) 26).keep hb2
    obtain ⟨c0, c1, hz⟩ := q.cells
    go_wp2_with fail
    refine (eqVec_any _ _ _ _ _).mono ?_; rintro e w3 ⟨rfl, hb3⟩
    go_wp2_with fail
    all_goals
      go_ret
      exact ⟨rfl, below_two (below_step (below_two (below_step hb1 _) hb2) _) hb3⟩
end Go.Proofs.Ytpnpjdebmakamaa
