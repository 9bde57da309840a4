/- The walks of FnExactVecSigned, FnExactVecUn, FnExactVecCut and FnExactVecCmp: for every argument the law returns true and leaves alone what was there. -/
import Derived.Test.YtpnpjdebmakamaaVf
namespace Go.Proofs.Ytpnpjdebmakamaa
open Go.RowKit

set_option linter.unusedVariables false in
set_option maxHeartbeats 1000000 in
theorem walk_FnExactVecSigned (a b : Int) (wa : (Lit.int .i64 a).wf = true) (wb : (Lit.int .i64 b).wf = true) (w : World) :
    Calls Try.prog 6 #[.agg #[.int .i64 a, .int .i64 b]] w fun e w' => e = .returned (.bool true) ∧ Below w.heap.size w w' := by
  clear wa wb
  go_enter Try.func6, Try.ntmps6
  go_wp2_with fail
  refine (toVec_any a b _).mono ?_; rintro e w1 ⟨rfl, hb1⟩
  have k1 := box2 hb1
  go_wp2_with fail
  refine (vecSigned_spec a b _).mono ?_; rintro e w2 ⟨rfl, hb2⟩
  have k2 := keep2 hb2 k1
  clear k1
  go_wp2_with fail
  refine (toVec_any a b _).mono ?_; rintro e w3 ⟨rfl, hb3⟩
  clear k2
  go_wp2_with fail
  refine (vecSigned_impl a b _).mono ?_; rintro e w4 ⟨rfl, hb4⟩
  go_wp2_with fail
  all_goals
    go_ret
    exact ⟨rfl, below_two (below_two (below_two (box2_below hb1) hb2) hb3) hb4⟩

set_option linter.unusedVariables false in
set_option maxHeartbeats 1000000 in
theorem walk_FnExactVecUn (op : Int) (wo : (Lit.int .i64 op).wf = true) (a b : Int) (wa : (Lit.int .i64 a).wf = true) (wb : (Lit.int .i64 b).wf = true) (w : World) :
    Calls Try.prog 9 #[.int .i64 op, .agg #[.int .i64 a, .int .i64 b]] w fun e w' => e = .returned (.bool true) ∧ Below w.heap.size w w' := by
  clear wa wb wo
  go_enter Try.func9, Try.ntmps9
  go_wp2_with fail
  refine (toVec_any a b _).mono ?_; rintro e w1 ⟨rfl, hb1⟩
  have k1 := box2 hb1
  go_wp2_with fail
  refine (vecUn_spec op a b _).mono ?_; rintro e w2 ⟨rfl, hb2⟩
  have k2 := keep2 hb2 k1
  clear k1
  go_wp2_with fail
  refine (toVec_any a b _).mono ?_; rintro e w3 ⟨rfl, hb3⟩
  clear k2
  have q3 := (blk_new w2 (.int .i64 (unW op a b)) (.int .i64 (unN op a b)) 26).keep hb3
  go_wp2_with fail
  refine (vecUn_impl op a b _).mono ?_; rintro e w4 ⟨rfl, hb4⟩
  obtain ⟨c0, c1, hz⟩ := (q3.keep hb4).cells
  go_wp2_with fail
  refine (eqVec_any _ _ _ _ _).mono ?_; rintro e w5 ⟨rfl, hb5⟩
  go_wp2_with fail
  all_goals
    go_ret
    exact ⟨rfl, below_two (below_step (below_two (below_two (below_step (below_two (box2_below hb1) hb2) _) hb3) hb4) _) hb5⟩

set_option linter.unusedVariables false in
set_option maxHeartbeats 1000000 in
theorem walk_FnExactVecCut (a b : Int) (wa : (Lit.int .i64 a).wf = true) (wb : (Lit.int .i64 b).wf = true) (hi : Int) (wh : (Lit.int .i64 hi).wf = true) (lo : Int) (wl : (Lit.int .i64 lo).wf = true) (w : World) :
    Calls Try.prog 7 #[.agg #[.int .i64 a, .int .i64 b], .int .i64 hi, .int .i64 lo] w fun e w' => e = .returned (.bool true) ∧ Below w.heap.size w w' := by
  clear wa wb wh wl
  go_enter Try.func7, Try.ntmps7
  go_wp2_with fail
  refine (toVec_any a b _).mono ?_; rintro e w1 ⟨rfl, hb1⟩
  have k1 := box2 hb1
  go_wp2_with fail
  refine (vecCut_spec a b hi lo _).mono ?_; rintro e w2 ⟨rfl, hb2⟩
  have k2 := keep2 hb2 k1
  clear k1
  go_wp2_with fail
  refine (toVec_any a b _).mono ?_; rintro e w3 ⟨rfl, hb3⟩
  clear k2
  have q3 := (blk_new w2 (.int .i64 (cutW a b hi lo)) (.int .i64 (cutN a b hi lo)) 26).keep hb3
  go_wp2_with fail
  refine (vecCut_impl a b hi lo _).mono ?_; rintro e w4 ⟨rfl, hb4⟩
  obtain ⟨c0, c1, hz⟩ := (q3.keep hb4).cells
  go_wp2_with fail
  refine (eqVec_any _ _ _ _ _).mono ?_; rintro e w5 ⟨rfl, hb5⟩
  go_wp2_with fail
  all_goals
    go_ret
    exact ⟨rfl, below_two (below_step (below_two (below_two (below_step (below_two (box2_below hb1) hb2) _) hb3) hb4) _) hb5⟩

set_option linter.unusedVariables false in
set_option maxHeartbeats 1000000 in
theorem walk_FnExactVecCmp (op : Int) (wo : (Lit.int .i64 op).wf = true) (a b : Int) (wa : (Lit.int .i64 a).wf = true) (wb : (Lit.int .i64 b).wf = true) (c d : Int) (wc : (Lit.int .i64 c).wf = true) (wd : (Lit.int .i64 d).wf = true) (w : World) :
    Calls Try.prog 10 #[.int .i64 op, .agg #[.int .i64 a, .int .i64 b], .agg #[.int .i64 c, .int .i64 d]] w fun e w' => e = .returned (.bool true) ∧ Below w.heap.size w w' := by
  clear wo wa wb wc wd
  go_enter Try.func10, Try.ntmps10
  go_wp2_with fail
  go_region_held3 (fun wx => (wx.cell? ⟨w.heap.size, 0, none⟩ = some (.int .i64 a) ∧ wx.cell? ⟨w.heap.size, 1, none⟩ = some (.int .i64 b) ∧ w.heap.size < wx.heap.size) ∧ (wx.cell? ⟨w.heap.size + 1, 0, none⟩ = some (.int .i64 c) ∧ wx.cell? ⟨w.heap.size + 1, 1, none⟩ = some (.int .i64 d) ∧ w.heap.size + 1 < wx.heap.size)) (first | (with_reducible exact keep22 hb3 (by assumption)) | (with_reducible exact keep22 hb2 (by assumption)) | (with_reducible exact keep22 hb1 (by assumption)) | exact start22 _ _ _ _ _ _ _ | go_keep)
    (first | (go_at_call_of 22 (Value.agg #[.int .i64 a, .int .i64 b]); refine (toVec_any a b _).mono ?_; rintro e w1 ⟨rfl, hb1⟩)
           | (go_at_call 22; refine (toVec_any c d _).mono ?_; rintro e w2 ⟨rfl, hb2⟩)
           | (go_at_call 35; refine (vecCmp_spec op a b c d _).mono ?_; rintro e w3 ⟨rfl, hb3⟩))
  go_wp2_with fail
  go_region_held3 (fun wx => (wx.cell? ⟨w.heap.size, 0, none⟩ = some (.int .i64 a) ∧ wx.cell? ⟨w.heap.size, 1, none⟩ = some (.int .i64 b) ∧ w.heap.size < wx.heap.size) ∧ (wx.cell? ⟨w.heap.size + 1, 0, none⟩ = some (.int .i64 c) ∧ wx.cell? ⟨w.heap.size + 1, 1, none⟩ = some (.int .i64 d) ∧ w.heap.size + 1 < wx.heap.size)) (first | (with_reducible exact keep22 hb6 (by assumption)) | (with_reducible exact keep22 hb5 (by assumption)) | (with_reducible exact keep22 hb4 (by assumption)) | go_keep)
    (first | (go_at_call_of 22 (Value.agg #[.int .i64 a, .int .i64 b]); refine (toVec_any a b _).mono ?_; rintro e w4 ⟨rfl, hb4⟩)
           | (go_at_call 22; refine (toVec_any c d _).mono ?_; rintro e w5 ⟨rfl, hb5⟩)
           | (go_at_call 36; refine (vecCmp_impl op a b c d _).mono ?_; rintro e w6 ⟨rfl, hb6⟩))
  go_wp2_with fail
  all_goals
    go_ret
    exact ⟨rfl, below_two (below_two (below_two (below_two (below_two (below_two (below_step (below_step (Below.refl _ _) _) _).drew hb1) hb2) hb3).drew hb4) hb5) hb6⟩
end Go.Proofs.Ytpnpjdebmakamaa
