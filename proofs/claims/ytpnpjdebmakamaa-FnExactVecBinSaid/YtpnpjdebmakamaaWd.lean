/- The walk of FnExactVecBin: for every argument the law returns true and leaves alone what was there. -/
import Derived.Test.YtpnpjdebmakamaaVm
import Derived.Test.YtpnpjdebmakamaaVq
import Derived.Deep.DeepCutAuto
namespace Go.Proofs.Ytpnpjdebmakamaa
open Go.RowKit

set_option linter.unusedVariables false in
set_option maxHeartbeats 2000000 in
theorem walk_FnExactVecBin (op : Int) (wo : (Lit.int .i64 op).wf = true) (a b : Int) (wa : (Lit.int .i64 a).wf = true) (wb : (Lit.int .i64 b).wf = true) (c d : Int) (wc : (Lit.int .i64 c).wf = true) (wd : (Lit.int .i64 d).wf = true) (w : World) :
    Calls Try.prog 15 #[.int .i64 op, .agg #[.int .i64 a, .int .i64 b], .agg #[.int .i64 c, .int .i64 d]] w fun e w' => e = .returned (.bool true) ∧ Below w.heap.size w w' := by
  clear wo wa wb wc wd
  go_enter Try.func15, Try.ntmps15
  go_upto_region 1 with fail
  go_cut [7, 8] (fun s7 s8 wx => ∃ g : Nat, s7 = .pointer (some ⟨g, 0, none⟩) ∧ s8 = .bool (binB op a b c d) ∧ Blk wx g (.int .i64 (binW op a b c d)) (.int .i64 (binN op a b c d)) 26 ∧ ((wx.cell? ⟨w.heap.size, 0, none⟩ = some (.int .i64 a) ∧ wx.cell? ⟨w.heap.size, 1, none⟩ = some (.int .i64 b) ∧ w.heap.size < wx.heap.size) ∧ (wx.cell? ⟨w.heap.size + 1, 0, none⟩ = some (.int .i64 c) ∧ wx.cell? ⟨w.heap.size + 1, 1, none⟩ = some (.int .i64 d) ∧ w.heap.size + 1 < wx.heap.size)) ∧ Below w.heap.size w wx)
  case first =>
    go_region_held3 (fun wx => (wx.cell? ⟨w.heap.size, 0, none⟩ = some (.int .i64 a) ∧ wx.cell? ⟨w.heap.size, 1, none⟩ = some (.int .i64 b) ∧ w.heap.size < wx.heap.size) ∧ (wx.cell? ⟨w.heap.size + 1, 0, none⟩ = some (.int .i64 c) ∧ wx.cell? ⟨w.heap.size + 1, 1, none⟩ = some (.int .i64 d) ∧ w.heap.size + 1 < wx.heap.size)) (first | (with_reducible exact keep22 hb3 (by assumption)) | (with_reducible exact keep22 hb2 (by assumption)) | (with_reducible exact keep22 hb1 (by assumption)) | exact keep22 (below_self_alloc _ _) s3 | (with_reducible exact keep22 (below_self_alloc _ _) (by assumption)) | exact start22 _ _ _ _ _ _ _ | exact ⟨(((blk_new _ _ _ _).alloc _).alloc _).drew.cells, ((blk_new1 _ _ _ _ _).alloc _).drew.cells⟩ | exact keep_set22 (by assumption) (by omega) (by omega) | go_keep)
    (first
      | (go_at_call_of 22 (Value.agg #[.int .i64 a, .int .i64 b]); refine (toVec_any a b _).mono ?_; rintro e w1 ⟨rfl, hb1⟩; have s1 := keep22 hb1 (by assumption); have z1 := s1.2.2.2; have z1' := s1.1.2.2; try (have q1 : Blk w1 (w.heap.size + 1 + 1) (.int .i64 0) (.int .i64 0) 26 := (blk_new2 w _ _ (.int .i64 0) (.int .i64 0) 26).drew.keep hb1))
      | (go_at_call 22; refine (toVec_any c d _).mono ?_; rintro e w2 ⟨rfl, hb2⟩; have s2 := keep22 hb2 (by assumption); have z2 := s2.2.2.2; have z2' := s2.1.2.2; first | (have q2 := q1.keep hb2) | (have q2 := (blk_new w1 (.int .i64 0) (.int .i64 0) 26).keep hb2) | skip)
      | (go_at_call 44; refine (vecBin_spec op a b c d _).mono ?_; rintro e w3 ⟨rfl, hb3⟩; have s3 := keep22 hb3 (by assumption); first | (have q3 := q2.keep hb3; obtain ⟨q0, q1, qz⟩ := q3.cells; obtain ⟨f0, f1⟩ := q3.frozen) | (have q3 := (blk_new w2 (.int .i64 0) (.int .i64 0) 26).keep hb3; obtain ⟨q0, q1, qz⟩ := q3.cells; obtain ⟨f0, f1⟩ := q3.frozen) | skip))
    all_goals
      go_wp2_with fail
      go_meet
      refine ⟨_, rfl, rfl, ?_, by assumption, ?_⟩
      · first | exact (q3.set0 _).set1 _ | exact blk_new _ _ _ _
      · first
          | exact below_step (below_two (below_two (below_two (below_step (below_step (Below.refl _ _) _) _).drew hb1) hb2) hb3) _
          | exact below_set2 (below_two (below_step (below_two (below_two (below_step (below_step (Below.refl _ _) _) _).drew hb1) hb2) _) hb3) (by omega) _ _
          | exact below_set2 (below_two (below_two (below_step (below_two (below_step (below_step (Below.refl _ _) _) _).drew hb1) _) hb2) hb3) (by omega) _ _
          | exact below_set2 (below_two (below_two (below_two (below_step (below_step (below_step (Below.refl _ _) _) _) _).drew hb1) hb2) hb3) (by omega) _ _
  case rest =>
    obtain ⟨g, rfl, rfl, hg, hS, hB⟩ := hcut
    have zW := hS.2.2.2
    have zW' := hS.1.2.2
    go_wp2_with fail
    go_region_held3 (fun wx => (wx.cell? ⟨w.heap.size, 0, none⟩ = some (.int .i64 a) ∧ wx.cell? ⟨w.heap.size, 1, none⟩ = some (.int .i64 b) ∧ w.heap.size < wx.heap.size) ∧ (wx.cell? ⟨w.heap.size + 1, 0, none⟩ = some (.int .i64 c) ∧ wx.cell? ⟨w.heap.size + 1, 1, none⟩ = some (.int .i64 d) ∧ w.heap.size + 1 < wx.heap.size)) (first | (with_reducible exact keep22 hb3 (by assumption)) | (with_reducible exact keep22 hb2 (by assumption)) | (with_reducible exact keep22 hb1 (by assumption)) | exact keep22 (below_self_alloc _ _) s3 | (with_reducible exact keep22 (below_self_alloc _ _) (by assumption)) | exact hS | exact keep22 (below_self_alloc _ _) hS | exact keep_set22 (by assumption) (by omega) (by omega) | go_keep)
    (first
      | (go_at_call_of 22 (Value.agg #[.int .i64 a, .int .i64 b]); refine (toVec_any a b _).mono ?_; rintro e w1 ⟨rfl, hb1⟩; have s1 := keep22 hb1 (by assumption); have z1 := s1.2.2.2; have z1' := s1.1.2.2; try (have q1 : Blk w1 wc.heap.size (.int .i64 0) (.int .i64 0) 26 := (blk_new wc (.int .i64 0) (.int .i64 0) 26).drew.keep hb1))
      | (go_at_call 22; refine (toVec_any c d _).mono ?_; rintro e w2 ⟨rfl, hb2⟩; have s2 := keep22 hb2 (by assumption); have z2 := s2.2.2.2; have z2' := s2.1.2.2; first | (have q2 := q1.keep hb2) | (have q2 := (blk_new w1 (.int .i64 0) (.int .i64 0) 26).keep hb2) | skip)
      | (go_at_call 45; refine (vecBin_impl op a b c d _).mono ?_; rintro e w3 ⟨rfl, hb3⟩; have s3 := keep22 hb3 (by assumption); first | (have q3 := q2.keep hb3; obtain ⟨q0, q1, qz⟩ := q3.cells; obtain ⟨f0, f1⟩ := q3.frozen) | (have q3 := (blk_new w2 (.int .i64 0) (.int .i64 0) 26).keep hb3; obtain ⟨q0, q1, qz⟩ := q3.cells; obtain ⟨f0, f1⟩ := q3.frozen) | skip))
    all_goals
      have hg3 : Blk w3 g (.int .i64 (binW op a b c d)) (.int .i64 (binN op a b c d)) 26 := by
        first | exact ((hg.drew.keep hb1).keep hb2).keep hb3 | exact ((hg.drew.keep hb1).keep hb2).alloc _ |>.keep hb3 | exact (((hg.drew.keep hb1).alloc _).keep hb2).keep hb3 | exact (((hg.alloc _).drew.keep hb1).keep hb2).keep hb3
      obtain ⟨c0, c1, cz⟩ := hg3.cells
      have gl := hg.lt
      have sz1 := hb1.size
      have sz2 := hb2.size
      simp only [World.size_alloc, World.size_drew] at sz1 sz2
      have n0 : ¬ g = wc.heap.size := by omega
      have n1 : ¬ g = w1.heap.size := by omega
      have n2 : ¬ g = w2.heap.size := by omega
      have hB3 : Below w.heap.size w w3 := by
        first
          | exact below_two (below_two (below_two hB.drew hb1) hb2) hb3
          | exact below_two (below_step (below_two (below_two hB.drew hb1) hb2) _) hb3
          | exact below_two (below_two (below_step (below_two hB.drew hb1) _) hb2) hb3
          | exact below_two (below_two (below_two (below_step hB _).drew hb1) hb2) hb3
      go_wp2_with fail
      refine (eqVec_any _ _ _ _ _).mono ?_; rintro e w7 ⟨rfl, hb7⟩
      go_wp2_with fail
      all_goals
        go_ret
        refine ⟨rfl, ?_⟩
        first | exact below_two (below_step hB3 _) hb7 | exact below_two (below_set2 hB3 (by omega) _ _) hb7
end Go.Proofs.Ytpnpjdebmakamaa
