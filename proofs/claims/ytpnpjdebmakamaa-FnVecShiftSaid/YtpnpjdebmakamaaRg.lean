/- What DrawVecText, DrawVecUn and DrawVecBin give: some numbers, and a world that keeps all that was there. -/
import Derived.Test.YtpnpjdebmakamaaRe
namespace Go.Proofs.Ytpnpjdebmakamaa
open Go.RowKit

theorem drawVecText_any (v : Value) (w : World) (h : BytesIn w v) :
    Calls Try.prog 40 #[v] w (Gave IsV w) := by
  go_enter Try.func40, Try.ntmps40
  go_wp2_with fail
  refine (l12Open_any v _ (h.alloc _)).mono ?_
  rintro e w1 ⟨g, u, rfl, hg, hb1, hr1⟩
  have B1 := below_two (below_self_alloc _ _) hb1
  have R1 := (blk_new w (.int .i64 0) (.int .i64 0) 26).keep hb1
  have rl1 := R1.lt
  go_wp2_with fail
  refine (l1Vec_any g 0 u _ hr1 (by omega)).mono ?_
  rintro e w2 ⟨_, rfl, ⟨a, b, rfl⟩, hg2, hr2⟩
  simp at hg
  have B2 := below_of_grown B1 hg2 (by omega)
  have R2 := R1.keepG hg2 (by omega)
  obtain ⟨r0, r0', rz⟩ := R2.cells
  obtain ⟨f0, f1⟩ := R2.frozen
  clear R1 B1 hb1 hr1 hg2
  go_wp2_with fail
  exact bodyPost_ret (v := .agg #[.int .i64 a, .int .i64 b]) (by simp [results, Try.results40, go_sem, r0, r0']) rfl ⟨_, rfl, ⟨a, b, rfl⟩, below_set2 B2 (by simp) _ _⟩

set_option maxHeartbeats 1000000 in
theorem drawVecUn_any (v : Value) (w : World) (h : BytesIn w v) :
    Calls Try.prog 42 #[v] w (Gave IsIV w) := by
  go_enter Try.func42, Try.ntmps42
  go_wp2_with fail
  refine (l12Open_any v _ (h.alloc _)).mono ?_
  rintro e w1 ⟨g, u, rfl, hg, hb1, hr1⟩
  have B1 := below_two (below_self_alloc w _) hb1
  have R1 := (blk_new w (.int .i64 0) (.int .i64 0) 26).keep hb1
  have rl1 := R1.lt
  have gl1 := hr1.lt
  simp at hg
  clear hb1
  go_wp2_with fail
  refine (num_any g 0 u w1.heap.size 8 8 _ (hr1.alloc _) (by omega) (by omega) (by omega) (by omega) ?_).mono ?_
  · exact new_ints w1 [_, _, _, _, _, _, _, _] _
  rintro e w2 ⟨_, rfl, ⟨n, rfl⟩, hg2, hr2⟩
  have R2 := (R1.alloc _).keepG hg2 (by omega)
  have B2 := below_of_grown (below_step B1 _) hg2 (by omega)
  clear R1 B1 hg2
  go_wp2_with fail
  refine (l1Vec_any g 1 u _ hr2 (by omega)).mono ?_
  rintro e w3 ⟨_, rfl, ⟨a, b, rfl⟩, hg3, hr3⟩
  have R3 := R2.keepG hg3 (by omega)
  have B3 := below_of_grown B2 hg3 (by omega)
  clear R2 B2 hg3
  obtain ⟨r0, r0', rz⟩ := R3.cells
  obtain ⟨f0, f1⟩ := R3.frozen
  go_wp2_with fail
  exact bodyPost_ret (v := .tuple #[.int .i64 n, .agg #[.int .i64 a, .int .i64 b]]) (by simp [results, Try.results42, go_sem, r0, r0']) rfl ⟨_, rfl, ⟨n, a, b, rfl⟩, below_set2 B3 (by simp) _ _⟩

set_option maxHeartbeats 4000000 in
theorem drawVecBin_any (v : Value) (w : World) (h : BytesIn w v) :
    Calls Try.prog 46 #[v] w (Gave IsIVV w) := by
  go_enter Try.func46, Try.ntmps46
  go_wp2_with fail
  refine (l12Open_any v _ ((h.alloc _).alloc _)).mono ?_
  rintro e w1 ⟨g, u, rfl, hg, hb1, hr1⟩
  have B1 := below_two (below_step (below_self_alloc w _) _) hb1
  have R1 := ((blk_new w (.int .i64 0) (.int .i64 0) 26).alloc _).keep hb1
  have S1 := (blk_new1 w _ (.int .i64 0) (.int .i64 0) 26).keep hb1
  have sl1 := S1.lt
  have gl1 := hr1.lt
  simp at hg
  clear hb1
  go_wp2_with fail
  refine (pick_any g 0 u 12 _ hr1 (by omega)).mono ?_
  rintro e w2' ⟨k, rfl, k0, k1, _, hg2, hr2⟩
  have k2 := k1 (by decide)
  have R2 := R1.keepG hg2 (by omega)
  have S2 := S1.keepG hg2 (by omega)
  have B2 := below_of_grown B1 hg2 (by omega)
  clear R1 S1 B1 hg2 k1
  go_wp2_with fail
  refine (pick_any g 1 u 12 _ hr2 (by omega)).mono ?_
  rintro e w2'' ⟨m, rfl, m0, m1, _, hg2, hr3⟩
  have R3 := R2.keepG hg2 (by omega)
  have S3 := S2.keepG hg2 (by omega)
  have B3 := below_of_grown B2 hg2 (by omega)
  clear R2 S2 B2 hg2 m1
  by_cases hm : m = 0
  · have hm' : (m == 0) = true := by simpa using hm
    clear hm
    go_wp2_with fail
    refine (pick_any g 2 u 20 _ hr3 (by omega)).mono ?_
    rintro e w2 ⟨n, rfl, n0, n1, _, hg2, hr4⟩
    have n2 := n1 (by decide)
    have R4 := R3.keepG hg2 (by omega)
    have S4 := S3.keepG hg2 (by omega)
    have B4 := below_of_grown B3 hg2 (by omega)
    clear R3 S3 B3 hg2 n1 hr3
    go_wp2_with fail
    refine (l1Pair_any g 3 u _ hr4 (by omega)).mono ?_
    rintro e w3 ⟨_, rfl, ⟨a, b, c, d, rfl⟩, hg3, hr5⟩
    have R5 := R4.keepG hg3 (by omega)
    have S5 := S4.keepG hg3 (by omega)
    have B5 := below_of_grown B4 hg3 (by omega)
    clear R4 S4 B4 hg3
    have sl3 := S5.lt
    have R6 := (R5.alloc (.cells #[.int .i64 a, .int .i64 b] 26)).alloc (.cells #[.int .i64 c, .int .i64 d] 26)
    have S6 := (S5.alloc (.cells #[.int .i64 a, .int .i64 b] 26)).alloc (.cells #[.int .i64 c, .int .i64 d] 26)
    have P6 := (blk_new w3 (.int .i64 a) (.int .i64 b) 26).alloc (.cells #[.int .i64 c, .int .i64 d] 26)
    have Q6 := blk_new1 w3 (.cells #[.int .i64 a, .int .i64 b] 26) (.int .i64 c) (.int .i64 d) 26
    have B6 := below_step (below_step B5 (.cells #[.int .i64 a, .int .i64 b] 26)) (.cells #[.int .i64 c, .int .i64 d] 26)
    clear R5 S5 B5 hr1 hr2 hr4 hr5
    go_wp2_with fail
    have e1 : ¬ w.heap.size = w3.heap.size := by omega
    have e2 : ¬ w.heap.size + 1 = w3.heap.size := by omega
    have e3 : ¬ w.heap.size = w3.heap.size + 1 := by omega
    generalize hq : w3.heap.size = q at *
    generalize (w3.alloc (.cells #[.int .i64 a, .int .i64 b] 26)).alloc (.cells #[.int .i64 c, .int .i64 d] 26) = w4 at *
    obtain ⟨r0, r0', rz⟩ := R6.cells
    obtain ⟨rf0, rf1⟩ := R6.frozen
    obtain ⟨s0, s0', sz⟩ := S6.cells
    obtain ⟨sf0, sf1⟩ := S6.frozen
    go_region_held3 (fun wx => (wx.cell? ⟨q, 0, none⟩ = some (.int .i64 a) ∧ wx.cell? ⟨q, 1, none⟩ = some (.int .i64 b) ∧ q < wx.heap.size) ∧ (wx.cell? ⟨q + 1, 0, none⟩ = some (.int .i64 c) ∧ wx.cell? ⟨q + 1, 1, none⟩ = some (.int .i64 d) ∧ q + 1 < wx.heap.size)) (first | (with_reducible exact ⟨P6.drew.cells, Q6.drew.cells⟩) | (with_reducible refine S22.drew (S22.set (W := w4) ⟨P6.cells, Q6.cells⟩ ?_ ?_) <;> omega) | (with_reducible refine S22.drew (S22.set (S22.set (W := w4) ⟨P6.cells, Q6.cells⟩ ?_ ?_) ?_ ?_) <;> omega)) (first | fail)
    all_goals
      go_wp2_with fail
      exact bodyPost_ret (v := .tuple #[.int .i64 (n - 1), .agg #[.int .i64 a, .int .i64 b], .agg #[.int .i64 c, .int .i64 d]]) (by simp [results, Try.results46, go_sem, r0, r0', s0, s0']) rfl
        ⟨_, rfl, ⟨_, _, _, _, _, rfl⟩, (below_set2 (below_set2 B6 (by simp) _ _) (by simp) _ _).drew⟩
  · have hm' : (m == 0) = false := by simpa using hm
    clear hm
    have hr4 := hr3.mono (Q := 3) (by omega)
    have R4 := R3
    have S4 := S3
    have B4 := B3
    clear R3 S3 B3 hr3
    generalize hw : w2'' = w2 at *
    go_wp2_with fail
    refine (l1Pair_any g 3 u _ hr4 (by omega)).mono ?_
    rintro e w3 ⟨_, rfl, ⟨a, b, c, d, rfl⟩, hg3, hr5⟩
    have R5 := R4.keepG hg3 (by omega)
    have S5 := S4.keepG hg3 (by omega)
    have B5 := below_of_grown B4 hg3 (by omega)
    clear R4 S4 B4 hg3
    have sl3 := S5.lt
    have R6 := (R5.alloc (.cells #[.int .i64 a, .int .i64 b] 26)).alloc (.cells #[.int .i64 c, .int .i64 d] 26)
    have S6 := (S5.alloc (.cells #[.int .i64 a, .int .i64 b] 26)).alloc (.cells #[.int .i64 c, .int .i64 d] 26)
    have P6 := (blk_new w3 (.int .i64 a) (.int .i64 b) 26).alloc (.cells #[.int .i64 c, .int .i64 d] 26)
    have Q6 := blk_new1 w3 (.cells #[.int .i64 a, .int .i64 b] 26) (.int .i64 c) (.int .i64 d) 26
    have B6 := below_step (below_step B5 (.cells #[.int .i64 a, .int .i64 b] 26)) (.cells #[.int .i64 c, .int .i64 d] 26)
    clear R5 S5 B5 hr1 hr2 hr4 hr5
    go_wp2_with fail
    have e1 : ¬ w.heap.size = w3.heap.size := by omega
    have e2 : ¬ w.heap.size + 1 = w3.heap.size := by omega
    have e3 : ¬ w.heap.size = w3.heap.size + 1 := by omega
    generalize hq : w3.heap.size = q at *
    generalize (w3.alloc (.cells #[.int .i64 a, .int .i64 b] 26)).alloc (.cells #[.int .i64 c, .int .i64 d] 26) = w4 at *
    obtain ⟨r0, r0', rz⟩ := R6.cells
    obtain ⟨rf0, rf1⟩ := R6.frozen
    obtain ⟨s0, s0', sz⟩ := S6.cells
    obtain ⟨sf0, sf1⟩ := S6.frozen
    go_region_held3 (fun wx => (wx.cell? ⟨q, 0, none⟩ = some (.int .i64 a) ∧ wx.cell? ⟨q, 1, none⟩ = some (.int .i64 b) ∧ q < wx.heap.size) ∧ (wx.cell? ⟨q + 1, 0, none⟩ = some (.int .i64 c) ∧ wx.cell? ⟨q + 1, 1, none⟩ = some (.int .i64 d) ∧ q + 1 < wx.heap.size)) (first | (with_reducible exact ⟨P6.drew.cells, Q6.drew.cells⟩) | (with_reducible refine S22.drew (S22.set (W := w4) ⟨P6.cells, Q6.cells⟩ ?_ ?_) <;> omega) | (with_reducible refine S22.drew (S22.set (S22.set (W := w4) ⟨P6.cells, Q6.cells⟩ ?_ ?_) ?_ ?_) <;> omega)) (first | fail)
    all_goals
      go_wp2_with fail
      exact bodyPost_ret (v := .tuple #[.int .i64 (k + 3), .agg #[.int .i64 a, .int .i64 b], .agg #[.int .i64 c, .int .i64 d]]) (by simp [results, Try.results46, go_sem, r0, r0', s0, s0']) rfl
        ⟨_, rfl, ⟨_, _, _, _, _, rfl⟩, (below_set2 (below_set2 B6 (by simp) _ _) (by simp) _ _).drew⟩
end Go.Proofs.Ytpnpjdebmakamaa
