/- What the draws of the statements about numbers give: some numbers, and a world that keeps all that was there. -/
import Derived.Test.YtpnpjdebmakamaaRd
namespace Go.Proofs.Ytpnpjdebmakamaa
open Go.RowKit

/-- a call gave a value with Q, and kept what was there -/
def Gave (Q : Value → Prop) (w : World) (e : Ending) (w' : World) : Prop := ∃ x, e = .returned x ∧ Q x ∧ Below w.heap.size w w'
def IsIV (x : Value) : Prop := ∃ n a b : Int, x = .tuple #[.int .i64 n, .agg #[.int .i64 a, .int .i64 b]]
def IsIVV (x : Value) : Prop := ∃ n a b c d : Int, x = .tuple #[.int .i64 n, .agg #[.int .i64 a, .int .i64 b], .agg #[.int .i64 c, .int .i64 d]]

theorem BytesIn.below {w w' : World} {v : Value} (h : BytesIn w v) (hb : Below w.heap.size w w') : BytesIn w' v := by
  rcases h with h | ⟨b, off, len, cap, hv, h1, h2, h3, h4, h5⟩
  · exact .inl h
  · refine .inr ⟨b, off, len, cap, hv, h1, h2, h3, Nat.lt_of_lt_of_le h4 hb.size, fun i hi => ?_⟩
    obtain ⟨u, hu, hc⟩ := h5 i hi
    exact ⟨u, hu, (hb.cell (p := ⟨b, off + i, none⟩) h4).trans hc⟩
theorem BytesIn.alloc {w : World} {v : Value} (h : BytesIn w v) (o : Obj) : BytesIn (w.alloc o) v := h.below (below_self_alloc _ _)

theorem drawVecOk_any (v : Value) (w : World) (h : BytesIn w v) :
    Calls Try.prog 47 #[v] w (Gave IsV w) := by
  go_enter Try.func47, Try.ntmps47
  go_wp2_with fail
  refine (l12Open_any v _ (h.alloc _)).mono ?_
  rintro e w1 ⟨g, u, rfl, hg, hb1, hr1⟩
  have B1 := below_two (below_self_alloc _ _) hb1
  have R1 := (blk_new w (.int .i64 0) (.int .i64 0) 26).keep hb1
  have rl1 := R1.lt
  go_wp2_with fail
  refine (l1Vec_any g 0 u _ hr1 (by omega)).mono ?_
  rintro e w2 ⟨_, rfl, ⟨a, b, rfl⟩, hg2, hr2⟩
  simp at hg
  have B2 := below_of_grown B1 hg2 (by omega)
  have R2 := R1.keepG hg2 (by omega)
  obtain ⟨r0, r0', rz⟩ := R2.cells
  obtain ⟨f0, f1⟩ := R2.frozen
  clear R1 B1 hb1 hr1 hg2
  go_wp2_with fail
  exact bodyPost_ret (v := .agg #[.int .i64 a, .int .i64 b]) (by simp [results, Try.results47, go_sem, r0, r0']) rfl ⟨_, rfl, ⟨a, b, rfl⟩, below_set2 B2 (by simp) _ _⟩

set_option maxHeartbeats 2000000 in
theorem drawVecCmp_any (v : Value) (w : World) (h : BytesIn w v) :
    Calls Try.prog 37 #[v] w (Gave IsIVV w) := by
  go_enter Try.func37, Try.ntmps37
  go_wp2_with fail
  refine (l12Open_any v _ ((h.alloc _).alloc _)).mono ?_
  rintro e w1 ⟨g, u, rfl, hg, hb1, hr1⟩
  have B1 := below_two (below_step (below_self_alloc w _) _) hb1
  have R1 := ((blk_new w (.int .i64 0) (.int .i64 0) 26).alloc _).keep hb1
  have S1 := (blk_new1 w _ (.int .i64 0) (.int .i64 0) 26).keep hb1
  have sl1 := S1.lt
  have gl1 := hr1.lt
  simp at hg
  clear hb1
  go_wp2_with fail
  refine (num_any g 0 u w1.heap.size 8 8 _ (hr1.alloc _) (by omega) (by omega) (by omega) (by omega) ?_).mono ?_
  · exact new_ints w1 [_, _, _, _, _, _, _, _] _
  rintro e w2 ⟨_, rfl, ⟨n, rfl⟩, hg2, hr2⟩
  have R2 := (R1.alloc _).keepG hg2 (by omega)
  have S2 := (S1.alloc _).keepG hg2 (by omega)
  have B2 := below_of_grown (below_step B1 _) hg2 (by omega)
  clear R1 S1 B1 hg2
  go_wp2_with fail
  refine (l1Pair_any g 1 u _ hr2 (by omega)).mono ?_
  rintro e w3 ⟨_, rfl, ⟨a, b, c, d, rfl⟩, hg3, hr3⟩
  have R3 := R2.keepG hg3 (by omega)
  have S3 := S2.keepG hg3 (by omega)
  have B3 := below_of_grown B2 hg3 (by omega)
  clear R2 S2 B2 hg3
  have sl3 := S3.lt
  have R4 := (R3.alloc (.cells #[.int .i64 a, .int .i64 b] 26)).alloc (.cells #[.int .i64 c, .int .i64 d] 26)
  have S4 := (S3.alloc (.cells #[.int .i64 a, .int .i64 b] 26)).alloc (.cells #[.int .i64 c, .int .i64 d] 26)
  have P4 := (blk_new w3 (.int .i64 a) (.int .i64 b) 26).alloc (.cells #[.int .i64 c, .int .i64 d] 26)
  have Q4 := blk_new1 w3 (.cells #[.int .i64 a, .int .i64 b] 26) (.int .i64 c) (.int .i64 d) 26
  have B4 := below_step (below_step B3 (.cells #[.int .i64 a, .int .i64 b] 26)) (.cells #[.int .i64 c, .int .i64 d] 26)
  clear R3 S3 B3 hr1 hr2 hr3
  go_wp2_with fail
  have e1 : ¬ w.heap.size = w3.heap.size := by omega
  have e2 : ¬ w.heap.size + 1 = w3.heap.size := by omega
  have e3 : ¬ w.heap.size = w3.heap.size + 1 := by omega
  generalize hq : w3.heap.size = q at *
  generalize (w3.alloc (.cells #[.int .i64 a, .int .i64 b] 26)).alloc (.cells #[.int .i64 c, .int .i64 d] 26) = w4 at *
  obtain ⟨r0, r0', rz⟩ := R4.cells
  obtain ⟨rf0, rf1⟩ := R4.frozen
  obtain ⟨s0, s0', sz⟩ := S4.cells
  obtain ⟨sf0, sf1⟩ := S4.frozen
  go_region_held3 (fun wx => (wx.cell? ⟨q, 0, none⟩ = some (.int .i64 a) ∧ wx.cell? ⟨q, 1, none⟩ = some (.int .i64 b) ∧ q < wx.heap.size) ∧ (wx.cell? ⟨q + 1, 0, none⟩ = some (.int .i64 c) ∧ wx.cell? ⟨q + 1, 1, none⟩ = some (.int .i64 d) ∧ q + 1 < wx.heap.size)) (first | (with_reducible exact ⟨P4.drew.cells, Q4.drew.cells⟩) | (with_reducible refine S22.drew (S22.set (W := w4) ⟨P4.cells, Q4.cells⟩ ?_ ?_) <;> omega) | (with_reducible refine S22.drew (S22.set (S22.set (W := w4) ⟨P4.cells, Q4.cells⟩ ?_ ?_) ?_ ?_) <;> omega)) (first | fail)
  all_goals
    go_wp2_with fail
    exact bodyPost_ret (v := .tuple #[.int .i64 n, .agg #[.int .i64 a, .int .i64 b], .agg #[.int .i64 c, .int .i64 d]]) (by simp [results, Try.results37, go_sem, r0, r0', s0, s0']) rfl
      ⟨_, rfl, ⟨_, _, _, _, _, rfl⟩, (below_set2 (below_set2 B4 (by simp) _ _) (by simp) _ _).drew⟩
end Go.Proofs.Ytpnpjdebmakamaa
