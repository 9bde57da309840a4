/- What DrawVecCut gives. -/
import Derived.Test.YtpnpjdebmakamaaRe
namespace Go.Proofs.Ytpnpjdebmakamaa
open Go.RowKit
def IsVII (x : Value) : Prop := ∃ a b m n : Int, x = .tuple #[.agg #[.int .i64 a, .int .i64 b], .int .i64 m, .int .i64 n]

set_option maxHeartbeats 2000000 in
theorem drawVecCut_any (v : Value) (w : World) (h : BytesIn w v) :
    Calls Try.prog 38 #[v] w (Gave IsVII w) := by
  go_enter Try.func38, Try.ntmps38
  go_wp2_with fail
  refine (l12Open_any v _ (h.alloc _)).mono ?_
  rintro e w1 ⟨g, u, rfl, hg, hb1, hr1⟩
  have B1 := below_two (below_self_alloc _ _) hb1
  have R1 := (blk_new w (.int .i64 0) (.int .i64 0) 26).keep hb1
  have rl1 := R1.lt
  simp at hg
  clear hb1
  go_wp2_with fail
  refine (l1Vec_any g 0 u _ hr1 (by omega)).mono ?_
  rintro e w2 ⟨_, rfl, ⟨a, b, rfl⟩, hg2, hr2⟩
  have B2 := below_of_grown B1 hg2 (by omega)
  have R2 := R1.keepG hg2 (by omega)
  clear R1 B1 hr1 hg2
  go_wp2_with fail
  refine (pick_any g 4 u 6 _ (hr2.alloc _) (by omega)).mono ?_
  rintro e w3 ⟨m, rfl, m0, m1, _, hg3, hr3⟩
  have gl2 := hr2.lt
  have sz2 := B2.size
  have rl2 := R2.lt
  have B3 := below_of_grown (below_step B2 _) hg3 (by omega)
  have R3 := (R2.alloc _).keepG hg3 (by omega)
  have A3 := (blk_new w2 (.int .i64 a) (.int .i64 b) 26).keepG hg3 (by omega)
  have m2 := m1 (by decide)
  clear R2 B2 hr2 hg3 m1
  have n0 : ¬ w.heap.size = w2.heap.size := by omega
  obtain ⟨r0, r0', rz⟩ := R3.cells
  obtain ⟨f0, f1⟩ := R3.frozen
  have al := A3.lt
  go_wp2_with fail
  go_region_held3 (fun wx => wx.cell? ⟨w2.heap.size, 0, none⟩ = some (.int .i64 a) ∧ wx.cell? ⟨w2.heap.size, 1, none⟩ = some (.int .i64 b) ∧ w2.heap.size < wx.heap.size) (first | (with_reducible exact A3.drew.cells) | (with_reducible exact A4.cells) | (with_reducible exact A5.cells) | (with_reducible exact (A3.set_other (p := ⟨w.heap.size, 0, none⟩) (by simp; omega)).set_other (p := ⟨w.heap.size, 1, none⟩) (by simp; omega) |>.drew.cells))
    (first | (go_at_call 62; refine (pick_any g 5 u 5 _ hr3.drew (by omega)).mono ?_; rintro e w4 ⟨n, rfl, n0, n1, _, hg4, hr4⟩; have A4 := A3.drew.keepG hg4 (by omega); have R4 := R3.drew.keepG hg4 (by omega); have A5 := (A4.set_other (p := ⟨w.heap.size, 0, none⟩) (z := .int .i64 a) (by simp; omega)).set_other (p := ⟨w.heap.size, 1, none⟩) (z := .int .i64 b) (by simp; omega); obtain ⟨s0, s0', sz⟩ := R4.cells; obtain ⟨g0, g1⟩ := R4.frozen))
  have B4 := below_of_grown B3.drew hg4 (by omega)
  go_wp2_with fail
  exact bodyPost_ret (v := .tuple #[.agg #[.int .i64 a, .int .i64 b], .int .i64 (m - 1), .int .i64 (IntKind.i64.wrap (n - 1))]) (by simp [results, Try.results38, go_sem, s0, s0']) rfl
    ⟨_, rfl, ⟨_, _, _, _, rfl⟩, below_set2 B4 (by simp) _ _⟩
end Go.Proofs.Ytpnpjdebmakamaa
