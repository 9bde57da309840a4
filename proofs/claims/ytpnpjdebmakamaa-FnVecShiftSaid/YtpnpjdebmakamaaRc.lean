/- What l1Vec and l1Pair of the reference draw. The conditions stand in each statement. -/
import Derived.Test.YtpnpjdebmakamaaRb
namespace Go.Proofs.Ytpnpjdebmakamaa
open Go.RowKit

theorem new_ints (W : World) (l : List Int) (t : TypeId) : ∀ i, i < l.length → ∃ x : Int, (W.alloc (.cells (l.map (Value.int .i64)).toArray t)).cell? ⟨W.heap.size, i, none⟩ = some (.int .i64 x) := by
  intro i hi
  refine ⟨l[i], ?_⟩
  rw [World.cell?_alloc_new]
  simp [hi]
theorem below_of_row {w w1 : World} {g : Nat} (h : w.grownBy w1 (some g)) : w.heap.size ≤ w1.heap.size := h.size
theorem rd_code_ne {w : World} {g : Nat} {v : Value} {P : Nat} (h : RdOk w g v P) {q : Nat} (hq : w.heap.size ≤ q) : ∀ b off len cap, v = .slice (some ⟨b, off, none⟩) len cap → 1 ≤ len → b ≠ q := by
  obtain ⟨p, h1, h2, h3⟩ := h
  intro b off len cap hv hl
  rcases h3 with ⟨a, c, hv'⟩ | ⟨b', off', len', cap', hv', _, _, _, hlt, _⟩
  · rw [hv'] at hv; cases hv; omega
  · rw [hv'] at hv; cases hv; omega
/-- a store into a block that was not there when the reader was seen to be well -/
theorem RdOk.setNew {w : World} {g : Nat} {v : Value} {P P0 : Nat} (h : RdOk w g v P) {q : Addr} {x : Value} {w0 : World} (h0 : RdOk w0 g v P0) (hq : w0.heap.size ≤ q.block) : RdOk (w.setCell q x) g v P := by
  have hl := h0.lt
  have hb := rd_code_ne h0 hq
  obtain ⟨p, h1, h2, h3⟩ := h
  refine ⟨p, h1, (Below.heap_setCell _ _ _ _ (by omega)).trans h2, ?_⟩
  rcases h3 with h3 | ⟨b, off, len, cap, rfl, a1, a2, a3, a4, a5⟩
  · exact .inl h3
  · refine .inr ⟨b, off, len, cap, rfl, a1, a2, a3, by simpa [World.setCell] using a4, fun i hi => ?_⟩
    obtain ⟨u, hu, hc⟩ := a5 i hi
    exact ⟨u, hu, (World.cell?_of_block (Below.heap_setCell _ _ _ _ (hb b off len cap rfl a1))).trans hc⟩

set_option maxHeartbeats 1000000 in
theorem l1Vec_any (g P : Nat) (v : Value) (w : World) (hr : RdOk w g v P) (hP : P ≤ 900000) :
    Calls Try.prog 61 #[.pointer (some ⟨g, 0, none⟩)] w (Drawn g v (P + 4) IsV w) := by
  have gl := hr.lt
  go_enter Try.func61, Try.ntmps61
  go_wp2_with fail
  refine (pick_any g P v 4 _ (hr.alloc _) (by omega)).mono ?_
  rintro e w1 ⟨k, rfl, k0, k1, _, hg1, hr1⟩
  have k2 := k1 (by decide)
  clear k1
  have R1 := (blk_new w (.int .i64 0) (.int .i64 0) 26).keepG hg1 (by omega)
  have G1 : w.grownBy w1 (some g) := grown_two (World.grownBy_alloc _ _ _) hg1
  clear hg1
  go_wp2_with fail
  refine (l1Two_any (1 + k) _ (by omega)).mono ?_; rintro e w1' ⟨rfl, rfl⟩
  go_wp2_with fail
  refine (pick_any g (P + 1) v _ _ hr1 (by omega)).mono ?_
  rintro e w2 ⟨n, rfl, n0, n1, _, hg2, hr2⟩
  clear n1
  have R2 := R1.keepG hg2 (by omega)
  have G2 := grown_two G1 hg2
  have rl2 := R2.lt
  clear hg2 hr1 R1 G1
  go_wp2_with fail
  refine (pick_any g (P + 1 + 1) v 40 _ (hr2.alloc _) (by omega)).mono ?_
  rintro e w3 ⟨m, rfl, m0, m1, _, hg3, hr3⟩
  clear m1
  have gl2 := hr2.lt
  have R3 := (R2.alloc _).keepG hg3 (by omega)
  have A3 := (blk_new w2 (.int .i64 (1 + k)) (.int .i64 n) 26).keepG hg3 (by omega)
  have G3 := grown_two (grown_alloc G2 _) hg3
  clear hg3 R2
  have hx : ¬ w.heap.size = w2.heap.size := by omega
  by_cases c0 : m = 0
  · have c0' : (m == 0) = true := by simpa using c0
    clear c0
    go_wp2_with fail
    refine (l1Two_any (1 + k) _ (by omega)).mono ?_; rintro e w3' ⟨rfl, rfl⟩
    go_wp2_with fail
    have gl3 := hr3.lt
    refine (num_any g (P + 1 + 1 + 1) v w3.heap.size 3 3 _ (hr3.alloc _) (by omega) (by omega) (by omega) (by omega) ?_).mono ?_
    · exact new_ints w3 [_, _, _] _
    rintro e w4 ⟨_, rfl, ⟨x, rfl⟩, hg4, hr4⟩
    have A4 := (A3.alloc _).keepG hg4 (by omega)
    have R4 := (R3.alloc _).keepG hg4 (by omega)
    have G4 := grown_two (grown_alloc G3 _) hg4
    clear hg4 A3 R3 G3
    obtain ⟨a0, a1, az⟩ := A4.cells
    obtain ⟨af0, af1⟩ := A4.frozen
    obtain ⟨r0, r0', rz⟩ := R4.cells
    obtain ⟨f0, f1⟩ := R4.frozen
    go_wp2_with fail
    exact bodyPost_ret (v := .agg #[.int .i64 (1 + k), .int .i64 x]) (by simp [results, Try.results61, go_sem, r0, r0']) rfl
      ⟨_, rfl, ⟨_, _, rfl⟩, grown_set (grown_set (grown_set G4 (by simp; omega) _) (by simp) _) (by simp) _, ((hr4.setNew hr (by simp; omega)).setNew hr (by simp)).setNew hr (by simp)⟩
  · have c0' : (m == 0) = false := by simpa using c0
    by_cases c1 : m = 1
    · have c1' : (m == 1) = true := by simpa using c1
      clear c0 c1
      have gl3 := hr3.lt
      go_wp2_with fail
      refine (num_any g (P + 1 + 1 + 1) v w3.heap.size 4 4 _ (hr3.alloc _) (by omega) (by omega) (by omega) (by omega) ?_).mono ?_
      · exact new_ints w3 [_, _, _, _] _
      rintro e w4 ⟨_, rfl, ⟨x, rfl⟩, hg4, hr4⟩
      have A4 := (A3.alloc _).keepG hg4 (by omega)
      have R4 := (R3.alloc _).keepG hg4 (by omega)
      have G4 := grown_two (grown_alloc G3 _) hg4
      clear hg4 A3 R3 G3
      obtain ⟨a0, a1, az⟩ := A4.cells
      obtain ⟨af0, af1⟩ := A4.frozen
      obtain ⟨r0, r0', rz⟩ := R4.cells
      obtain ⟨f0, f1⟩ := R4.frozen
      go_wp2_with fail
      exact bodyPost_ret (v := .agg #[.int .i64 x, .int .i64 n]) (by simp [results, Try.results61, go_sem, r0, r0']) rfl
        ⟨_, rfl, ⟨_, _, rfl⟩, grown_set (grown_set (grown_set G4 (by simp; omega) _) (by simp) _) (by simp) _, ((hr4.setNew hr (by simp; omega)).setNew hr (by simp)).setNew hr (by simp)⟩
    · have c1' : (m == 1) = false := by simpa using c1
      clear c0 c1
      obtain ⟨a0, a1, az⟩ := A3.cells
      obtain ⟨r0, r0', rz⟩ := R3.cells
      obtain ⟨f0, f1⟩ := R3.frozen
      go_wp2_with fail
      exact bodyPost_ret (v := .agg #[.int .i64 (1 + k), .int .i64 n]) (by simp [results, Try.results61, go_sem, r0, r0']) rfl
        ⟨_, rfl, ⟨_, _, rfl⟩, grown_set (grown_set G3 (by simp) _) (by simp) _, (((hr3.mono (by omega)).setNew hr (by simp)).setNew hr (by simp))⟩
end Go.Proofs.Ytpnpjdebmakamaa
