/- What l1Pair of the reference draws. The conditions stand in each statement. -/
import Derived.Test.YtpnpjdebmakamaaRc
import Derived.Deep.DeepCutAuto
import Derived.StillTailTactics
namespace Go.Proofs.Ytpnpjdebmakamaa
open Go.RowKit

/-- two fields of two blocks -/
abbrev S22 (w : World) (g h : Nat) (x y x' y' : Value) : Prop := (w.cell? ⟨g, 0, none⟩ = some x ∧ w.cell? ⟨g, 1, none⟩ = some y ∧ g < w.heap.size) ∧ (w.cell? ⟨h, 0, none⟩ = some x' ∧ w.cell? ⟨h, 1, none⟩ = some y' ∧ h < w.heap.size)
theorem S22.set {W : World} {g h r : Nat} {x y x' y' u v : Value} (k : S22 W g h x y x' y') (h1 : g ≠ r) (h2 : h ≠ r) : S22 ((W.setCell ⟨r, 0, none⟩ u).setCell ⟨r, 1, none⟩ v) g h x y x' y' := by
  obtain ⟨⟨k1, k2, k3⟩, k4, k5, k6⟩ := k
  have c : ∀ g i, g ≠ r → ((W.setCell ⟨r, 0, none⟩ u).setCell ⟨r, 1, none⟩ v).cell? ⟨g, i, none⟩ = W.cell? ⟨g, i, none⟩ := fun g i hne =>
    World.cell?_of_block (by rw [Below.heap_setCell _ _ _ _ hne, Below.heap_setCell _ _ _ _ hne])
  exact ⟨⟨(c g 0 h1).trans k1, (c g 1 h1).trans k2, by simpa [World.setCell] using k3⟩, (c h 0 h2).trans k4, (c h 1 h2).trans k5, by simpa [World.setCell] using k6⟩
theorem S22.drew {W : World} {g h : Nat} {x y x' y' : Value} (k : S22 W g h x y x' y') : S22 W.drew g h x y x' y' := k
def IsVV (x : Value) : Prop := ∃ a b c d : Int, x = .tuple #[.agg #[.int .i64 a, .int .i64 b], .agg #[.int .i64 c, .int .i64 d]]

set_option maxHeartbeats 2000000 in
theorem l1Pair_any (g P : Nat) (v : Value) (w : World) (hr : RdOk w g v P) (hP : P ≤ 800000) :
    Calls Try.prog 60 #[.pointer (some ⟨g, 0, none⟩)] w (Drawn g v (P + 9) IsVV w) := by
  have gl := hr.lt
  go_enter Try.func60, Try.ntmps60
  go_wp2_with fail
  refine (l1Vec_any g P v _ ((hr.alloc _).alloc _) (by omega)).mono ?_
  rintro e w1 ⟨_, rfl, ⟨a, b, rfl⟩, hg1, hr1⟩
  have R1 := ((blk_new w (.int .i64 0) (.int .i64 0) 26).alloc _).keepG hg1 (by omega)
  have S1 := (blk_new1 w _ (.int .i64 0) (.int .i64 0) 26).keepG hg1 (by omega)
  have G1 : w.grownBy w1 (some g) := grown_two (grown_alloc (World.grownBy_alloc _ _ _) _) hg1
  have gl1 := hr1.lt
  clear hg1
  go_wp2_with fail
  refine (l1Vec_any g (P + 4) v _ (hr1.alloc _) (by omega)).mono ?_
  rintro e w2 ⟨_, rfl, ⟨c, d, rfl⟩, hg2, hr2⟩
  have R2 := (R1.alloc _).keepG hg2 (by omega)
  have S2 := (S1.alloc _).keepG hg2 (by omega)
  have A2 := (blk_new w1 (.int .i64 a) (.int .i64 b) 26).keepG hg2 (by omega)
  have G2 := grown_two (grown_alloc G1 _) hg2
  have sl1 := S1.lt
  have al2 := A2.lt
  clear hg2 R1 S1 G1
  have R2' := R2.alloc (.cells #[.int .i64 c, .int .i64 d] 26)
  have S2' := S2.alloc (.cells #[.int .i64 c, .int .i64 d] 26)
  have A2' := A2.alloc (.cells #[.int .i64 c, .int .i64 d] 26)
  have B2 := blk_new w2 (.int .i64 c) (.int .i64 d) 26
  have G2' := grown_alloc G2 (.cells #[.int .i64 c, .int .i64 d] 26)
  have H2 := hr2.alloc (.cells #[.int .i64 c, .int .i64 d] 26)
  have e1 : ¬ w.heap.size = w1.heap.size := by omega
  have e2 : ¬ w.heap.size + 1 = w1.heap.size := by omega
  have e3 : ¬ w.heap.size = w2.heap.size := by omega
  have e4 : ¬ w.heap.size + 1 = w2.heap.size := by omega
  have e5 : ¬ w1.heap.size = w2.heap.size := by omega
  clear R2 S2 A2 G2 hr2
  obtain ⟨a0, a1, az⟩ := A2'.cells
  go_wp2_with fail
  refine (vecOk_spec a b _).mono ?_; rintro e w3 ⟨rfl, hb3⟩
  have R3 := R2'.keep hb3
  have S3 := S2'.keep hb3
  have A3 := A2'.keep hb3
  have B3 := B2.keep hb3
  have G3 := grown_below G2' hb3
  have H3 := H2.below hb3
  clear R2' S2' A2' B2 G2' H2 a0 a1
  cases hv : vokB a b
  · obtain ⟨r0, r0', rz⟩ := R3.cells
    obtain ⟨rf0, rf1⟩ := R3.frozen
    obtain ⟨s0, s0', sz⟩ := S3.cells
    obtain ⟨sf0, sf1⟩ := S3.frozen
    go_wp2_with fail
    go_region_held3 (fun wx => (wx.cell? ⟨w1.heap.size, 0, none⟩ = some (.int .i64 a) ∧ wx.cell? ⟨w1.heap.size, 1, none⟩ = some (.int .i64 b) ∧ w1.heap.size < wx.heap.size) ∧ (wx.cell? ⟨w2.heap.size, 0, none⟩ = some (.int .i64 c) ∧ wx.cell? ⟨w2.heap.size, 1, none⟩ = some (.int .i64 d) ∧ w2.heap.size < wx.heap.size)) (first | (with_reducible exact ⟨A3.drew.cells, B3.drew.cells⟩) | (with_reducible refine S22.drew (S22.set (W := w3) ⟨A3.cells, B3.cells⟩ ?_ ?_) <;> omega) | (with_reducible refine S22.drew (S22.set (S22.set (W := w3) ⟨A3.cells, B3.cells⟩ ?_ ?_) ?_ ?_) <;> omega)) (first | fail)
    all_goals
      go_wp2_with fail
      exact bodyPost_ret (v := .tuple #[.agg #[.int .i64 a, .int .i64 b], .agg #[.int .i64 c, .int .i64 d]]) (by simp [results, Try.results60, go_sem, r0, r0', s0, s0']) rfl
        ⟨_, rfl, ⟨_, _, _, _, rfl⟩, grown_drew (grown_set (grown_set (grown_set (grown_set G3 (by simp) _) (by simp) _) (by simp) _) (by simp) _), ((((H3.setNew hr (by simp)).setNew hr (by simp)).setNew hr (by simp)).setNew hr (by simp)).drew.mono (by omega)⟩
  · obtain ⟨b0, b1, bz⟩ := B3.cells
    go_wp2_with fail
    refine (vecOk_spec c d _).mono ?_; rintro e w4 ⟨rfl, hb4⟩
    have R4 := R3.keep hb4
    have S4 := S3.keep hb4
    have A4 := A3.keep hb4
    have B4 := B3.keep hb4
    have G4 := grown_below G3 hb4
    have H4 := H3.below hb4
    clear R3 S3 A3 B3 G3 H3
    clear b0 b1
    cases hv2 : vokB c d
    · obtain ⟨r0, r0', rz⟩ := R4.cells
      obtain ⟨rf0, rf1⟩ := R4.frozen
      obtain ⟨s0, s0', sz⟩ := S4.cells
      obtain ⟨sf0, sf1⟩ := S4.frozen
      go_wp2_with fail
      go_region_held3 (fun wx => (wx.cell? ⟨w1.heap.size, 0, none⟩ = some (.int .i64 a) ∧ wx.cell? ⟨w1.heap.size, 1, none⟩ = some (.int .i64 b) ∧ w1.heap.size < wx.heap.size) ∧ (wx.cell? ⟨w2.heap.size, 0, none⟩ = some (.int .i64 c) ∧ wx.cell? ⟨w2.heap.size, 1, none⟩ = some (.int .i64 d) ∧ w2.heap.size < wx.heap.size)) (first | (with_reducible exact ⟨A4.drew.cells, B4.drew.cells⟩) | (with_reducible refine S22.drew (S22.set (W := w4) ⟨A4.cells, B4.cells⟩ ?_ ?_) <;> omega) | (with_reducible refine S22.drew (S22.set (S22.set (W := w4) ⟨A4.cells, B4.cells⟩ ?_ ?_) ?_ ?_) <;> omega)) (first | fail)
      all_goals
        go_wp2_with fail
        exact bodyPost_ret (v := .tuple #[.agg #[.int .i64 a, .int .i64 b], .agg #[.int .i64 c, .int .i64 d]]) (by simp [results, Try.results60, go_sem, r0, r0', s0, s0']) rfl
          ⟨_, rfl, ⟨_, _, _, _, rfl⟩, grown_drew (grown_set (grown_set (grown_set (grown_set G4 (by simp) _) (by simp) _) (by simp) _) (by simp) _), ((((H4.setNew hr (by simp)).setNew hr (by simp)).setNew hr (by simp)).setNew hr (by simp)).drew.mono (by omega)⟩
    · have t1 := two_pos a.toNat
      obtain ⟨v1, v2, v3, v4⟩ := vokB_bd hv
      go_wp2_with fail
      refine (pick_any g (P + 8) v 8 _ (H4.mono (by omega)) (by omega)).mono ?_
      rintro e w5 ⟨k, rfl, k0, k1, _, hg5, H5⟩
      clear k1
      have R5 := R4.keepG hg5 (by omega)
      have S5 := S4.keepG hg5 (by omega)
      have A5 := A4.keepG hg5 (by omega)
      have B5 := B4.keepG hg5 (by omega)
      have G5 := grown_two G4 hg5
      clear hg5 R4 S4 A4 B4 G4 H4
      by_cases hk : 0 < k
      · obtain ⟨a0, a1, az⟩ := A5.cells
        obtain ⟨b0, b1, bz⟩ := B5.cells
        obtain ⟨bf0, bf1⟩ := B5.frozen
        have z1 : ¬ two a.toNat = 0 := by omega
        go_wp2_with fail
        refine wp_region_still_tail 9 (by kernel_rfl) (by kernel_rfl) ?_
        simp only [List.take_succ_cons, List.take_zero, List.drop_succ_cons, List.drop_zero]
        repeat still_step
        still_call ((l1Two_any a _ (by omega)).mono (fun e w h => ⟨h.1, h.2.symm⟩))
        repeat still_step
        refine wpStill_nil ?_
        go_wp2_with fail
        have R6 := ((R5.set_other (p := ⟨w2.heap.size, 0, none⟩) (z := .int .i64 a) (by simp; omega)).set_other (p := ⟨w2.heap.size, 1, none⟩) (z := .int .i64 (d.tmod (two a.toNat))) (by simp; omega)).drew
        have S6 := ((S5.set_other (p := ⟨w2.heap.size, 0, none⟩) (z := .int .i64 a) (by simp; omega)).set_other (p := ⟨w2.heap.size, 1, none⟩) (z := .int .i64 (d.tmod (two a.toNat))) (by simp; omega)).drew
        have A6 := ((A5.set_other (p := ⟨w2.heap.size, 0, none⟩) (z := .int .i64 a) (by simp; omega)).set_other (p := ⟨w2.heap.size, 1, none⟩) (z := .int .i64 (d.tmod (two a.toNat))) (by simp; omega)).drew
        have B6 := ((B5.set0 (.int .i64 a)).set1 (.int .i64 (d.tmod (two a.toNat)))).drew
        have G6 := grown_drew (grown_set (grown_set G5 (p := ⟨w2.heap.size, 0, none⟩) (by simp; omega) (.int .i64 a)) (p := ⟨w2.heap.size, 1, none⟩) (by simp; omega) (.int .i64 (d.tmod (two a.toNat))))
        have H6 := ((H5.setNew (q := ⟨w2.heap.size, 0, none⟩) (x := .int .i64 a) hr (by simp; omega)).setNew (q := ⟨w2.heap.size, 1, none⟩) (x := .int .i64 (d.tmod (two a.toNat))) hr (by simp; omega)).drew
        generalize d.tmod (two a.toNat) = m at *
        generalize ((w5.setCell ⟨w2.heap.size, 0, none⟩ (.int .i64 a)).setCell ⟨w2.heap.size, 1, none⟩ (.int .i64 m)).drew = w6 at *
        clear R5 S5 A5 B5 G5 H5 a0 a1 az b0 b1 bz bf0 bf1
        obtain ⟨r0, r0', rz⟩ := R6.cells
        obtain ⟨rf0, rf1⟩ := R6.frozen
        obtain ⟨s0, s0', sz⟩ := S6.cells
        obtain ⟨sf0, sf1⟩ := S6.frozen
        go_wp2_with fail
        go_region_held3 (fun wx => (wx.cell? ⟨w1.heap.size, 0, none⟩ = some (.int .i64 a) ∧ wx.cell? ⟨w1.heap.size, 1, none⟩ = some (.int .i64 b) ∧ w1.heap.size < wx.heap.size) ∧ (wx.cell? ⟨w2.heap.size, 0, none⟩ = some (.int .i64 a) ∧ wx.cell? ⟨w2.heap.size, 1, none⟩ = some (.int .i64 m) ∧ w2.heap.size < wx.heap.size)) (first | (with_reducible exact ⟨A6.drew.cells, B6.drew.cells⟩) | (with_reducible refine S22.drew (S22.set (W := w6) ⟨A6.cells, B6.cells⟩ ?_ ?_) <;> omega) | (with_reducible refine S22.drew (S22.set (S22.set (W := w6) ⟨A6.cells, B6.cells⟩ ?_ ?_) ?_ ?_) <;> omega)) (first | fail)
        all_goals
          go_wp2_with fail
          exact bodyPost_ret (v := .tuple #[.agg #[.int .i64 a, .int .i64 b], .agg #[.int .i64 a, .int .i64 m]]) (by simp [results, Try.results60, go_sem, r0, r0', s0, s0']) rfl
            ⟨_, rfl, ⟨_, _, _, _, rfl⟩, grown_drew (grown_set (grown_set (grown_set (grown_set G6 (by simp) _) (by simp) _) (by simp) _) (by simp) _), ((((H6.setNew hr (by simp)).setNew hr (by simp)).setNew hr (by simp)).setNew hr (by simp)).drew.mono (by omega)⟩
      · obtain ⟨r0, r0', rz⟩ := R5.cells
        obtain ⟨rf0, rf1⟩ := R5.frozen
        obtain ⟨s0, s0', sz⟩ := S5.cells
        obtain ⟨sf0, sf1⟩ := S5.frozen
        go_wp2_with fail
        go_region_held3 (fun wx => (wx.cell? ⟨w1.heap.size, 0, none⟩ = some (.int .i64 a) ∧ wx.cell? ⟨w1.heap.size, 1, none⟩ = some (.int .i64 b) ∧ w1.heap.size < wx.heap.size) ∧ (wx.cell? ⟨w2.heap.size, 0, none⟩ = some (.int .i64 (c)) ∧ wx.cell? ⟨w2.heap.size, 1, none⟩ = some (.int .i64 (d)) ∧ w2.heap.size < wx.heap.size)) (first | (with_reducible exact ⟨A5.drew.cells, B5.drew.cells⟩) | (with_reducible refine S22.drew (S22.set (W := w5) ⟨A5.cells, B5.cells⟩ ?_ ?_) <;> omega) | (with_reducible refine S22.drew (S22.set (S22.set (W := w5) ⟨A5.cells, B5.cells⟩ ?_ ?_) ?_ ?_) <;> omega)) (first | fail)
        all_goals
          go_wp2_with fail
          exact bodyPost_ret (v := .tuple #[.agg #[.int .i64 a, .int .i64 b], .agg #[.int .i64 (c), .int .i64 (d)]]) (by simp [results, Try.results60, go_sem, r0, r0', s0, s0']) rfl
            ⟨_, rfl, ⟨_, _, _, _, rfl⟩, grown_drew (grown_set (grown_set (grown_set (grown_set G5 (by simp) _) (by simp) _) (by simp) _) (by simp) _), ((((H5.setNew hr (by simp)).setNew hr (by simp)).setNew hr (by simp)).setNew hr (by simp)).drew.mono (by omega)⟩
end Go.Proofs.Ytpnpjdebmakamaa
