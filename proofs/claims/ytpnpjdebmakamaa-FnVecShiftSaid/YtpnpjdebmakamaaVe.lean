/- What VecCut and VecCmp come to. The conditions stand in each statement. -/
import Derived.Test.YtpnpjdebmakamaaVd
namespace Go.Proofs.Ytpnpjdebmakamaa
open Go.RowKit

/-! ### VecCut -/
def cutB (a b hi lo : Int) : Bool := vokB a b && decide (0 ≤ lo ∧ lo ≤ hi ∧ hi < a)
def cutW (a b hi lo : Int) : Int := if cutB a b hi lo = true then hi - lo + 1 else 0
def cutN (a b hi lo : Int) : Int := if cutB a b hi lo = true then b / two lo.toNat % two (hi - lo + 1).toNat else 0

set_option maxHeartbeats 1000000 in
theorem vecCut_impl (a b hi lo : Int) (w : World) :
    Calls Try.prog 30 #[.agg #[.int .i64 a, .int .i64 b], .int .i64 hi, .int .i64 lo] w fun e w' => e = .returned (.tuple #[.agg #[.int .i64 (cutW a b hi lo), .int .i64 (cutN a b hi lo)], .bool (cutB a b hi lo)]) ∧ Below w.heap.size w w' := by
  cases hc : cutB a b hi lo
  · have e2 : cutW a b hi lo = 0 := by simp [cutW, hc]
    have e3 : cutN a b hi lo = 0 := by simp [cutN, hc]
    rw [e2, e3]; clear e2 e3
    cases hv : vokB a b
    · clear hc
      go_enter Try.func30, Try.ntmps30
      go_wp2_with fail
      refine (vecOk_impl a b _).mono ?_; rintro e w1 ⟨rfl, hb⟩
      have q := (blk_new1 w (.cells #[.int .i64 a, .int .i64 b] 26) (.int .i64 0) (.int .i64 0) 26).keep hb
      obtain ⟨q0, q1, qz⟩ := q.cells
      obtain ⟨f0, f1⟩ := q.frozen
      go_wp2_with fail
      exact bodyPost_ret (v := .tuple #[.agg #[.int .i64 0, .int .i64 0], .bool false]) (by simp [results, Try.results30, go_sem, q0, q1]) rfl
        ⟨rfl, below_set2 (below_res hb) (by simp) _ _⟩
    · have hx : ¬ (0 ≤ lo ∧ lo ≤ hi ∧ hi < a) := by simpa [cutB, hv] using hc
      clear hc
      by_cases x1 : lo < 0
      · clear hx
        go_enter Try.func30, Try.ntmps30
        go_wp2_with fail
        refine (vecOk_impl a b _).mono ?_; rintro e w1 ⟨rfl, hb⟩
        have q := (blk_new1 w (.cells #[.int .i64 a, .int .i64 b] 26) (.int .i64 0) (.int .i64 0) 26).keep hb
        obtain ⟨q0, q1, qz⟩ := q.cells
        obtain ⟨f0, f1⟩ := q.frozen
        go_wp2_with fail
        exact bodyPost_ret (v := .tuple #[.agg #[.int .i64 0, .int .i64 0], .bool false]) (by simp [results, Try.results30, go_sem, q0, q1]) rfl
          ⟨rfl, below_set2 (below_res hb) (by simp) _ _⟩
      · by_cases x2 : hi < lo
        · clear hx
          go_enter Try.func30, Try.ntmps30
          go_wp2_with fail
          refine (vecOk_impl a b _).mono ?_; rintro e w1 ⟨rfl, hb⟩
          have q := (blk_new1 w (.cells #[.int .i64 a, .int .i64 b] 26) (.int .i64 0) (.int .i64 0) 26).keep hb
          obtain ⟨q0, q1, qz⟩ := q.cells
          obtain ⟨f0, f1⟩ := q.frozen
          go_wp2_with fail
          exact bodyPost_ret (v := .tuple #[.agg #[.int .i64 0, .int .i64 0], .bool false]) (by simp [results, Try.results30, go_sem, q0, q1]) rfl
            ⟨rfl, below_set2 (below_res hb) (by simp) _ _⟩
        · have x3 : a ≤ hi := by omega
          clear hx
          go_enter Try.func30, Try.ntmps30
          go_wp2_with fail
          refine (vecOk_impl a b _).mono ?_; rintro e w1 ⟨rfl, hb⟩
          have p := ((blk_new w (.int .i64 a) (.int .i64 b) 26).alloc _).keep hb
          have q := (blk_new1 w (.cells #[.int .i64 a, .int .i64 b] 26) (.int .i64 0) (.int .i64 0) 26).keep hb
          obtain ⟨c0, c1, hz⟩ := p.cells
          obtain ⟨q0, q1, qz⟩ := q.cells
          obtain ⟨f0, f1⟩ := q.frozen
          go_wp2_with fail
          exact bodyPost_ret (v := .tuple #[.agg #[.int .i64 0, .int .i64 0], .bool false]) (by simp [results, Try.results30, go_sem, q0, q1]) rfl
            ⟨rfl, below_set2 (below_res hb) (by simp) _ _⟩
  · have e2 : cutW a b hi lo = hi - lo + 1 := by simp [cutW, hc]
    have e3 : cutN a b hi lo = b / two lo.toNat % two (hi - lo + 1).toNat := by simp [cutN, hc]
    rw [e2, e3]; clear e2 e3
    simp only [cutB, Bool.and_eq_true, decide_eq_true_eq] at hc
    obtain ⟨hv, x1, x2, x3⟩ := hc
    have t2 : two a.toNat ≤ 16 := vok_two hv
    have t1 := two_pos a.toNat
    obtain ⟨h1, h2, h3, h4⟩ := vokB_bd hv
    have g1 : 0 ≤ b / two lo.toNat := Int.ediv_nonneg h3 (by have := two_pos lo.toNat; omega)
    have g2 : b / two lo.toNat ≤ 16 := by have := Int.ediv_le_self (two lo.toNat) h3; omega
    have C : ∀ W : World, Calls Try.prog 53 #[.int .u64 (b / 2 ^ lo.toNat), .int .i64 (hi - lo + 1)] W fun e w' => e = .returned (.int .u64 (b / two lo.toNat % two (hi - lo + 1).toNat)) ∧ W = w' := fun W => by
      rw [two_eq]; exact cut_any _ _ W g1 (by omega) (by omega) (by omega)
    have g3 : 0 ≤ b / two lo.toNat % two (hi - lo + 1).toNat := Int.emod_nonneg _ (by have := two_pos (hi - lo + 1).toNat; omega)
    have g4 : b / two lo.toNat % two (hi - lo + 1).toNat ≤ 16 := by
      have := Int.emod_lt_of_pos (b / two lo.toNat) (b := two (hi - lo + 1).toNat) (by have := two_pos (hi - lo + 1).toNat; omega)
      have : two (hi - lo + 1).toNat ≤ 16 := two_le (m := (hi - lo + 1).toNat) (n := 4) (by omega)
      omega
    have E := Lib.hid (wrap_small g3 (by omega))
    have C' := Lib.hid C
    clear C g1 g2
    go_enter Try.func30, Try.ntmps30
    go_wp2_with fail
    refine (vecOk_impl a b _).mono ?_; rintro e w1 ⟨rfl, hb⟩
    have p := ((blk_new w (.int .i64 a) (.int .i64 b) 26).alloc _).keep hb
    have q := (blk_new1 w (.cells #[.int .i64 a, .int .i64 b] 26) (.int .i64 0) (.int .i64 0) 26).keep hb
    obtain ⟨c0, c1, hz⟩ := p.cells
    go_wp2_with fail
    refine (raw_any a b _ (by omega) (by omega)).mono ?_; rintro e w2 ⟨rfl, hb2⟩
    have r := q.keep hb2
    obtain ⟨q0, q1, qz⟩ := r.cells
    obtain ⟨f0, f1⟩ := r.frozen
    go_wp2_with fail
    refine (C'.out _).mono ?_; rintro e w3 ⟨rfl, rfl⟩
    go_wp2_with fail
    exact bodyPost_ret (v := .tuple #[.agg #[.int .i64 (hi - lo + 1), .int .i64 (b / two lo.toNat % two (hi - lo + 1).toNat)], .bool true]) (by simp [results, Try.results30, go_sem, q0, q1]) rfl
      ⟨rfl, below_set2 (below_two (below_res hb) hb2) (by simp) _ _⟩

set_option maxHeartbeats 1000000 in
theorem vecCut_spec (a b hi lo : Int) (w : World) :
    Calls Try.prog 29 #[.agg #[.int .i64 a, .int .i64 b], .int .i64 hi, .int .i64 lo] w fun e w' => e = .returned (.tuple #[.agg #[.int .i64 (cutW a b hi lo), .int .i64 (cutN a b hi lo)], .bool (cutB a b hi lo)]) ∧ Below w.heap.size w w' := by
  cases hc : cutB a b hi lo
  · have e2 : cutW a b hi lo = 0 := by simp [cutW, hc]
    have e3 : cutN a b hi lo = 0 := by simp [cutN, hc]
    rw [e2, e3]; clear e2 e3
    cases hv : vokB a b
    · clear hc
      go_enter Try.func29, Try.ntmps29
      go_wp2_with fail
      refine (vecOk_spec a b _).mono ?_; rintro e w1 ⟨rfl, hb⟩
      have q := (blk_new1 w (.cells #[.int .i64 a, .int .i64 b] 26) (.int .i64 0) (.int .i64 0) 26).keep hb
      obtain ⟨q0, q1, qz⟩ := q.cells
      obtain ⟨f0, f1⟩ := q.frozen
      go_wp2_with fail
      exact bodyPost_ret (v := .tuple #[.agg #[.int .i64 0, .int .i64 0], .bool false]) (by simp [results, Try.results29, go_sem, q0, q1]) rfl
        ⟨rfl, below_set2 (below_res hb) (by simp) _ _⟩
    · have hx : ¬ (0 ≤ lo ∧ lo ≤ hi ∧ hi < a) := by simpa [cutB, hv] using hc
      clear hc
      by_cases x1 : lo < 0
      · clear hx
        go_enter Try.func29, Try.ntmps29
        go_wp2_with fail
        refine (vecOk_spec a b _).mono ?_; rintro e w1 ⟨rfl, hb⟩
        have q := (blk_new1 w (.cells #[.int .i64 a, .int .i64 b] 26) (.int .i64 0) (.int .i64 0) 26).keep hb
        obtain ⟨q0, q1, qz⟩ := q.cells
        obtain ⟨f0, f1⟩ := q.frozen
        go_wp2_with fail
        exact bodyPost_ret (v := .tuple #[.agg #[.int .i64 0, .int .i64 0], .bool false]) (by simp [results, Try.results29, go_sem, q0, q1]) rfl
          ⟨rfl, below_set2 (below_res hb) (by simp) _ _⟩
      · by_cases x2 : hi < lo
        · clear hx
          go_enter Try.func29, Try.ntmps29
          go_wp2_with fail
          refine (vecOk_spec a b _).mono ?_; rintro e w1 ⟨rfl, hb⟩
          have q := (blk_new1 w (.cells #[.int .i64 a, .int .i64 b] 26) (.int .i64 0) (.int .i64 0) 26).keep hb
          obtain ⟨q0, q1, qz⟩ := q.cells
          obtain ⟨f0, f1⟩ := q.frozen
          go_wp2_with fail
          exact bodyPost_ret (v := .tuple #[.agg #[.int .i64 0, .int .i64 0], .bool false]) (by simp [results, Try.results29, go_sem, q0, q1]) rfl
            ⟨rfl, below_set2 (below_res hb) (by simp) _ _⟩
        · have x3 : a ≤ hi := by omega
          clear hx
          go_enter Try.func29, Try.ntmps29
          go_wp2_with fail
          refine (vecOk_spec a b _).mono ?_; rintro e w1 ⟨rfl, hb⟩
          have p := ((blk_new w (.int .i64 a) (.int .i64 b) 26).alloc _).keep hb
          have q := (blk_new1 w (.cells #[.int .i64 a, .int .i64 b] 26) (.int .i64 0) (.int .i64 0) 26).keep hb
          obtain ⟨c0, c1, hz⟩ := p.cells
          obtain ⟨q0, q1, qz⟩ := q.cells
          obtain ⟨f0, f1⟩ := q.frozen
          go_wp2_with fail
          exact bodyPost_ret (v := .tuple #[.agg #[.int .i64 0, .int .i64 0], .bool false]) (by simp [results, Try.results29, go_sem, q0, q1]) rfl
            ⟨rfl, below_set2 (below_res hb) (by simp) _ _⟩
  · have e2 : cutW a b hi lo = hi - lo + 1 := by simp [cutW, hc]
    have e3 : cutN a b hi lo = b / two lo.toNat % two (hi - lo + 1).toNat := by simp [cutN, hc]
    rw [e2, e3]; clear e2 e3
    simp only [cutB, Bool.and_eq_true, decide_eq_true_eq] at hc
    obtain ⟨hv, x1, x2, x3⟩ := hc
    have t2 : two a.toNat ≤ 16 := vok_two hv
    have t1 := two_pos a.toNat
    obtain ⟨h1, h2, h3, h4⟩ := vokB_bd hv
    have g1 : 0 ≤ b / two lo.toNat := Int.ediv_nonneg h3 (by have := two_pos lo.toNat; omega)
    have g2 : b / two lo.toNat ≤ 16 := by have := Int.ediv_le_self (two lo.toNat) h3; omega
    have g3 : 0 ≤ b / two lo.toNat % two (hi - lo + 1).toNat := Int.emod_nonneg _ (by have := two_pos (hi - lo + 1).toNat; omega)
    have g4 : b / two lo.toNat % two (hi - lo + 1).toNat ≤ 16 := by
      have := Int.emod_lt_of_pos (b / two lo.toNat) (b := two (hi - lo + 1).toNat) (by have := two_pos (hi - lo + 1).toNat; omega)
      have : two (hi - lo + 1).toNat ≤ 16 := two_le (m := (hi - lo + 1).toNat) (n := 4) (by omega)
      omega
    have E := Lib.hid (wrap_small g3 (by omega))
    have D1 := two_pos lo.toNat
    have D2 := two_pos (hi - lo + 1).toNat
    have E5 : Hid ((IntKind.i64.wrap (b.tdiv (two lo.toNat))).tmod (two (hi - lo + 1).toNat) = b / two lo.toNat % two (hi - lo + 1).toNat) := by
      show _ = _
      rw [Int.tdiv_eq_ediv_of_nonneg h3, wrap_small g1 (by omega), Int.tmod_eq_emod_of_nonneg g1]
    have z1 : ¬ two lo.toNat = 0 := by omega
    have z2 : ¬ two (hi - lo + 1).toNat = 0 := by omega
    go_enter Try.func29, Try.ntmps29
    go_wp2_with fail
    refine (vecOk_spec a b _).mono ?_; rintro e w1 ⟨rfl, hb⟩
    have p := ((blk_new w (.int .i64 a) (.int .i64 b) 26).alloc _).keep hb
    have q := (blk_new1 w (.cells #[.int .i64 a, .int .i64 b] 26) (.int .i64 0) (.int .i64 0) 26).keep hb
    obtain ⟨c0, c1, hz⟩ := p.cells
    obtain ⟨q0, q1, qz⟩ := q.cells
    obtain ⟨f0, f1⟩ := q.frozen
    go_wp2_with fail
    go_region_held3 (fun wx => wx.cell? ⟨w.heap.size, 0, none⟩ = some (.int .i64 a) ∧ wx.cell? ⟨w.heap.size, 1, none⟩ = some (.int .i64 b) ∧ w.heap.size < wx.heap.size) (first | go_keep)
      (first | (go_at_call_of 49 (Value.int IntKind.i64 lo); refine (l1Two_any lo _ (by omega)).mono ?_; rintro e w2 ⟨rfl, rfl⟩)
             | (go_at_call 49; refine (l1Two_any (hi - lo + 1) _ (by omega)).mono ?_; rintro e w2 ⟨rfl, rfl⟩))
    go_wp2
    rw [E5.out]
    exact bodyPost_ret (v := .tuple #[.agg #[.int .i64 (hi - lo + 1), .int .i64 (b / two lo.toNat % two (hi - lo + 1).toNat)], .bool true]) (by simp [results, Try.results29, go_sem, q0, q1]) rfl
      ⟨rfl, (below_set2 (below_res hb) (by simp) _ _).drew⟩

end Go.Proofs.Ytpnpjdebmakamaa
