/- The walk of FnVecCut: for every argument the law returns true and leaves alone what was there. -/
import Derived.Test.YtpnpjdebmakamaaRf
import Derived.Test.YtpnpjdebmakamaaWp
import Derived.Test.YtpnpjdebmakamaaBy
import Derived.Test.YtpnpjdebmakamaaVs
namespace Go.Proofs.Ytpnpjdebmakamaa
open Go.RowKit

/-- a right number as natural numbers -/
theorem vok_nat {a b : Int} (h : vokB a b = true) : ∃ m n : Nat, a = m ∧ b = n ∧ 1 ≤ m ∧ m < 5 ∧ n < 16 := by
  obtain ⟨h1, h2, h3, h4⟩ := vokB_bd h
  have := vok_two h
  exact ⟨a.toNat, b.toNat, by omega, by omega, by omega, by omega, by omega⟩

def cutJoin (m n i : Int) : Bool := cutB m n (m - 1) i && cutB m n (i - 1) 0 &&
    decide (binW 14 (cutW m n (m - 1) i) (cutN m n (m - 1) i) (cutW m n (i - 1) 0) (cutN m n (i - 1) 0) = m) &&
    decide (binN 14 (cutW m n (m - 1) i) (cutN m n (m - 1) i) (cutW m n (i - 1) 0) (cutN m n (i - 1) 0) = n)
theorem cut_join_nat : ∀ m : Nat, m < 5 → ∀ n : Nat, n < 16 → ∀ i : Nat, i < m → (!vokB m n || decide (i < 1) || cutJoin m n i) = true := by decide +kernel
theorem cut_join {a b : Int} (h : vokB a b = true) (i : Int) (h1 : 1 ≤ i) (h2 : i < a) :
    cutB a b (a - 1) i = true ∧ cutB a b (i - 1) 0 = true ∧
    binW 14 (cutW a b (a - 1) i) (cutN a b (a - 1) i) (cutW a b (i - 1) 0) (cutN a b (i - 1) 0) = a ∧
    binN 14 (cutW a b (a - 1) i) (cutN a b (a - 1) i) (cutW a b (i - 1) 0) (cutN a b (i - 1) 0) = b := by
  obtain ⟨m, n, rfl, rfl, q1, q2, q3⟩ := vok_nat h
  obtain ⟨i, rfl⟩ := Int.eq_ofNat_of_zero_le (show 0 ≤ i by omega)
  have := cut_join_nat m q2 n q3 i (by omega)
  simp only [h, Bool.not_true, Bool.false_or, Bool.or_eq_true, decide_eq_true_eq, cutJoin, Bool.and_eq_true] at this
  rcases this with hx | ⟨⟨⟨x1, x2⟩, x3⟩, x4⟩
  · omega
  · exact ⟨x1, x2, x3, x4⟩
theorem cut_all_nat : ∀ m : Nat, m < 5 → ∀ n : Nat, n < 16 → (!vokB m n || (cutB m n ((m : Int) - 1) 0 && decide (cutW m n ((m : Int) - 1) 0 = m) && decide (cutN m n ((m : Int) - 1) 0 = n))) = true := by decide +kernel
theorem cut_all {a b : Int} (h : vokB a b = true) : cutB a b (a - 1) 0 = true ∧ cutW a b (a - 1) 0 = a ∧ cutN a b (a - 1) 0 = b := by
  obtain ⟨m, n, rfl, rfl, q1, q2, q3⟩ := vok_nat h
  have := cut_all_nat m q2 n q3
  simp only [h, Bool.not_true, Bool.false_or, decide_eq_true_eq, Bool.and_eq_true] at this
  exact ⟨this.1.1, this.1.2, this.2⟩
theorem cut_ok_nat : ∀ m : Nat, m < 5 → ∀ n : Nat, n < 16 → ∀ i : Nat, i < 5 → ∀ j : Nat, j < 5 → (!cutB m n i j || vokB (cutW m n i j) (cutN m n i j)) = true := by decide +kernel
theorem cut_ok {a b hi lo : Int} (h : cutB a b hi lo = true) : vokB a b = true ∧ vokB (cutW a b hi lo) (cutN a b hi lo) = true ∧ cutW a b hi lo = hi - lo + 1 ∧ 0 ≤ lo ∧ lo ≤ hi ∧ hi < a := by
  have h' := h
  have hw : cutW a b hi lo = hi - lo + 1 := by simp [cutW, h]
  simp only [cutB, Bool.and_eq_true, decide_eq_true_eq] at h'
  obtain ⟨h1, h2, h3, h4⟩ := h'
  refine ⟨h1, ?_, hw, h2, h3, h4⟩
  obtain ⟨m, n, rfl, rfl, q1, q2, q3⟩ := vok_nat h1
  obtain ⟨i, rfl⟩ := Int.eq_ofNat_of_zero_le (show 0 ≤ hi by omega)
  obtain ⟨j, rfl⟩ := Int.eq_ofNat_of_zero_le h2
  have := cut_ok_nat m q2 n q3 i (by omega) j (by omega)
  simpa [h] using this

set_option linter.unusedSimpArgs false in
set_option maxRecDepth 20000 in
set_option maxHeartbeats 4000000 in
theorem walk_FnVecCut (v : Value) {w : World} (h : BytesIn w v) :
    Calls Try.prog 12 #[v] w fun e w' => e = .returned (.bool true) ∧ Below w.heap.size w w' := by
  have hl : ∃ a len cap, v = .slice a len cap := by
    rcases h with ⟨a, c, rfl⟩ | ⟨b, off, len, cap, rfl, _⟩ <;> exact ⟨_, _, _, rfl⟩
  obtain ⟨a0, len, cap, rfl⟩ := hl
  by_cases hb : (1048576 : Int) < len
  · go_enter Try.func12, Try.ntmps12
    go_wp2_with fail
    go_ret
    exact ⟨rfl, Below.refl _ _⟩
  · go_enter Try.func12, Try.ntmps12
    go_wp2_with fail
    refine (drawVecCut_any _ _ h).mono ?_
    rintro e w1 ⟨_, rfl, ⟨a, b, hi, lo, rfl⟩, hb1⟩
    have b1 := blk_new w1 (.int .i64 a) (.int .i64 b) 26
    have K1 := below_step hb1 (.cells #[.int .i64 a, .int .i64 b] 26)
    have hn : w.heap.size ≤ w1.heap.size := hb1.size
    clear hb1
    cases hB : cutB a b hi lo
    · have hW : cutW a b hi lo = 0 := by simp [cutW, hB]
      have hN : cutN a b hi lo = 0 := by simp [cutN, hB]
      go_wp2_with fail
      refine (vecCut_impl a b hi lo _).mono ?_; rintro e w2 ⟨rfl, hb2⟩
      rw [hW, hN, hB]
      have b2 := b1.keep hb2
      have K2 := below_two K1 hb2
      clear b1 K1 hb2
      have c2 := blk_new w2 (.int .i64 0) (.int .i64 0) 26
      have b2' := b2.alloc (.cells #[.int .i64 0, .int .i64 0] 26)
      obtain ⟨q0, q1, qz⟩ := b2.cells
      go_wp2_with fail
      refine (vecCut_spec a b hi lo _).mono ?_; rintro e w3 ⟨rfl, hb3⟩
      rw [hW, hN, hB]
      have c3 := c2.keep hb3
      obtain ⟨p0, p1, pz⟩ := c3.cells
      have e1 : ¬ w2.heap.size = w3.heap.size := by have := c3.lt; omega
      go_wp2_with fail
      go_ret
      exact ⟨rfl, below_step (below_two (below_step K2 _) hb3) _⟩
    · obtain ⟨hv, ho, hw, l1, l2, l3⟩ := cut_ok hB
      obtain ⟨a1, a2, _, _⟩ := vokB_bd hv
      have HW := Lib.hid hw
      have HO := Lib.hid ho
      have HV := Lib.hid hv
      clear hw ho hv
      go_wp2_with fail
      refine (vecCut_impl a b hi lo _).mono ?_; rintro e w2 ⟨rfl, hb2⟩
      rw [hB]
      have b2 := b1.keep hb2
      have K2 := below_two K1 hb2
      have hn2 : w1.heap.size < w2.heap.size := b2.lt
      clear b1 K1 hb2
      have c2 := blk_new w2 (.int .i64 (cutW a b hi lo)) (.int .i64 (cutN a b hi lo)) 26
      have b2' := b2.alloc (.cells #[.int .i64 (cutW a b hi lo), .int .i64 (cutN a b hi lo)] 26)
      have K2' := below_step K2 (.cells #[.int .i64 (cutW a b hi lo), .int .i64 (cutN a b hi lo)] 26)
      obtain ⟨q0, q1, qz⟩ := b2.cells
      go_wp2_with fail
      refine (vecCut_spec a b hi lo _).mono ?_; rintro e w3 ⟨rfl, hb3⟩
      rw [hB]
      have b3 := (b2'.keep hb3).alloc (.cells #[.int .i64 (cutW a b hi lo), .int .i64 (cutN a b hi lo)] 26)
      have c3 := (c2.keep hb3).alloc (.cells #[.int .i64 (cutW a b hi lo), .int .i64 (cutN a b hi lo)] 26)
      have K3 := below_step (below_two K2' hb3) (.cells #[.int .i64 (cutW a b hi lo), .int .i64 (cutN a b hi lo)] 26)
      clear b2 b2' c2 K2 K2' q0 q1 qz
      have d3 := blk_new w3 (.int .i64 (cutW a b hi lo)) (.int .i64 (cutN a b hi lo)) 26
      have hn3 := hb3.size
      simp at hn3
      clear hb3
      have e1 : ¬ w2.heap.size = w3.heap.size := by omega
      obtain ⟨p0, p1, pz⟩ := c3.cells
      go_wp2_with fail
      clear p0 p1 pz d3
      go_loopw [10] (fun i wr => ∃ k : Int, 1 ≤ k ∧ k ≤ a ∧ i = .int .i64 k ∧ Blk wr w1.heap.size (.int .i64 a) (.int .i64 b) 26 ∧ Blk wr w2.heap.size (.int .i64 (cutW a b hi lo)) (.int .i64 (cutN a b hi lo)) 26 ∧ Below w.heap.size w wr) (fun i _ => (a - intOf i).toNat)
      case atStart => exact ⟨1, by omega, by omega, rfl, b3, c3, K3⟩
      case round =>
        obtain ⟨k, k0, k1, rfl, b4, c4, K4⟩ := hrel
        clear b3 c3 K3
        obtain ⟨q0, q1, qz⟩ := b4.cells
        by_cases hk : k < a
        · obtain ⟨x1, x2, x3, x4⟩ := cut_join HV.out k k0 hk
          have X1 := Lib.hid x1
          have X2 := Lib.hid x2
          have X3 := Lib.hid x3
          have X4 := Lib.hid x4
          clear x1 x2 x3 x4
          go_wp2_with fail
          refine (vecCut_impl a b (a - 1) k _).mono ?_; rintro e w5 ⟨rfl, hb5⟩
          rw [X1.out]
          have b5 := (b4.keep hb5).alloc (.cells #[.int .i64 (cutW a b (a - 1) k), .int .i64 (cutN a b (a - 1) k)] 26)
          have c5 := (c4.keep hb5).alloc (.cells #[.int .i64 (cutW a b (a - 1) k), .int .i64 (cutN a b (a - 1) k)] 26)
          have d5 := blk_new w5 (.int .i64 (cutW a b (a - 1) k)) (.int .i64 (cutN a b (a - 1) k)) 26
          have K5 := below_step (below_two K4 hb5) (.cells #[.int .i64 (cutW a b (a - 1) k), .int .i64 (cutN a b (a - 1) k)] 26)
          have n5 := (b4.keep hb5).lt
          clear b4 c4 K4 hb5 q0 q1 qz
          obtain ⟨q0, q1, qz⟩ := b5.cells
          go_wp2_with fail
          refine (vecCut_impl a b (k - 1) 0 _).mono ?_; rintro e w6 ⟨rfl, hb6⟩
          rw [X2.out]
          have b6 := (b5.keep hb6).alloc (.cells #[.int .i64 (cutW a b (k - 1) 0), .int .i64 (cutN a b (k - 1) 0)] 26)
          have c6 := (c5.keep hb6).alloc (.cells #[.int .i64 (cutW a b (k - 1) 0), .int .i64 (cutN a b (k - 1) 0)] 26)
          have d6 := (d5.keep hb6).alloc (.cells #[.int .i64 (cutW a b (k - 1) 0), .int .i64 (cutN a b (k - 1) 0)] 26)
          have f6 := blk_new w6 (.int .i64 (cutW a b (k - 1) 0)) (.int .i64 (cutN a b (k - 1) 0)) 26
          have K6 := below_step (below_two K5 hb6) (.cells #[.int .i64 (cutW a b (k - 1) 0), .int .i64 (cutN a b (k - 1) 0)] 26)
          clear b5 c5 d5 K5 hb6 q0 q1 qz
          go_wp2_with fail
          generalize w6.alloc (.cells #[.int .i64 (cutW a b (k - 1) 0), .int .i64 (cutN a b (k - 1) 0)] 26) = w7 at *
          obtain ⟨q0, q1, qz⟩ := b6.cells
          obtain ⟨p0, p1, pz⟩ := d6.cells
          obtain ⟨r0, r1, rz⟩ := f6.cells
          go_region_held3 (fun wx => (wx.cell? ⟨w1.heap.size, 0, none⟩ = some (.int .i64 a) ∧ wx.cell? ⟨w1.heap.size, 1, none⟩ = some (.int .i64 b)) ∧ (wx.cell? ⟨w5.heap.size, 0, none⟩ = some (.int .i64 (cutW a b (a - 1) k)) ∧ wx.cell? ⟨w5.heap.size, 1, none⟩ = some (.int .i64 (cutN a b (a - 1) k))) ∧ (wx.cell? ⟨w6.heap.size, 0, none⟩ = some (.int .i64 (cutW a b (k - 1) 0)) ∧ wx.cell? ⟨w6.heap.size, 1, none⟩ = some (.int .i64 (cutN a b (k - 1) 0))))
            (first | (with_reducible assumption) | (with_reducible exact cells3 b6.drew d6.drew f6.drew))
            (first | (go_at_call 39; refine (wpBin_any 14 _ _ _ _ _).mono ?_; rintro e w8 ⟨rfl, hb8⟩; rw [X3.out, X4.out]; have s8 := cells3 (b6.drew.keep hb8) (d6.drew.keep hb8) (f6.drew.keep hb8)))
          have b8 := b6.drew.keep hb8
          have c8 := c6.drew.keep hb8
          have K8 := below_two K6.drew hb8
          clear b6 c6 K6 d6 f6 hb8 s8 q0 q1 qz p0 p1 pz r0 r1 rz
          go_wp2_with fail
          exact ⟨⟨k + 1, by omega, by omega, by go_num, b8, c8, K8⟩, by simp [intOf]; omega⟩
        · obtain ⟨y1, y2, y3⟩ := cut_all HV.out
          have Y1 := Lib.hid y1
          have Y2 := Lib.hid y2
          have Y3 := Lib.hid y3
          clear y1 y2 y3
          go_wp2_with fail
          refine (vecCut_impl a b (a - 1) 0 _).mono ?_; rintro e w5 ⟨rfl, hb5⟩
          rw [Y1.out, Y2.out, Y3.out]
          have b5 := (b4.keep hb5).alloc (.cells #[.int .i64 a, .int .i64 b] 26)
          have c5 := (c4.keep hb5).alloc (.cells #[.int .i64 a, .int .i64 b] 26)
          have d5 := blk_new w5 (.int .i64 a) (.int .i64 b) 26
          have K5 := below_step (below_two K4 hb5) (.cells #[.int .i64 a, .int .i64 b] 26)
          have n5 := (b4.keep hb5).lt
          have n5' := (c4.keep hb5).lt
          have e5 : ¬ w1.heap.size = w5.heap.size := by omega
          have e6 : ¬ w2.heap.size = w5.heap.size := by omega
          clear b4 c4 K4 hb5 q0 q1 qz
          obtain ⟨q0, q1, qz⟩ := b5.cells
          obtain ⟨p0, p1, pz⟩ := c5.cells
          have hw' : (cutW a b hi lo == hi - lo + 1) = true := by simp [HW.out]
          go_wp2_with fail
          refine (vecOk_impl (cutW a b hi lo) (cutN a b hi lo) _).mono ?_; rintro e w6 ⟨rfl, hb6⟩
          rw [HO.out]
          go_wp2_with fail
          go_ret
          exact ⟨rfl, below_two K5 hb6⟩
end Go.Proofs.Ytpnpjdebmakamaa
