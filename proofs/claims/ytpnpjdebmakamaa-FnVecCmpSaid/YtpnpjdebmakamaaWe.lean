/- The walk of FnVecCmp: for every argument the law returns true and leaves alone what was there. -/
import Derived.Test.YtpnpjdebmakamaaRe
import Derived.Test.YtpnpjdebmakamaaVf
namespace Go.Proofs.Ytpnpjdebmakamaa
open Go.RowKit

theorem vsgn_half {a b : Int} (h : vokB a b = true) : (vsgn a b < 0 ↔ two a.toNat ≤ 2 * b) ∧ (vsgn a b = if two a.toNat ≤ 2 * b then b - two a.toNat else b) := by
  rcases vokB_elim h with ⟨rfl, h1, h2⟩ | ⟨rfl, h1, h2⟩ | ⟨rfl, h1, h2⟩ | ⟨rfl, h1, h2⟩
  all_goals
    simp only [vsgn, h, if_true, show two (Int.toNat 1 - 1) = 1 from rfl, show two (Int.toNat 2 - 1) = 2 from rfl, show two (Int.toNat 3 - 1) = 4 from rfl, show two (Int.toNat 4 - 1) = 8 from rfl, show two (Int.toNat 1) = 2 from rfl, show two (Int.toNat 2) = 4 from rfl, show two (Int.toNat 3) = 8 from rfl, show two (Int.toNat 4) = 16 from rfl]
    refine ⟨?_, ?_⟩ <;> split <;> (try split) <;> omega

theorem cmpB_elim {op a b c d : Int} (h : cmpB op a b c d = true) : vokB a b = true ∧ vokB c d = true ∧ a = c := by
  simp only [cmpB, Bool.and_eq_true, decide_eq_true_eq] at h
  exact ⟨h.1.1.1, h.1.1.2, h.1.2⟩
theorem cmpB_in {a b c d : Int} (h1 : vokB a b = true) (h2 : vokB c d = true) (h3 : a = c) (k : Int) (hk : 15 ≤ k ∧ k ≤ 17) : cmpB k a b c d = true := by
  simp only [cmpB, h1, h2, Bool.and_eq_true, decide_eq_true_eq]; exact ⟨⟨⟨trivial, trivial⟩, h3⟩, hk⟩
theorem cmp_tri {a b c d : Int} (h1 : vokB a b = true) (h2 : vokB c d = true) (h3 : a = c) (k : Int) (hk : k = 16 ∨ k = 17) :
    (cmpV k a b c d = true ∧ cmpV k c d a b = false ∧ cmpV 15 a b c d = false) ∨ (cmpV k a b c d = false ∧ cmpV k c d a b = true ∧ cmpV 15 a b c d = false) ∨ (cmpV k a b c d = false ∧ cmpV k c d a b = false ∧ cmpV 15 a b c d = true) := by
  have e1 := (vsgn_half h1).2
  have e2 := (vsgn_half h2).2
  obtain ⟨_, _, l1, l2⟩ := vokB_bd h1
  obtain ⟨_, _, l3, l4⟩ := vokB_bd h2
  subst h3
  have c1 := cmpB_in h1 h2 rfl k (by omega)
  have c2 := cmpB_in h2 h1 rfl k (by omega)
  have c3 := cmpB_in h1 h2 rfl 15 (by omega)
  simp only [cmpV, c1, c2, c3, Bool.true_and]
  rcases hk with rfl | rfl
  · simp
    omega
  · simp
    split at e1 <;> split at e2 <;> omega
theorem cmp_end {a b c d : Int} (h1 : vokB a b = true) (h2 : vokB c d = true) (h3 : a = c) :
    cmpV 17 a b c d = decide (vsgn a b < vsgn c d) ∧ ((cmpV 16 a b c d == cmpV 17 a b c d) == (decide (vsgn a b < 0) == decide (vsgn c d < 0))) = true := by
  have e1 := (vsgn_half h1).2
  have e2 := (vsgn_half h2).2
  obtain ⟨_, _, l1, l2⟩ := vokB_bd h1
  obtain ⟨_, _, l3, l4⟩ := vokB_bd h2
  subst h3
  have c1 := cmpB_in h1 h2 rfl 17 (by omega)
  have c2 := cmpB_in h1 h2 rfl 16 (by omega)
  simp only [cmpV, c1, c2, Bool.true_and]
  refine ⟨by simp, ?_⟩
  by_cases x1 : vsgn a b < 0 <;> by_cases x2 : vsgn a d < 0 <;> by_cases x3 : b < d <;> by_cases x4 : vsgn a b < vsgn a d <;> simp [x1, x2, x3, x4] <;>
    (split at e1 <;> split at e2 <;> omega)

set_option linter.unusedSimpArgs false in
set_option maxRecDepth 20000 in
set_option maxHeartbeats 4000000 in
theorem walk_FnVecCmp (v : Value) {w : World} (h : BytesIn w v) :
    Calls Try.prog 11 #[v] w fun e w' => e = .returned (.bool true) ∧ Below w.heap.size w w' := by
  have hl : ∃ a len cap, v = .slice a len cap := by
    rcases h with ⟨a, c, rfl⟩ | ⟨b, off, len, cap, rfl, _⟩ <;> exact ⟨_, _, _, rfl⟩
  obtain ⟨a0, len, cap, rfl⟩ := hl
  by_cases hb : (1048576 : Int) < len
  · go_enter Try.func11, Try.ntmps11
    go_wp2_with fail
    go_ret
    exact ⟨rfl, Below.refl _ _⟩
  · go_enter Try.func11, Try.ntmps11
    go_wp2_with fail
    refine (drawVecCmp_any _ _ h).mono ?_
    rintro e w1 ⟨_, rfl, ⟨op, a, b, c, d, rfl⟩, hb1⟩
    have b1 := (blk_new w1 (.int .i64 a) (.int .i64 b) 26).alloc (.cells #[.int .i64 c, .int .i64 d] 26)
    have c1 := blk_new1 w1 (.cells #[.int .i64 a, .int .i64 b] 26) (.int .i64 c) (.int .i64 d) 26
    have K1 := below_step (below_step hb1 (.cells #[.int .i64 a, .int .i64 b] 26)) (.cells #[.int .i64 c, .int .i64 d] 26)
    have hn : w.heap.size ≤ w1.heap.size := hb1.size
    clear hb1
    cases hB : cmpB op a b c d
    · have hV : cmpV op a b c d = false := by simp [cmpV, hB]
      go_wp2_with fail
      refine (vecCmp_impl op a b c d _).mono ?_; rintro e w2 ⟨rfl, hb2⟩
      have b2 := b1.keep hb2
      have c2 := c1.keep hb2
      have K2 := below_two K1 hb2
      clear b1 c1 K1 hb2
      rw [hV, hB]
      obtain ⟨q0, q1, qz⟩ := b2.cells
      obtain ⟨p0, p1, pz⟩ := c2.cells
      go_wp2_with fail
      refine (vecCmp_spec op a b c d _).mono ?_; rintro e w3 ⟨rfl, hb3⟩
      rw [hV, hB]
      go_wp2_with fail
      go_ret
      exact ⟨rfl, below_two K2 hb3⟩
    · go_wp2_with fail
      refine (vecCmp_impl op a b c d _).mono ?_; rintro e w2 ⟨rfl, hb2⟩
      have b2 := b1.keep hb2
      have c2 := c1.keep hb2
      have K2 := below_two K1 hb2
      clear b1 c1 K1 hb2
      rw [hB]
      obtain ⟨q0, q1, qz⟩ := b2.cells
      obtain ⟨p0, p1, pz⟩ := c2.cells
      go_wp2_with fail
      refine (vecCmp_spec op a b c d _).mono ?_; rintro e w3 ⟨rfl, hb3⟩
      have b3 := b2.keep hb3
      have c3 := c2.keep hb3
      have K3 := below_two K2 hb3
      clear b2 c2 K2 hb3 q0 q1 qz p0 p1 pz
      rw [hB]
      generalize cmpV op a b c d = zz
      cases zz
      all_goals
        obtain ⟨v1, v2, v3⟩ := cmpB_elim hB
        subst v3
        have hn3 := K3.size
        go_wp2_with fail
        go_loopw [10] (fun i wr => ∃ k : Int, 16 ≤ k ∧ k ≤ 18 ∧ i = .int .i64 k ∧ Blk wr w1.heap.size (.int .i64 a) (.int .i64 b) 26 ∧ Blk wr (w1.heap.size + 1) (.int .i64 a) (.int .i64 d) 26 ∧ Below w.heap.size w wr) (fun i _ => (18 - intOf i).toNat)
        case atStart => exact ⟨16, by omega, by omega, rfl, b3, c3, K3⟩
        case round =>
          obtain ⟨k, k0, k1, rfl, b4, c4, K4⟩ := hrel
          obtain ⟨q0, q1, qz⟩ := b4.cells
          obtain ⟨p0, p1, pz⟩ := c4.cells
          by_cases hk : k ≤ 17
          · have x1 := cmpB_in v1 v2 rfl k (by omega)
            have x2 := cmpB_in v2 v1 rfl k (by omega)
            have x3 := cmpB_in v1 v2 rfl 15 (by omega)
            rcases cmp_tri v1 v2 rfl k (by omega) with ⟨t1, t2, t3⟩ | ⟨t1, t2, t3⟩ | ⟨t1, t2, t3⟩
            all_goals
              go_wp2_with fail
              refine (vecCmp_impl k a b a d _).mono ?_; rintro e w5 ⟨rfl, hb5⟩
              rw [t1, x1]
              have b5 := b4.keep hb5
              have c5 := c4.keep hb5
              have K5 := below_two K4 hb5
              obtain ⟨q0, q1, qz⟩ := b5.cells
              obtain ⟨p0, p1, pz⟩ := c5.cells
              go_wp2_with fail
              refine (vecCmp_impl k a d a b _).mono ?_; rintro e w6 ⟨rfl, hb6⟩
              rw [t2, x2]
              have b6 := b5.keep hb6
              have c6 := c5.keep hb6
              have K6 := below_two K5 hb6
              clear q0 q1 qz p0 p1 pz
              obtain ⟨q0, q1, qz⟩ := b6.cells
              obtain ⟨p0, p1, pz⟩ := c6.cells
              go_wp2_with fail
              refine (vecCmp_impl 15 a b a d _).mono ?_; rintro e w7 ⟨rfl, hb7⟩
              rw [t3, x3]
              have b7 := b6.keep hb7
              have c7 := c6.keep hb7
              have K7 := below_two K6 hb7
              clear b5 c5 K5 b6 c6 K6 q0 q1 qz p0 p1 pz x1 x2 x3 t1 t2 t3 v1 v2 hb5 hb6 hb7 b4 c4 K4
              clear b3 c3 K3 hB
              go_wp2_with fail
              exact ⟨⟨k + 1, by omega, by omega, by go_num, b7, c7, K7⟩, by simp [intOf]; omega⟩
          · obtain ⟨u1, u2⟩ := cmp_end v1 v2 rfl
            have x1 := cmpB_in v1 v2 rfl 16 (by omega)
            have x2 := cmpB_in v1 v2 rfl 17 (by omega)
            clear b3 c3 K3 hB v1 v2
            cases hl : cmpV 16 a b a d <;> by_cases y1 : vsgn a b < vsgn a d <;> by_cases y2 : vsgn a b < 0 <;> by_cases y3 : vsgn a d < 0 <;> try simp [u1, hl, y1, y2, y3] at u2
            all_goals
              go_wp2_with fail
              refine (vecCmp_impl 16 a b a d _).mono ?_; rintro e w5 ⟨rfl, hb5⟩
              rw [hl, x1]
              have b5 := b4.keep hb5
              have c5 := c4.keep hb5
              have K5 := below_two K4 hb5
              clear q0 q1 qz p0 p1 pz
              obtain ⟨q0, q1, qz⟩ := b5.cells
              obtain ⟨p0, p1, pz⟩ := c5.cells
              go_wp2_with fail
              refine (vecCmp_impl 17 a b a d _).mono ?_; rintro e w6 ⟨rfl, hb6⟩
              rw [u1, x2]
              simp only [y1, decide_true, decide_false]
              have b6 := b5.keep hb6
              have c6 := c5.keep hb6
              have K6 := below_two K5 hb6
              clear q0 q1 qz p0 p1 pz
              obtain ⟨q0, q1, qz⟩ := b6.cells
              obtain ⟨p0, p1, pz⟩ := c6.cells
              go_wp2_with fail
              refine (vecSigned_impl a b _).mono ?_; rintro e w7 ⟨rfl, hb7⟩
              have b7 := b6.keep hb7
              have c7 := c6.keep hb7
              have K7 := below_two K6 hb7
              clear q0 q1 qz p0 p1 pz
              obtain ⟨q0, q1, qz⟩ := b7.cells
              obtain ⟨p0, p1, pz⟩ := c7.cells
              go_wp2_with fail
              refine (vecSigned_impl a d _).mono ?_; rintro e w8 ⟨rfl, hb8⟩
              have b8 := b7.keep hb8
              have K8 := below_two K7 hb8
              clear q0 q1 qz p0 p1 pz
              obtain ⟨q0, q1, qz⟩ := b8.cells
              go_wp2_with fail
              refine (vecSigned_spec a b _).mono ?_; rintro e w9 ⟨rfl, hb9⟩
              go_wp2_with fail
              go_ret
              first | exact ⟨rfl, below_two K8 hb9⟩ | exact ⟨by (by_cases m1 : vsgn a b < vsgn a d <;> by_cases m2 : vsgn a b < 0 <;> by_cases m3 : vsgn a d < 0 <;> first | (exfalso; omega) | simp [m1, m2, m3]), below_two K8 hb9⟩
end Go.Proofs.Ytpnpjdebmakamaa
