/- What the reference's VecBin comes to: for every argument. -/
import Derived.Test.YtpnpjdebmakamaaVp
namespace Go.Proofs.Ytpnpjdebmakamaa
open Go.RowKit

set_option maxHeartbeats 1000000 in
theorem vecBin_spec_14 (a b c d : Int) (w : World) (hv : vokB a b = true) (hv2 : vokB c d = true) :
    Calls Try.prog 44 #[.int .i64 14, .agg #[.int .i64 a, .int .i64 b], .agg #[.int .i64 c, .int .i64 d]] w fun e w' => e = .returned (.tuple #[.agg #[.int .i64 (binW 14 a b c d), .int .i64 (binN 14 a b c d)], .bool (binB 14 a b c d)]) ∧ Below w.heap.size w w' := by
  obtain ⟨h1, h2, h3, h4⟩ := vok_small hv
  obtain ⟨h5, h6, h7, h8⟩ := vok_small hv2
  have t1 := two_pos c.toNat
  have t2 := vok_two hv2
  have m0 := Int.mul_nonneg h3 (show (0 : Int) ≤ two c.toNat by omega)
  have m1 : b * two c.toNat ≤ 240 := by have := Int.mul_le_mul h4 t2 (by omega) (by decide); omega
  have E1 := Lib.hid (IntWalk.i64_in (a + c) (by omega))
  have E2 : Hid (IntKind.i64.wrap (IntKind.i64.wrap (b * two c.toNat) + d) = b * two c.toNat + d) := by
    show _ = _
    rw [IntWalk.i64_in (b * two c.toNat) (by omega)]; exact IntWalk.i64_in _ (by omega)
  have T := Lib.hid (fun W => l1Two_any c W (by omega))
  by_cases h9 : a + c ≤ 4
  · have e0 : binB 14 a b c d = true := by simp [binB, hv, hv2, h9]
    have e1 : binW 14 a b c d = a + c := by simp [binW, e0]
    have e2 : binN 14 a b c d = b * two c.toNat + d := by simp [binN, e0]
    rw [e0, e1, e2]; clear e0 e1 e2
    go_enter Try.func44, Try.ntmps44
    go_wp2_with fail
    refine (vecOk_spec a b _).mono ?_; rintro e w1 ⟨rfl, hb1⟩
    obtain ⟨p1, q1, r1⟩ := blk_three hb1
    obtain ⟨c0, c1, cz⟩ := p1.cells
    obtain ⟨d0, d1, dz⟩ := q1.cells
    go_wp2_with fail
    refine (vecOk_spec c d _).mono ?_; rintro e w2 ⟨rfl, hb2⟩
    have p2 := p1.keep hb2
    have q2 := q1.keep hb2
    have r2 := r1.keep hb2
    clear c0 c1 d0 d1
    obtain ⟨c0, c1, cz⟩ := p2.cells
    obtain ⟨d0, d1, dz⟩ := q2.cells
    obtain ⟨r0, r0', rz⟩ := r2.cells
    obtain ⟨f0, f1⟩ := r2.frozen
    go_wp2_with fail
    go_region_held3 (fun wx => (wx.cell? ⟨w.heap.size, 0, none⟩ = some (.int .i64 a) ∧ wx.cell? ⟨w.heap.size, 1, none⟩ = some (.int .i64 b) ∧ w.heap.size < wx.heap.size) ∧ (wx.cell? ⟨w.heap.size + 1, 0, none⟩ = some (.int .i64 c) ∧ wx.cell? ⟨w.heap.size + 1, 1, none⟩ = some (.int .i64 d) ∧ w.heap.size + 1 < wx.heap.size)) (first | exact ⟨p2.drew.cells, q2.drew.cells⟩ | assumption | exact keep_set22 (by assumption) (by omega) (by omega) | go_keep)
      (first | (go_at_call 49; refine (T.out _).mono ?_; rintro e w3 ⟨rfl, rfl⟩))
    go_wp2_with fail
    rw [E1.out, E2.out]
    exact bodyPost_ret (v := .tuple #[.agg #[.int .i64 (a + c), .int .i64 (b * two c.toNat + d)], .bool true]) (by simp [results, Try.results44, go_sem, r0, r0']) rfl
      ⟨rfl, (below_set2 (g := w.heap.size + 1 + 1) (below_two (below_res3 hb1) hb2) (by omega) _ _).drew⟩
  · have e0 : binB 14 a b c d = false := by simp [binB, h9]
    have e1 : binW 14 a b c d = 0 := by simp [binW, e0]
    have e2 : binN 14 a b c d = 0 := by simp [binN, e0]
    rw [e0, e1, e2]; clear e0 e1 e2
    go_enter Try.func44, Try.ntmps44
    go_wp2_with fail
    refine (vecOk_spec a b _).mono ?_; rintro e w1 ⟨rfl, hb1⟩
    obtain ⟨p1, q1, r1⟩ := blk_three hb1
    obtain ⟨c0, c1, cz⟩ := p1.cells
    obtain ⟨d0, d1, dz⟩ := q1.cells
    go_wp2_with fail
    refine (vecOk_spec c d _).mono ?_; rintro e w2 ⟨rfl, hb2⟩
    have p2 := p1.keep hb2
    have q2 := q1.keep hb2
    have r2 := r1.keep hb2
    clear c0 c1 d0 d1
    obtain ⟨c0, c1, cz⟩ := p2.cells
    obtain ⟨d0, d1, dz⟩ := q2.cells
    obtain ⟨r0, r0', rz⟩ := r2.cells
    obtain ⟨f0, f1⟩ := r2.frozen
    go_wp2_with fail
    exact bodyPost_ret (v := .tuple #[.agg #[.int .i64 0, .int .i64 0], .bool false]) (by simp [results, Try.results44, go_sem, r0, r0']) rfl ⟨rfl, below_set2 (g := w.heap.size + 1 + 1) (below_two (below_res3 hb1) hb2) (by omega) _ _⟩

set_option maxHeartbeats 1000000 in
theorem vecBin_spec (op a b c d : Int) (w : World) :
    Calls Try.prog 44 #[.int .i64 op, .agg #[.int .i64 a, .int .i64 b], .agg #[.int .i64 c, .int .i64 d]] w fun e w' => e = .returned (.tuple #[.agg #[.int .i64 (binW op a b c d), .int .i64 (binN op a b c d)], .bool (binB op a b c d)]) ∧ Below w.heap.size w w' := by
  cases hv : vokB a b
  · have e0 : binB op a b c d = false := by simp [binB, hv]
    have e1 : binW op a b c d = 0 := by simp [binW, e0]
    have e2 : binN op a b c d = 0 := by simp [binN, e0]
    rw [e0, e1, e2]; clear e0 e1 e2
    go_enter Try.func44, Try.ntmps44
    go_wp2_with fail
    refine (vecOk_spec a b _).mono ?_; rintro e w1 ⟨rfl, hb1⟩
    obtain ⟨p1, q1, r1⟩ := blk_three hb1
    obtain ⟨r0, r0', rz⟩ := r1.cells
    obtain ⟨f0, f1⟩ := r1.frozen
    go_wp2_with fail
    exact bodyPost_ret (v := .tuple #[.agg #[.int .i64 0, .int .i64 0], .bool false]) (by simp [results, Try.results44, go_sem, r0, r0']) rfl ⟨rfl, below_set2 (g := w.heap.size + 1 + 1) (below_res3 hb1) (by omega) _ _⟩
  · cases hv2 : vokB c d
    · have e0 : binB op a b c d = false := by simp [binB, hv2]
      have e1 : binW op a b c d = 0 := by simp [binW, e0]
      have e2 : binN op a b c d = 0 := by simp [binN, e0]
      rw [e0, e1, e2]; clear e0 e1 e2
      go_enter Try.func44, Try.ntmps44
      go_wp2_with fail
      refine (vecOk_spec a b _).mono ?_; rintro e w1 ⟨rfl, hb1⟩
      obtain ⟨p1, q1, r1⟩ := blk_three hb1
      obtain ⟨c0, c1, cz⟩ := p1.cells
      obtain ⟨d0, d1, dz⟩ := q1.cells
      go_wp2_with fail
      refine (vecOk_spec c d _).mono ?_; rintro e w2 ⟨rfl, hb2⟩
      have p2 := p1.keep hb2
      have q2 := q1.keep hb2
      have r2 := r1.keep hb2
      clear c0 c1 d0 d1
      obtain ⟨c0, c1, cz⟩ := p2.cells
      obtain ⟨d0, d1, dz⟩ := q2.cells
      obtain ⟨r0, r0', rz⟩ := r2.cells
      obtain ⟨f0, f1⟩ := r2.frozen
      go_wp2_with fail
      exact bodyPost_ret (v := .tuple #[.agg #[.int .i64 0, .int .i64 0], .bool false]) (by simp [results, Try.results44, go_sem, r0, r0']) rfl ⟨rfl, below_set2 (g := w.heap.size + 1 + 1) (below_two (below_res3 hb1) hb2) (by omega) _ _⟩
    · by_cases h14 : op = 14
      · subst h14; exact vecBin_spec_14 a b c d w hv hv2
      · have h14' : (op == 14) = false := by simpa using h14
        by_cases ho : op < 3 ∨ 13 < op
        · have e0 : binB op a b c d = false := by simp [binB, h14]; omega
          have e1 : binW op a b c d = 0 := by simp [binW, e0]
          have e2 : binN op a b c d = 0 := by simp [binN, e0]
          rw [e0, e1, e2]; clear e0 e1 e2
          have L := Lib.hid (fun W => l1Bin_no op a b c d W ho)
          clear h14 ho
          go_enter Try.func44, Try.ntmps44
          go_wp2_with fail
          refine (vecOk_spec a b _).mono ?_; rintro e w1 ⟨rfl, hb1⟩
          obtain ⟨p1, q1, r1⟩ := blk_three hb1
          obtain ⟨c0, c1, cz⟩ := p1.cells
          obtain ⟨d0, d1, dz⟩ := q1.cells
          go_wp2_with fail
          refine (vecOk_spec c d _).mono ?_; rintro e w2 ⟨rfl, hb2⟩
          have p2 := p1.keep hb2
          have q2 := q1.keep hb2
          have r2 := r1.keep hb2
          clear c0 c1 d0 d1
          obtain ⟨c0, c1, cz⟩ := p2.cells
          obtain ⟨d0, d1, dz⟩ := q2.cells
          go_wp2_with fail
          refine (L.out _).mono ?_; rintro e w3 ⟨rfl, hb3⟩
          have p3 := p2.keep hb3
          have q3 := q2.keep hb3
          have r3 := r2.keep hb3
          clear c0 c1 d0 d1
          obtain ⟨c0, c1, cz⟩ := p3.cells
          obtain ⟨d0, d1, dz⟩ := q3.cells
          obtain ⟨r0, r0', rz⟩ := r3.cells
          obtain ⟨f0, f1⟩ := r3.frozen
          go_wp2_with fail
          exact bodyPost_ret (v := .tuple #[.agg #[.int .i64 0, .int .i64 0], .bool false]) (by simp [results, Try.results44, go_sem, r0, r0']) rfl ⟨rfl, below_set2 (g := w.heap.size + 1 + 1) (below_two (below_two (below_res3 hb1) hb2) hb3) (by omega) _ _⟩
        · have L : ∃ X, ∀ W, Calls Try.prog 64 #[.int .i64 op, .agg #[.int .i64 a, .int .i64 b], .agg #[.int .i64 c, .int .i64 d]] W fun e w' => e = .returned (.tuple #[.int .i64 X, .bool true]) ∧ Below W.heap.size W w' := by
            have : op = 3 ∨ op = 4 ∨ op = 5 ∨ op = 6 ∨ op = 7 ∨ op = 8 ∨ op = 9 ∨ op = 10 ∨ op = 11 ∨ op = 12 ∨ op = 13 := by omega
            rcases this with rfl | rfl | rfl | rfl | rfl | rfl | rfl | rfl | rfl | rfl | rfl
            · exact ⟨_, fun W => l1Bin_3 a b c d W hv hv2⟩
            · exact ⟨_, fun W => l1Bin_4 a b c d W hv hv2⟩
            · exact ⟨_, fun W => l1Bin_5 a b c d W hv hv2⟩
            · exact ⟨_, fun W => l1Bin_6 a b c d W hv hv2⟩
            · exact ⟨_, fun W => l1Bin_7 a b c d W hv hv2⟩
            · exact ⟨_, fun W => l1Bin_8 a b c d W hv hv2⟩
            · exact ⟨_, fun W => l1Bin_9 a b c d W hv hv2⟩
            · exact ⟨_, fun W => l1Bin_10 a b c d W hv hv2⟩
            · exact ⟨_, fun W => l1Bin_11 a b c d W hv hv2⟩
            · exact ⟨_, fun W => l1Bin_12 a b c d W hv hv2⟩
            · exact ⟨_, fun W => l1Bin_13 a b c d W hv hv2⟩
          by_cases hac : a = c
          · subst hac
            have e0 : binB op a b a d = true := by simp [binB, hv, hv2, h14]; omega
            have e1 : binW op a b a d = a := by simp [binW, e0, h14]
            have e2 : binN op a b a d = speR op a b d := by rw [speR_eq (by omega) hv hv2]; simp [binN, e0, h14]
            rw [e0, e1, e2]; clear e0 e1 e2 L
            have L : ∀ W, Calls Try.prog 64 #[.int .i64 op, .agg #[.int .i64 a, .int .i64 b], .agg #[.int .i64 a, .int .i64 d]] W fun e w' => e = .returned (.tuple #[.int .i64 (speR op a b d), .bool true]) ∧ Below W.heap.size W w' := by
              have : op = 3 ∨ op = 4 ∨ op = 5 ∨ op = 6 ∨ op = 7 ∨ op = 8 ∨ op = 9 ∨ op = 10 ∨ op = 11 ∨ op = 12 ∨ op = 13 := by omega
              rcases this with rfl | rfl | rfl | rfl | rfl | rfl | rfl | rfl | rfl | rfl | rfl
              · exact fun W => l1Bin_3 a b a d W hv hv2
              · exact fun W => l1Bin_4 a b a d W hv hv2
              · exact fun W => l1Bin_5 a b a d W hv hv2
              · exact fun W => l1Bin_6 a b a d W hv hv2
              · exact fun W => l1Bin_7 a b a d W hv hv2
              · exact fun W => l1Bin_8 a b a d W hv hv2
              · exact fun W => l1Bin_9 a b a d W hv hv2
              · exact fun W => l1Bin_10 a b a d W hv hv2
              · exact fun W => l1Bin_11 a b a d W hv hv2
              · exact fun W => l1Bin_12 a b a d W hv hv2
              · exact fun W => l1Bin_13 a b a d W hv hv2
            have L' := Lib.hid L
            clear L h14 ho
            generalize speR op a b d = r at *
            have hne : (a != a) = false := by simp
            go_enter Try.func44, Try.ntmps44
            go_wp2_with fail
            refine (vecOk_spec a b _).mono ?_; rintro e w1 ⟨rfl, hb1⟩
            obtain ⟨p1, q1, r1⟩ := blk_three hb1
            obtain ⟨c0, c1, cz⟩ := p1.cells
            obtain ⟨d0, d1, dz⟩ := q1.cells
            go_wp2_with fail
            refine (vecOk_spec a d _).mono ?_; rintro e w2 ⟨rfl, hb2⟩
            have p2 := p1.keep hb2
            have q2 := q1.keep hb2
            have r2 := r1.keep hb2
            clear c0 c1 d0 d1
            obtain ⟨c0, c1, cz⟩ := p2.cells
            obtain ⟨d0, d1, dz⟩ := q2.cells
            go_wp2_with fail
            refine (L'.out _).mono ?_; rintro e w3 ⟨rfl, hb3⟩
            have p3 := p2.keep hb3
            have q3 := q2.keep hb3
            have r3 := r2.keep hb3
            clear c0 c1 d0 d1
            obtain ⟨c0, c1, cz⟩ := p3.cells
            obtain ⟨d0, d1, dz⟩ := q3.cells
            obtain ⟨r0, r0', rz⟩ := r3.cells
            obtain ⟨f0, f1⟩ := r3.frozen
            go_wp2_with fail
            exact bodyPost_ret (v := .tuple #[.agg #[.int .i64 a, .int .i64 r], .bool true]) (by simp [results, Try.results44, go_sem, r0, r0']) rfl ⟨rfl, below_set2 (g := w.heap.size + 1 + 1) (below_two (below_two (below_res3 hb1) hb2) hb3) (by omega) _ _⟩
          · have e0 : binB op a b c d = false := by simp [binB, h14, hac]
            have e1 : binW op a b c d = 0 := by simp [binW, e0]
            have e2 : binN op a b c d = 0 := by simp [binN, e0]
            rw [e0, e1, e2]; clear e0 e1 e2
            have hac' : (a != c) = true := by simpa using hac
            obtain ⟨X, L⟩ := L
            have L' := Lib.hid L
            clear L h14 ho hac
            go_enter Try.func44, Try.ntmps44
            go_wp2_with fail
            refine (vecOk_spec a b _).mono ?_; rintro e w1 ⟨rfl, hb1⟩
            obtain ⟨p1, q1, r1⟩ := blk_three hb1
            obtain ⟨c0, c1, cz⟩ := p1.cells
            obtain ⟨d0, d1, dz⟩ := q1.cells
            go_wp2_with fail
            refine (vecOk_spec c d _).mono ?_; rintro e w2 ⟨rfl, hb2⟩
            have p2 := p1.keep hb2
            have q2 := q1.keep hb2
            have r2 := r1.keep hb2
            clear c0 c1 d0 d1
            obtain ⟨c0, c1, cz⟩ := p2.cells
            obtain ⟨d0, d1, dz⟩ := q2.cells
            go_wp2_with fail
            refine (L'.out _).mono ?_; rintro e w3 ⟨rfl, hb3⟩
            have p3 := p2.keep hb3
            have q3 := q2.keep hb3
            have r3 := r2.keep hb3
            clear c0 c1 d0 d1
            obtain ⟨c0, c1, cz⟩ := p3.cells
            obtain ⟨d0, d1, dz⟩ := q3.cells
            obtain ⟨r0, r0', rz⟩ := r3.cells
            obtain ⟨f0, f1⟩ := r3.frozen
            go_wp2_with fail
            exact bodyPost_ret (v := .tuple #[.agg #[.int .i64 0, .int .i64 0], .bool false]) (by simp [results, Try.results44, go_sem, r0, r0']) rfl ⟨rfl, below_set2 (g := w.heap.size + 1 + 1) (below_two (below_two (below_res3 hb1) hb2) hb3) (by omega) _ _⟩
end Go.Proofs.Ytpnpjdebmakamaa
