/- What the program's VecBin comes to, joined. For every argument. -/
import Derived.Test.YtpnpjdebmakamaaVl
import Derived.StillTailTactics
namespace Go.Proofs.Ytpnpjdebmakamaa
open Go.RowKit
theorem cat_law_nat : ∀ c : Nat, c < 5 → ∀ b : Nat, b < 16 → ∀ d : Nat, d < 16 → d < 2 ^ c → bits BinOp.or IntKind.i64 (IntKind.i64.wrap ((b : Int) * ((2 ^ c : Nat) : Int))) (d : Int) = (b : Int) * ((2 ^ c : Nat) : Int) + (d : Int) := by decide +kernel
theorem cat_law {a b c d : Int} (hv : vokB a b = true) (hv2 : vokB c d = true) : bits BinOp.or IntKind.i64 (IntKind.i64.wrap (b * 2 ^ c.toNat)) d = b * two c.toNat + d := by
  obtain ⟨h1, h2, h3, h4⟩ := vok_small hv
  obtain ⟨h5, h6, h7, h8⟩ := vok_small hv2
  have h9 := (vokB_bd hv2).2.2.2
  obtain ⟨m, rfl⟩ := Int.eq_ofNat_of_zero_le h3
  obtain ⟨n, rfl⟩ := Int.eq_ofNat_of_zero_le h7
  rw [two_eq]
  exact cat_law_nat c.toNat (by omega) m (by omega) n (by omega) (by unfold two at h9; omega)

set_option maxHeartbeats 1000000 in
theorem vecBin_impl_14 (a b c d : Int) (w : World) (hv : vokB a b = true) (hv2 : vokB c d = true) :
    Calls Try.prog 45 #[.int .i64 14, .agg #[.int .i64 a, .int .i64 b], .agg #[.int .i64 c, .int .i64 d]] w fun e w' => e = .returned (.tuple #[.agg #[.int .i64 (binW 14 a b c d), .int .i64 (binN 14 a b c d)], .bool (binB 14 a b c d)]) ∧ Below w.heap.size w w' := by
  obtain ⟨h1, h2, h3, h4⟩ := vok_small hv
  obtain ⟨h5, h6, h7, h8⟩ := vok_small hv2
  have E1 := Lib.hid (IntWalk.i64_in (a + c) (by omega))
  have E2 := Lib.hid (cat_law hv hv2)
  by_cases h9 : a + c ≤ 4
  · have e0 : binB 14 a b c d = true := by simp [binB, hv, hv2, h9]
    have e1 : binW 14 a b c d = a + c := by simp [binW, e0]
    have e2 : binN 14 a b c d = b * two c.toNat + d := by simp [binN, e0]
    rw [e0, e1, e2]; clear e0 e1 e2
    have W9 : Hid (IntKind.i64.wrap (a + c) ≤ 4) := by show _ ≤ 4; rw [E1.out]; exact h9
    go_enter Try.func45, Try.ntmps45
    go_wp2_with fail
    refine (vecOk_impl a b _).mono ?_; rintro e w1 ⟨rfl, hb1⟩
    obtain ⟨p1, q1, r1⟩ := blk_three hb1
    obtain ⟨c0, c1, cz⟩ := p1.cells
    obtain ⟨d0, d1, dz⟩ := q1.cells
    go_wp2_with fail
    refine (vecOk_impl c d _).mono ?_; rintro e w2 ⟨rfl, hb2⟩
    have p2 := p1.keep hb2
    have q2 := q1.keep hb2
    have r2 := r1.keep hb2
    clear c0 c1 d0 d1
    obtain ⟨c0, c1, cz⟩ := p2.cells
    obtain ⟨d0, d1, dz⟩ := q2.cells
    obtain ⟨r0, r0', rz⟩ := r2.cells
    obtain ⟨f0, f1⟩ := r2.frozen
    go_wp2_with fail
    go_region_held3 (fun wx => (wx.cell? ⟨w.heap.size, 0, none⟩ = some (.int .i64 a) ∧ wx.cell? ⟨w.heap.size, 1, none⟩ = some (.int .i64 b) ∧ w.heap.size < wx.heap.size) ∧ (wx.cell? ⟨w.heap.size + 1, 0, none⟩ = some (.int .i64 c) ∧ wx.cell? ⟨w.heap.size + 1, 1, none⟩ = some (.int .i64 d) ∧ w.heap.size + 1 < wx.heap.size)) (first | exact ⟨p2.drew.cells, q2.drew.cells⟩ | exact ⟨((p2.alloc _).drew).cells, ((q2.alloc _).drew).cells⟩ | (with_reducible exact keep22 (below_self_alloc _ _) (by assumption)) | exact keep_set22 (by assumption) (by omega) (by omega) | go_keep) (first | fail)
    go_wp2_with fail
    have E3 := E2.out
    rw [IntWalk.i64_left] at E3
    simp only [E2.out, E3]
    have R2 : Blk w2 (w.heap.size + 1 + 1) (.int .i64 0) (.int .i64 0) 26 := r2
    have x0 := fun o => (((R2.set0 (.int .i64 (a + c))).set1 (.int .i64 (b * two c.toNat + d))).alloc o).cells.1
    have x1 := fun o => (((R2.set0 (.int .i64 (a + c))).set1 (.int .i64 (b * two c.toNat + d))).alloc o).cells.2.1
    exact bodyPost_ret (v := .tuple #[.agg #[.int .i64 (a + c), .int .i64 (b * two c.toNat + d)], .bool true]) (by simp [results, Try.results45, go_sem, x0, x1]) rfl
      ⟨rfl, (below_step (below_set2 (g := w.heap.size + 1 + 1) (below_two (below_res3 hb1) hb2) (by omega) _ _) _).drew⟩
  · have e0 : binB 14 a b c d = false := by simp [binB, h9]
    have e1 : binW 14 a b c d = 0 := by simp [binW, e0]
    have e2 : binN 14 a b c d = 0 := by simp [binN, e0]
    rw [e0, e1, e2]; clear e0 e1 e2
    go_enter Try.func45, Try.ntmps45
    go_wp2_with fail
    refine (vecOk_impl a b _).mono ?_; rintro e w1 ⟨rfl, hb1⟩
    obtain ⟨p1, q1, r1⟩ := blk_three hb1
    obtain ⟨c0, c1, cz⟩ := p1.cells
    obtain ⟨d0, d1, dz⟩ := q1.cells
    go_wp2_with fail
    refine (vecOk_impl c d _).mono ?_; rintro e w2 ⟨rfl, hb2⟩
    have p2 := p1.keep hb2
    have q2 := q1.keep hb2
    have r2 := r1.keep hb2
    clear c0 c1 d0 d1
    obtain ⟨c0, c1, cz⟩ := p2.cells
    obtain ⟨d0, d1, dz⟩ := q2.cells
    obtain ⟨r0, r0', rz⟩ := r2.cells
    obtain ⟨f0, f1⟩ := r2.frozen
    go_wp2_with fail
    go_region_held3 (fun wx => (wx.cell? ⟨w.heap.size, 0, none⟩ = some (.int .i64 a) ∧ wx.cell? ⟨w.heap.size, 1, none⟩ = some (.int .i64 b) ∧ w.heap.size < wx.heap.size) ∧ (wx.cell? ⟨w.heap.size + 1, 0, none⟩ = some (.int .i64 c) ∧ wx.cell? ⟨w.heap.size + 1, 1, none⟩ = some (.int .i64 d) ∧ w.heap.size + 1 < wx.heap.size)) (first | exact ⟨p2.drew.cells, q2.drew.cells⟩ | exact ⟨((p2.alloc _).drew).cells, ((q2.alloc _).drew).cells⟩ | (with_reducible exact keep22 (below_self_alloc _ _) (by assumption)) | exact keep_set22 (by assumption) (by omega) (by omega) | go_keep) (first | fail)
    go_wp2_with fail
    have R2 : Blk w2 (w.heap.size + 1 + 1) (.int .i64 0) (.int .i64 0) 26 := r2
    have x0 := fun o => (((R2.set0 (.int .i64 0)).set1 (.int .i64 0)).alloc o).cells.1
    have x1 := fun o => (((R2.set0 (.int .i64 0)).set1 (.int .i64 0)).alloc o).cells.2.1
    exact bodyPost_ret (v := .tuple #[.agg #[.int .i64 0, .int .i64 0], .bool false]) (by simp [results, Try.results45, go_sem, x0, x1]) rfl
      ⟨rfl, (below_step (below_set2 (g := w.heap.size + 1 + 1) (below_two (below_res3 hb1) hb2) (by omega) _ _) _).drew⟩

set_option maxHeartbeats 1000000 in
theorem vecBin_impl (op a b c d : Int) (w : World) :
    Calls Try.prog 45 #[.int .i64 op, .agg #[.int .i64 a, .int .i64 b], .agg #[.int .i64 c, .int .i64 d]] w fun e w' => e = .returned (.tuple #[.agg #[.int .i64 (binW op a b c d), .int .i64 (binN op a b c d)], .bool (binB op a b c d)]) ∧ Below w.heap.size w w' := by
  cases hv : vokB a b
  · have e0 : binB op a b c d = false := by simp [binB, hv]
    have e1 : binW op a b c d = 0 := by simp [binW, e0]
    have e2 : binN op a b c d = 0 := by simp [binN, e0]
    rw [e0, e1, e2]; clear e0 e1 e2
    go_enter Try.func45, Try.ntmps45
    go_wp2_with fail
    refine (vecOk_impl a b _).mono ?_; rintro e w1 ⟨rfl, hb1⟩
    obtain ⟨p1, q1, r1⟩ := blk_three hb1
    obtain ⟨r0, r0', rz⟩ := r1.cells
    obtain ⟨f0, f1⟩ := r1.frozen
    go_wp2_with fail
    exact bodyPost_ret (v := .tuple #[.agg #[.int .i64 0, .int .i64 0], .bool false]) (by simp [results, Try.results45, go_sem, r0, r0']) rfl ⟨rfl, below_set2 (g := w.heap.size + 1 + 1) (below_res3 hb1) (by omega) _ _⟩
  · cases hv2 : vokB c d
    · have e0 : binB op a b c d = false := by simp [binB, hv2]
      have e1 : binW op a b c d = 0 := by simp [binW, e0]
      have e2 : binN op a b c d = 0 := by simp [binN, e0]
      rw [e0, e1, e2]; clear e0 e1 e2
      go_enter Try.func45, Try.ntmps45
      go_wp2_with fail
      refine (vecOk_impl a b _).mono ?_; rintro e w1 ⟨rfl, hb1⟩
      obtain ⟨p1, q1, r1⟩ := blk_three hb1
      obtain ⟨c0, c1, cz⟩ := p1.cells
      obtain ⟨d0, d1, dz⟩ := q1.cells
      go_wp2_with fail
      refine (vecOk_impl c d _).mono ?_; rintro e w2 ⟨rfl, hb2⟩
      have p2 := p1.keep hb2
      have q2 := q1.keep hb2
      have r2 := r1.keep hb2
      clear c0 c1 d0 d1
      obtain ⟨c0, c1, cz⟩ := p2.cells
      obtain ⟨d0, d1, dz⟩ := q2.cells
      obtain ⟨r0, r0', rz⟩ := r2.cells
      obtain ⟨f0, f1⟩ := r2.frozen
      go_wp2_with fail
      exact bodyPost_ret (v := .tuple #[.agg #[.int .i64 0, .int .i64 0], .bool false]) (by simp [results, Try.results45, go_sem, r0, r0']) rfl ⟨rfl, below_set2 (g := w.heap.size + 1 + 1) (below_two (below_res3 hb1) hb2) (by omega) _ _⟩
    · by_cases h14 : op = 14
      · subst h14; exact vecBin_impl_14 a b c d w hv hv2
      · have h14' : (op == 14) = false := by simpa using h14
        by_cases h3 : op < 3
        · have e0 : binB op a b c d = false := by simp [binB, h14]; omega
          have e1 : binW op a b c d = 0 := by simp [binW, e0]
          have e2 : binN op a b c d = 0 := by simp [binN, e0]
          rw [e0, e1, e2]; clear e0 e1 e2
          clear h14
          go_enter Try.func45, Try.ntmps45
          go_wp2_with fail
          refine (vecOk_impl a b _).mono ?_; rintro e w1 ⟨rfl, hb1⟩
          obtain ⟨p1, q1, r1⟩ := blk_three hb1
          obtain ⟨c0, c1, cz⟩ := p1.cells
          obtain ⟨d0, d1, dz⟩ := q1.cells
          go_wp2_with fail
          refine (vecOk_impl c d _).mono ?_; rintro e w2 ⟨rfl, hb2⟩
          have p2 := p1.keep hb2
          have q2 := q1.keep hb2
          have r2 := r1.keep hb2
          clear c0 c1 d0 d1
          obtain ⟨c0, c1, cz⟩ := p2.cells
          obtain ⟨d0, d1, dz⟩ := q2.cells
          obtain ⟨r0, r0', rz⟩ := r2.cells
          obtain ⟨f0, f1⟩ := r2.frozen
          go_wp2_with fail
          exact bodyPost_ret (v := .tuple #[.agg #[.int .i64 0, .int .i64 0], .bool false]) (by simp [results, Try.results45, go_sem, r0, r0']) rfl ⟨rfl, below_set2 (g := w.heap.size + 1 + 1) (below_two (below_res3 hb1) hb2) (by omega) _ _⟩
        · by_cases h13 : 13 < op
          · have e0 : binB op a b c d = false := by simp [binB, h14]; omega
            have e1 : binW op a b c d = 0 := by simp [binW, e0]
            have e2 : binN op a b c d = 0 := by simp [binN, e0]
            rw [e0, e1, e2]; clear e0 e1 e2
            clear h14
            go_enter Try.func45, Try.ntmps45
            go_wp2_with fail
            refine (vecOk_impl a b _).mono ?_; rintro e w1 ⟨rfl, hb1⟩
            obtain ⟨p1, q1, r1⟩ := blk_three hb1
            obtain ⟨c0, c1, cz⟩ := p1.cells
            obtain ⟨d0, d1, dz⟩ := q1.cells
            go_wp2_with fail
            refine (vecOk_impl c d _).mono ?_; rintro e w2 ⟨rfl, hb2⟩
            have p2 := p1.keep hb2
            have q2 := q1.keep hb2
            have r2 := r1.keep hb2
            clear c0 c1 d0 d1
            obtain ⟨c0, c1, cz⟩ := p2.cells
            obtain ⟨d0, d1, dz⟩ := q2.cells
            obtain ⟨r0, r0', rz⟩ := r2.cells
            obtain ⟨f0, f1⟩ := r2.frozen
            go_wp2_with fail
            exact bodyPost_ret (v := .tuple #[.agg #[.int .i64 0, .int .i64 0], .bool false]) (by simp [results, Try.results45, go_sem, r0, r0']) rfl ⟨rfl, below_set2 (g := w.heap.size + 1 + 1) (below_two (below_res3 hb1) hb2) (by omega) _ _⟩
          · by_cases hac : a = c
            · subst hac
              have : op = 3 ∨ op = 4 ∨ op = 5 ∨ op = 6 ∨ op = 7 ∨ op = 8 ∨ op = 9 ∨ op = 10 ∨ op = 11 ∨ op = 12 ∨ op = 13 := by omega
              rcases this with rfl | rfl | rfl | rfl | rfl | rfl | rfl | rfl | rfl | rfl | rfl
              · exact vecBin_impl_3 a b d w hv hv2
              · exact vecBin_impl_4 a b d w hv hv2
              · exact vecBin_impl_5 a b d w hv hv2
              · exact vecBin_impl_6 a b d w hv hv2
              · exact vecBin_impl_7 a b d w hv hv2
              · exact vecBin_impl_8 a b d w hv hv2
              · exact vecBin_impl_9 a b d w hv hv2
              · exact vecBin_impl_10 a b d w hv hv2
              · exact vecBin_impl_11 a b d w hv hv2
              · exact vecBin_impl_12 a b d w hv hv2
              · exact vecBin_impl_13 a b d w hv hv2
            · have hac' : (a != c) = true := by simpa using hac
              have e0 : binB op a b c d = false := by simp [binB, h14, hac]
              have e1 : binW op a b c d = 0 := by simp [binW, e0]
              have e2 : binN op a b c d = 0 := by simp [binN, e0]
              rw [e0, e1, e2]; clear e0 e1 e2
              clear h14 hac
              go_enter Try.func45, Try.ntmps45
              go_wp2_with fail
              refine (vecOk_impl a b _).mono ?_; rintro e w1 ⟨rfl, hb1⟩
              obtain ⟨p1, q1, r1⟩ := blk_three hb1
              obtain ⟨c0, c1, cz⟩ := p1.cells
              obtain ⟨d0, d1, dz⟩ := q1.cells
              go_wp2_with fail
              refine (vecOk_impl c d _).mono ?_; rintro e w2 ⟨rfl, hb2⟩
              have p2 := p1.keep hb2
              have q2 := q1.keep hb2
              have r2 := r1.keep hb2
              clear c0 c1 d0 d1
              obtain ⟨c0, c1, cz⟩ := p2.cells
              obtain ⟨d0, d1, dz⟩ := q2.cells
              obtain ⟨r0, r0', rz⟩ := r2.cells
              obtain ⟨f0, f1⟩ := r2.frozen
              go_wp2_with fail
              exact bodyPost_ret (v := .tuple #[.agg #[.int .i64 0, .int .i64 0], .bool false]) (by simp [results, Try.results45, go_sem, r0, r0']) rfl ⟨rfl, below_set2 (g := w.heap.size + 1 + 1) (below_two (below_res3 hb1) hb2) (by omega) _ _⟩
end Go.Proofs.Ytpnpjdebmakamaa
