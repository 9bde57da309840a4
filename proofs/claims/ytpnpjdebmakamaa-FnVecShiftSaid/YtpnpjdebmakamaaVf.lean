/- What VecCmp comes to. The conditions stand in each statement. -/
import Derived.Test.YtpnpjdebmakamaaVe
namespace Go.Proofs.Ytpnpjdebmakamaa
open Go.RowKit

/-! ### VecCmp -/
def cmpB (op a b c d : Int) : Bool := vokB a b && vokB c d && decide (a = c) && decide (15 ≤ op ∧ op ≤ 17)
def cmpV (op a b c d : Int) : Bool := cmpB op a b c d && (if op = 15 then decide (b = d) else if op = 16 then decide (b < d) else decide (vsgn a b < vsgn c d))

theorem blk_two0 (w : World) (x y x' y' : Value) (t t' : TypeId) {w1 : World} (hb : Below ((w.alloc (.cells #[x, y] t)).alloc (.cells #[x', y'] t')).heap.size ((w.alloc (.cells #[x, y] t)).alloc (.cells #[x', y'] t')) w1) :
    Blk w1 w.heap.size x y t ∧ Blk w1 (w.heap.size + 1) x' y' t' := ⟨((blk_new w x y t).alloc _).keep hb, (blk_new1 w _ x' y' t').keep hb⟩

theorem start22 (w : World) (x y x' y' : Value) (t t' : TypeId) :
    (((w.alloc (.cells #[x, y] t)).alloc (.cells #[x', y'] t')).drew.cell? ⟨w.heap.size, 0, none⟩ = some x ∧ ((w.alloc (.cells #[x, y] t)).alloc (.cells #[x', y'] t')).drew.cell? ⟨w.heap.size, 1, none⟩ = some y ∧ w.heap.size < ((w.alloc (.cells #[x, y] t)).alloc (.cells #[x', y'] t')).drew.heap.size) ∧
    (((w.alloc (.cells #[x, y] t)).alloc (.cells #[x', y'] t')).drew.cell? ⟨w.heap.size + 1, 0, none⟩ = some x' ∧ ((w.alloc (.cells #[x, y] t)).alloc (.cells #[x', y'] t')).drew.cell? ⟨w.heap.size + 1, 1, none⟩ = some y' ∧ w.heap.size + 1 < ((w.alloc (.cells #[x, y] t)).alloc (.cells #[x', y'] t')).drew.heap.size) :=
  ⟨((blk_new w x y t).alloc _).drew.cells, (blk_new1 w _ x' y' t').drew.cells⟩
theorem keep22 {g h : Nat} {x y x' y' : Value} {W W2 : World} (hb : Below W.heap.size W W2)
    (k : (W.cell? ⟨g, 0, none⟩ = some x ∧ W.cell? ⟨g, 1, none⟩ = some y ∧ g < W.heap.size) ∧ (W.cell? ⟨h, 0, none⟩ = some x' ∧ W.cell? ⟨h, 1, none⟩ = some y' ∧ h < W.heap.size)) :
    (W2.cell? ⟨g, 0, none⟩ = some x ∧ W2.cell? ⟨g, 1, none⟩ = some y ∧ g < W2.heap.size) ∧ (W2.cell? ⟨h, 0, none⟩ = some x' ∧ W2.cell? ⟨h, 1, none⟩ = some y' ∧ h < W2.heap.size) :=
  ⟨keep2 hb k.1, keep2 hb k.2⟩

set_option maxHeartbeats 1000000 in
theorem vecCmp_impl (op a b c d : Int) (w : World) :
    Calls Try.prog 36 #[.int .i64 op, .agg #[.int .i64 a, .int .i64 b], .agg #[.int .i64 c, .int .i64 d]] w fun e w' => e = .returned (.tuple #[.bool (cmpV op a b c d), .bool (cmpB op a b c d)]) ∧ Below w.heap.size w w' := by
  cases hv : vokB a b
  · have e1 : cmpB op a b c d = false := by simp [cmpB, hv]
    have e2 : cmpV op a b c d = false := by simp [cmpV, e1]
    rw [e1, e2]; clear e1 e2
    go_enter Try.func36, Try.ntmps36
    go_wp2_with fail
    refine (vecOk_impl a b _).mono ?_; rintro e w1 ⟨rfl, hb⟩
    go_wp2_with fail
    go_ret2
    exact ⟨rfl, below_res hb⟩
  · cases hv2 : vokB c d
    · have e1 : cmpB op a b c d = false := by simp [cmpB, hv2]
      have e2 : cmpV op a b c d = false := by simp [cmpV, e1]
      rw [e1, e2]; clear e1 e2
      go_enter Try.func36, Try.ntmps36
      go_wp2_with fail
      refine (vecOk_impl a b _).mono ?_; rintro e w1 ⟨rfl, hb⟩
      obtain ⟨p, q⟩ := blk_two0 _ _ _ _ _ _ _ hb
      obtain ⟨c0, c1, hz⟩ := p.cells
      obtain ⟨q0, q1, qz⟩ := q.cells
      go_wp2_with fail
      refine (vecOk_impl c d _).mono ?_; rintro e w2 ⟨rfl, hb2⟩
      obtain ⟨d0, d1, dz⟩ := (p.keep hb2).cells
      obtain ⟨r0, r1, rz⟩ := (q.keep hb2).cells
      clear c0 c1 q0 q1
      go_wp2_with fail
      go_ret2
      exact ⟨rfl, below_two (below_res hb) hb2⟩
    · by_cases hac : a = c
      · subst hac
        have hne : (a != a) = false := by simp
        by_cases h15 : op = 15
        · subst h15
          have e1 : cmpB 15 a b a d = true := by simp [cmpB, hv, hv2]
          by_cases hbd : b = d
          · subst hbd
            have e2 : cmpV 15 a b a b = true := by simp [cmpV, e1]
            rw [e1, e2]; clear e1 e2
            go_enter Try.func36, Try.ntmps36
            go_wp2_with fail
            refine (vecOk_impl a b _).mono ?_; rintro e w1 ⟨rfl, hb⟩
            obtain ⟨p, q⟩ := blk_two0 _ _ _ _ _ _ _ hb
            obtain ⟨c0, c1, hz⟩ := p.cells
            obtain ⟨q0, q1, qz⟩ := q.cells
            go_wp2_with fail
            refine (vecOk_impl a b _).mono ?_; rintro e w2 ⟨rfl, hb2⟩
            obtain ⟨d0, d1, dz⟩ := (p.keep hb2).cells
            obtain ⟨r0, r1, rz⟩ := (q.keep hb2).cells
            clear c0 c1 q0 q1
            go_wp2_with fail
            go_ret2
            exact ⟨rfl, below_two (below_res hb) hb2⟩
          · have e2 : cmpV 15 a b a d = false := by simp [cmpV, e1, hbd]
            rw [e1, e2]; clear e1 e2
            have hbd' : (b == d) = false := by simpa using hbd
            go_enter Try.func36, Try.ntmps36
            go_wp2_with fail
            refine (vecOk_impl a b _).mono ?_; rintro e w1 ⟨rfl, hb⟩
            obtain ⟨p, q⟩ := blk_two0 _ _ _ _ _ _ _ hb
            obtain ⟨c0, c1, hz⟩ := p.cells
            obtain ⟨q0, q1, qz⟩ := q.cells
            go_wp2_with fail
            refine (vecOk_impl a d _).mono ?_; rintro e w2 ⟨rfl, hb2⟩
            obtain ⟨d0, d1, dz⟩ := (p.keep hb2).cells
            obtain ⟨r0, r1, rz⟩ := (q.keep hb2).cells
            clear c0 c1 q0 q1
            go_wp2_with fail
            go_ret2
            exact ⟨rfl, below_two (below_res hb) hb2⟩
        · have h15' : (op == 15) = false := by simpa using h15
          by_cases h16 : op = 16
          · subst h16
            have e1 : cmpB 16 a b a d = true := by simp [cmpB, hv, hv2]
            have e2 : cmpV 16 a b a d = decide (b < d) := by simp [cmpV, e1]
            rw [e1, e2]; clear e1 e2 h15 h15'
            go_enter Try.func36, Try.ntmps36
            go_wp2_with fail
            refine (vecOk_impl a b _).mono ?_; rintro e w1 ⟨rfl, hb⟩
            obtain ⟨p, q⟩ := blk_two0 _ _ _ _ _ _ _ hb
            obtain ⟨c0, c1, hz⟩ := p.cells
            obtain ⟨q0, q1, qz⟩ := q.cells
            go_wp2_with fail
            refine (vecOk_impl a d _).mono ?_; rintro e w2 ⟨rfl, hb2⟩
            obtain ⟨d0, d1, dz⟩ := (p.keep hb2).cells
            obtain ⟨r0, r1, rz⟩ := (q.keep hb2).cells
            clear c0 c1 q0 q1
            go_wp2_with fail
            go_ret2
            exact ⟨rfl, below_two (below_res hb) hb2⟩
          · have h16' : (op == 16) = false := by simpa using h16
            by_cases h17 : op = 17
            · subst h17
              have e1 : cmpB 17 a b a d = true := by simp [cmpB, hv, hv2]
              have e2 : cmpV 17 a b a d = decide (vsgn a b < vsgn a d) := by simp [cmpV, e1]
              rw [e1, e2]; clear e1 e2 h15 h15' h16 h16'
              go_enter Try.func36, Try.ntmps36
              go_wp2_with fail
              refine (vecOk_impl a b _).mono ?_; rintro e w1 ⟨rfl, hb⟩
              obtain ⟨p, q⟩ := blk_two0 _ _ _ _ _ _ _ hb
              obtain ⟨c0, c1, hz⟩ := p.cells
              obtain ⟨q0, q1, qz⟩ := q.cells
              go_wp2_with fail
              refine (vecOk_impl a d _).mono ?_; rintro e w2 ⟨rfl, hb2⟩
              obtain ⟨d0, d1, dz⟩ := (p.keep hb2).cells
              obtain ⟨r0, r1, rz⟩ := (q.keep hb2).cells
              clear c0 c1 q0 q1
              go_wp2_with fail
              go_region_held3 (fun wx => (wx.cell? ⟨w.heap.size, 0, none⟩ = some (.int .i64 a) ∧ wx.cell? ⟨w.heap.size, 1, none⟩ = some (.int .i64 b) ∧ w.heap.size < wx.heap.size) ∧ (wx.cell? ⟨w.heap.size + 1, 0, none⟩ = some (.int .i64 a) ∧ wx.cell? ⟨w.heap.size + 1, 1, none⟩ = some (.int .i64 d) ∧ w.heap.size + 1 < wx.heap.size)) (first | (with_reducible exact keep22 hb4 (by assumption)) | (with_reducible exact keep22 hb3 (by assumption)) | go_keep)
                (first | (go_at_call_of 28 (Value.agg #[.int .i64 a, .int .i64 b]); refine (vecSigned_impl a b _).mono ?_; rintro e w3 ⟨rfl, hb3⟩)
                       | (go_at_call 28; refine (vecSigned_impl a d _).mono ?_; rintro e w4 ⟨rfl, hb4⟩))
              go_wp2
              go_ret2
              exact ⟨rfl, below_two (below_two (below_two (below_res hb) hb2).drew hb3) hb4⟩
            · have e1 : cmpB op a b a d = false := by simp [cmpB]; omega
              have e2 : cmpV op a b a d = false := by simp [cmpV, e1]
              rw [e1, e2]; clear e1 e2
              have h17' : (op == 17) = false := by simpa using h17
              clear h15 h16 h17
              go_enter Try.func36, Try.ntmps36
              go_wp2_with fail
              refine (vecOk_impl a b _).mono ?_; rintro e w1 ⟨rfl, hb⟩
              obtain ⟨p, q⟩ := blk_two0 _ _ _ _ _ _ _ hb
              obtain ⟨c0, c1, hz⟩ := p.cells
              obtain ⟨q0, q1, qz⟩ := q.cells
              go_wp2_with fail
              refine (vecOk_impl a d _).mono ?_; rintro e w2 ⟨rfl, hb2⟩
              obtain ⟨d0, d1, dz⟩ := (p.keep hb2).cells
              obtain ⟨r0, r1, rz⟩ := (q.keep hb2).cells
              clear c0 c1 q0 q1
              go_wp2_with fail
              go_ret2
              exact ⟨rfl, below_two (below_res hb) hb2⟩
      · have e1 : cmpB op a b c d = false := by simp [cmpB, hac]
        have e2 : cmpV op a b c d = false := by simp [cmpV, e1]
        rw [e1, e2]; clear e1 e2
        have hac' : (a != c) = true := by simpa using hac
        go_enter Try.func36, Try.ntmps36
        go_wp2_with fail
        refine (vecOk_impl a b _).mono ?_; rintro e w1 ⟨rfl, hb⟩
        obtain ⟨p, q⟩ := blk_two0 _ _ _ _ _ _ _ hb
        obtain ⟨c0, c1, hz⟩ := p.cells
        obtain ⟨q0, q1, qz⟩ := q.cells
        go_wp2_with fail
        refine (vecOk_impl c d _).mono ?_; rintro e w2 ⟨rfl, hb2⟩
        obtain ⟨d0, d1, dz⟩ := (p.keep hb2).cells
        obtain ⟨r0, r1, rz⟩ := (q.keep hb2).cells
        clear c0 c1 q0 q1
        go_wp2_with fail
        go_ret2
        exact ⟨rfl, below_two (below_res hb) hb2⟩

set_option maxHeartbeats 1000000 in
theorem vecCmp_spec (op a b c d : Int) (w : World) :
    Calls Try.prog 35 #[.int .i64 op, .agg #[.int .i64 a, .int .i64 b], .agg #[.int .i64 c, .int .i64 d]] w fun e w' => e = .returned (.tuple #[.bool (cmpV op a b c d), .bool (cmpB op a b c d)]) ∧ Below w.heap.size w w' := by
  cases hv : vokB a b
  · have e1 : cmpB op a b c d = false := by simp [cmpB, hv]
    have e2 : cmpV op a b c d = false := by simp [cmpV, e1]
    rw [e1, e2]; clear e1 e2
    go_enter Try.func35, Try.ntmps35
    go_wp2_with fail
    refine (vecOk_spec a b _).mono ?_; rintro e w1 ⟨rfl, hb⟩
    go_wp2_with fail
    go_ret2
    exact ⟨rfl, below_res hb⟩
  · cases hv2 : vokB c d
    · have e1 : cmpB op a b c d = false := by simp [cmpB, hv2]
      have e2 : cmpV op a b c d = false := by simp [cmpV, e1]
      rw [e1, e2]; clear e1 e2
      go_enter Try.func35, Try.ntmps35
      go_wp2_with fail
      refine (vecOk_spec a b _).mono ?_; rintro e w1 ⟨rfl, hb⟩
      obtain ⟨p, q⟩ := blk_two0 _ _ _ _ _ _ _ hb
      obtain ⟨c0, c1, hz⟩ := p.cells
      obtain ⟨q0, q1, qz⟩ := q.cells
      go_wp2_with fail
      refine (vecOk_spec c d _).mono ?_; rintro e w2 ⟨rfl, hb2⟩
      obtain ⟨d0, d1, dz⟩ := (p.keep hb2).cells
      obtain ⟨r0, r1, rz⟩ := (q.keep hb2).cells
      clear c0 c1 q0 q1
      go_wp2_with fail
      go_ret2
      exact ⟨rfl, below_two (below_res hb) hb2⟩
    · by_cases hac : a = c
      · subst hac
        have hne : (a != a) = false := by simp
        by_cases h15 : op = 15
        · subst h15
          have e1 : cmpB 15 a b a d = true := by simp [cmpB, hv, hv2]
          by_cases hbd : b = d
          · subst hbd
            have e2 : cmpV 15 a b a b = true := by simp [cmpV, e1]
            rw [e1, e2]; clear e1 e2
            go_enter Try.func35, Try.ntmps35
            go_wp2_with fail
            refine (vecOk_spec a b _).mono ?_; rintro e w1 ⟨rfl, hb⟩
            obtain ⟨p, q⟩ := blk_two0 _ _ _ _ _ _ _ hb
            obtain ⟨c0, c1, hz⟩ := p.cells
            obtain ⟨q0, q1, qz⟩ := q.cells
            go_wp2_with fail
            refine (vecOk_spec a b _).mono ?_; rintro e w2 ⟨rfl, hb2⟩
            obtain ⟨d0, d1, dz⟩ := (p.keep hb2).cells
            obtain ⟨r0, r1, rz⟩ := (q.keep hb2).cells
            clear c0 c1 q0 q1
            go_wp2_with fail
            go_ret2
            exact ⟨rfl, below_two (below_res hb) hb2⟩
          · have e2 : cmpV 15 a b a d = false := by simp [cmpV, e1, hbd]
            rw [e1, e2]; clear e1 e2
            have hbd' : (b == d) = false := by simpa using hbd
            go_enter Try.func35, Try.ntmps35
            go_wp2_with fail
            refine (vecOk_spec a b _).mono ?_; rintro e w1 ⟨rfl, hb⟩
            obtain ⟨p, q⟩ := blk_two0 _ _ _ _ _ _ _ hb
            obtain ⟨c0, c1, hz⟩ := p.cells
            obtain ⟨q0, q1, qz⟩ := q.cells
            go_wp2_with fail
            refine (vecOk_spec a d _).mono ?_; rintro e w2 ⟨rfl, hb2⟩
            obtain ⟨d0, d1, dz⟩ := (p.keep hb2).cells
            obtain ⟨r0, r1, rz⟩ := (q.keep hb2).cells
            clear c0 c1 q0 q1
            go_wp2_with fail
            go_ret2
            exact ⟨rfl, below_two (below_res hb) hb2⟩
        · have h15' : (op == 15) = false := by simpa using h15
          by_cases h16 : op = 16
          · subst h16
            have e1 : cmpB 16 a b a d = true := by simp [cmpB, hv, hv2]
            have e2 : cmpV 16 a b a d = decide (b < d) := by simp [cmpV, e1]
            rw [e1, e2]; clear e1 e2 h15 h15'
            go_enter Try.func35, Try.ntmps35
            go_wp2_with fail
            refine (vecOk_spec a b _).mono ?_; rintro e w1 ⟨rfl, hb⟩
            obtain ⟨p, q⟩ := blk_two0 _ _ _ _ _ _ _ hb
            obtain ⟨c0, c1, hz⟩ := p.cells
            obtain ⟨q0, q1, qz⟩ := q.cells
            go_wp2_with fail
            refine (vecOk_spec a d _).mono ?_; rintro e w2 ⟨rfl, hb2⟩
            obtain ⟨d0, d1, dz⟩ := (p.keep hb2).cells
            obtain ⟨r0, r1, rz⟩ := (q.keep hb2).cells
            clear c0 c1 q0 q1
            go_wp2_with fail
            go_ret2
            exact ⟨rfl, below_two (below_res hb) hb2⟩
          · have h16' : (op == 16) = false := by simpa using h16
            by_cases h17 : op = 17
            · subst h17
              have e1 : cmpB 17 a b a d = true := by simp [cmpB, hv, hv2]
              have e2 : cmpV 17 a b a d = decide (vsgn a b < vsgn a d) := by simp [cmpV, e1]
              rw [e1, e2]; clear e1 e2 h15 h15' h16 h16'
              go_enter Try.func35, Try.ntmps35
              go_wp2_with fail
              refine (vecOk_spec a b _).mono ?_; rintro e w1 ⟨rfl, hb⟩
              obtain ⟨p, q⟩ := blk_two0 _ _ _ _ _ _ _ hb
              obtain ⟨c0, c1, hz⟩ := p.cells
              obtain ⟨q0, q1, qz⟩ := q.cells
              go_wp2_with fail
              refine (vecOk_spec a d _).mono ?_; rintro e w2 ⟨rfl, hb2⟩
              obtain ⟨d0, d1, dz⟩ := (p.keep hb2).cells
              obtain ⟨r0, r1, rz⟩ := (q.keep hb2).cells
              clear c0 c1 q0 q1
              go_wp2_with fail
              go_region_held3 (fun wx => (wx.cell? ⟨w.heap.size, 0, none⟩ = some (.int .i64 a) ∧ wx.cell? ⟨w.heap.size, 1, none⟩ = some (.int .i64 b) ∧ w.heap.size < wx.heap.size) ∧ (wx.cell? ⟨w.heap.size + 1, 0, none⟩ = some (.int .i64 a) ∧ wx.cell? ⟨w.heap.size + 1, 1, none⟩ = some (.int .i64 d) ∧ w.heap.size + 1 < wx.heap.size)) (first | (with_reducible exact keep22 hb4 (by assumption)) | (with_reducible exact keep22 hb3 (by assumption)) | go_keep)
                (first | (go_at_call_of 50 (Value.agg #[.int .i64 a, .int .i64 b]); refine (l1Signed_any a b _ hv).mono ?_; rintro e w3 ⟨rfl, hb3⟩)
                       | (go_at_call 50; refine (l1Signed_any a d _ hv2).mono ?_; rintro e w4 ⟨rfl, hb4⟩))
              go_wp2
              go_ret2
              exact ⟨rfl, below_two (below_two (below_two (below_res hb) hb2).drew hb3) hb4⟩
            · have e1 : cmpB op a b a d = false := by simp [cmpB]; omega
              have e2 : cmpV op a b a d = false := by simp [cmpV, e1]
              rw [e1, e2]; clear e1 e2
              have h17' : (op == 17) = false := by simpa using h17
              clear h15 h16 h17
              go_enter Try.func35, Try.ntmps35
              go_wp2_with fail
              refine (vecOk_spec a b _).mono ?_; rintro e w1 ⟨rfl, hb⟩
              obtain ⟨p, q⟩ := blk_two0 _ _ _ _ _ _ _ hb
              obtain ⟨c0, c1, hz⟩ := p.cells
              obtain ⟨q0, q1, qz⟩ := q.cells
              go_wp2_with fail
              refine (vecOk_spec a d _).mono ?_; rintro e w2 ⟨rfl, hb2⟩
              obtain ⟨d0, d1, dz⟩ := (p.keep hb2).cells
              obtain ⟨r0, r1, rz⟩ := (q.keep hb2).cells
              clear c0 c1 q0 q1
              go_wp2_with fail
              go_ret2
              exact ⟨rfl, below_two (below_res hb) hb2⟩
      · have e1 : cmpB op a b c d = false := by simp [cmpB, hac]
        have e2 : cmpV op a b c d = false := by simp [cmpV, e1]
        rw [e1, e2]; clear e1 e2
        have hac' : (a != c) = true := by simpa using hac
        go_enter Try.func35, Try.ntmps35
        go_wp2_with fail
        refine (vecOk_spec a b _).mono ?_; rintro e w1 ⟨rfl, hb⟩
        obtain ⟨p, q⟩ := blk_two0 _ _ _ _ _ _ _ hb
        obtain ⟨c0, c1, hz⟩ := p.cells
        obtain ⟨q0, q1, qz⟩ := q.cells
        go_wp2_with fail
        refine (vecOk_spec c d _).mono ?_; rintro e w2 ⟨rfl, hb2⟩
        obtain ⟨d0, d1, dz⟩ := (p.keep hb2).cells
        obtain ⟨r0, r1, rz⟩ := (q.keep hb2).cells
        clear c0 c1 q0 q1
        go_wp2_with fail
        go_ret2
        exact ⟨rfl, below_two (below_res hb) hb2⟩
end Go.Proofs.Ytpnpjdebmakamaa
