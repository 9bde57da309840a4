/- What VecSigned, VecUn, VecCut and VecCmp of the program and of the reference come to, said by one Lean function each. The conditions stand in each statement. -/
import Derived.Test.YtpnpjdebmakamaaVb
namespace Go.Proofs.Ytpnpjdebmakamaa
open Go.RowKit

def vsgn (a b : Int) : Int := if vokB a b = true then (if b / two (a.toNat - 1) % 2 = 1 then b - two a.toNat else b) else 0
theorem wrap_sub_two {b : Int} {n : Nat} (hn : n ≤ 4) (h0 : 0 ≤ b) (h1 : b ≤ 16) : wrap64 (b - wrap64 (2 ^ n)) = b - two n := by
  have t1 := two_pos n
  have t2 : two n ≤ 16 := two_le (n := 4) hn
  rw [two_eq]; unfold wrap64; omega

set_option maxHeartbeats 1000000 in
theorem vecSigned_impl (a b : Int) (w : World) :
    Calls Try.prog 28 #[.agg #[.int .i64 a, .int .i64 b]] w fun e w' => e = .returned (.int .i64 (vsgn a b)) ∧ Below w.heap.size w w' := by
  cases hv : vokB a b
  · have e : vsgn a b = 0 := by simp [vsgn, hv]
    rw [e]; clear e
    go_enter Try.func28, Try.ntmps28
    go_wp2_with (go_at_call 23; refine (vecOk_impl a b _).mono ?_; rintro e w' ⟨rfl, hb⟩)
    go_ret
    exact ⟨rfl, (below_self_alloc _ _).trans (hb.mono (by simp))⟩
  · obtain ⟨h1, h2, h3, h4⟩ := vokB_bd hv
    have e : vsgn a b = if b / two (a.toNat - 1) % 2 = 1 then b - two a.toNat else b := by simp [vsgn, hv]
    rw [e]; clear e
    have t2 : two a.toNat ≤ 16 := two_le (m := a.toNat) (n := 4) (by omega)
    have ew : IntKind.i64.wrap (a - 1) = a - 1 := IntWalk.i64_in _ (by omega)
    have B : ∀ W : World, Calls Try.prog 52 #[.int .u64 b, .int .i64 (IntKind.i64.wrap (a - 1))] W fun e w' => e = .returned (.bool (decide (b / two (a.toNat - 1) % 2 = 1))) ∧ W = w' := fun W => by
      rw [ew, show a.toNat - 1 = (a - 1).toNat by omega]
      exact bit_any b (a - 1) W (by omega) (by omega) (by omega) (by omega)
    have E := Lib.hid (wrap_sub_two (b := b) (n := a.toNat) (by omega) h3 (by omega))
    clear ew
    by_cases hs : b / two (a.toNat - 1) % 2 = 1
    · rw [if_pos hs]
      rw [decide_eq_true hs] at B
      have B' := Lib.hid B
      clear B hs
      go_enter Try.func28, Try.ntmps28
      go_wp2_with (go_at_call 23; refine (vecOk_impl a b _).mono ?_; rintro e w1 ⟨rfl, hb⟩; obtain ⟨c0, c1, hz⟩ := box2 hb)
      go_region_held3 (fun wx => wx.cell? ⟨w.heap.size, 0, none⟩ = some (.int .i64 a) ∧ wx.cell? ⟨w.heap.size, 1, none⟩ = some (.int .i64 b) ∧ w.heap.size < wx.heap.size) (first | (with_reducible exact keep2 hb2 (by assumption)) | go_keep)
        (first | (go_at_call 51; refine (raw_any a b _ (by omega) (by omega)).mono ?_; rintro e w2 ⟨rfl, hb2⟩)
               | (go_at_call 52; refine (B'.out _).mono ?_; rintro e w3 ⟨rfl, rfl⟩))
      go_wp2
      obtain ⟨d0, d1, dz⟩ : w2.cell? ⟨w.heap.size, 0, none⟩ = some (.int .i64 a) ∧ w2.cell? ⟨w.heap.size, 1, none⟩ = some (.int .i64 b) ∧ w.heap.size < w2.heap.size := by assumption
      clear c0 c1
      go_quiet (fail)
      go_wp2
      go_ret
      exact ⟨ret_int E.out, below_drewN (below_two (box2_below hb).drew hb2) _⟩
    · rw [if_neg hs]
      rw [decide_eq_false hs] at B
      have B' := Lib.hid B
      clear B hs
      go_enter Try.func28, Try.ntmps28
      go_wp2_with (go_at_call 23; refine (vecOk_impl a b _).mono ?_; rintro e w1 ⟨rfl, hb⟩; obtain ⟨c0, c1, hz⟩ := box2 hb)
      go_region_held3 (fun wx => wx.cell? ⟨w.heap.size, 0, none⟩ = some (.int .i64 a) ∧ wx.cell? ⟨w.heap.size, 1, none⟩ = some (.int .i64 b) ∧ w.heap.size < wx.heap.size) (first | (with_reducible exact keep2 hb2 (by assumption)) | go_keep)
        (first | (go_at_call 51; refine (raw_any a b _ (by omega) (by omega)).mono ?_; rintro e w2 ⟨rfl, hb2⟩)
               | (go_at_call 52; refine (B'.out _).mono ?_; rintro e w3 ⟨rfl, rfl⟩))
      obtain ⟨d0, d1, dz⟩ : w2.cell? ⟨w.heap.size, 0, none⟩ = some (.int .i64 a) ∧ w2.cell? ⟨w.heap.size, 1, none⟩ = some (.int .i64 b) ∧ w.heap.size < w2.heap.size := by assumption
      clear c0 c1
      go_wp2
      go_ret
      exact ⟨rfl, below_two (box2_below hb).drew hb2⟩

theorem l1Bit_law (n : Int) (k : Nat) (h0 : 0 ≤ n) (_h1 : n ≤ 1000000) : 0 ≤ n / two k ∧ n / two k ≤ n := by
  have := two_pos k
  exact ⟨Int.ediv_nonneg h0 (by omega), Int.ediv_le_self _ h0⟩

set_option maxHeartbeats 400000 in
theorem l1Bit_any (n k : Int) (w : World) (h0 : 0 ≤ n) (h1 : n ≤ 1000000) (h3 : k ≤ 60) :
    Calls Try.prog 55 #[.int .i64 n, .int .i64 k] w fun e w' => e = .returned (.int .i64 (n / two k.toNat % 2)) ∧ w = w' := by
  have ⟨g0, g1⟩ := l1Bit_law n k.toNat h0 h1
  have g2 := two_pos k.toNat
  go_enter Try.func55, Try.ntmps55
  go_wp2_with (go_at_call 49; refine (l1Two_any k _ h3).mono ?_; rintro e w1 ⟨rfl, rfl⟩)
  go_ret
  exact ⟨rfl, rfl⟩

set_option maxHeartbeats 1000000 in
theorem l1Signed_any (a b : Int) (w : World) (hv : vokB a b = true) :
    Calls Try.prog 50 #[.agg #[.int .i64 a, .int .i64 b]] w fun e w' => e = .returned (.int .i64 (vsgn a b)) ∧ Below w.heap.size w w' := by
  obtain ⟨h1, h2, h3, h4⟩ := vokB_bd hv
  have e : vsgn a b = if b / two (a.toNat - 1) % 2 = 1 then b - two a.toNat else b := by simp [vsgn, hv]
  rw [e]; clear e hv
  have t1 := two_pos a.toNat
  have t2 : two a.toNat ≤ 16 := two_le (m := a.toNat) (n := 4) (by omega)
  by_cases hs : b / two (a.toNat - 1) % 2 = 1
  · rw [if_pos hs]
    have hs1 : (b / two (a.toNat - 1) % 2 == 1) = true := by simpa using hs
    clear hs
    go_enter Try.func50, Try.ntmps50
    go_wp2_with (go_at_call 55; refine (l1Bit_any b (a - 1) _ (by omega) (by omega) (by omega)).mono ?_; rintro e w1 ⟨rfl, rfl⟩)
    go_quiet ((go_at_call 49; exact Calls.quiet_of_same ((l1Two_any _ _ (by omega)).mono fun _ _ h => ⟨h.1, h.2.symm⟩)))
    go_wp2
    go_ret
    exact ⟨rfl, below_drewN (below_self_alloc _ _) _⟩
  · rw [if_neg hs]
    have hs1 : (b / two (a.toNat - 1) % 2 == 1) = false := by simpa using hs
    clear hs
    go_enter Try.func50, Try.ntmps50
    go_wp2_with (go_at_call 55; refine (l1Bit_any b (a - 1) _ (by omega) (by omega) (by omega)).mono ?_; rintro e w1 ⟨rfl, rfl⟩)
    go_ret
    exact ⟨rfl, below_self_alloc _ _⟩

set_option maxHeartbeats 400000 in
theorem vecSigned_spec (a b : Int) (w : World) :
    Calls Try.prog 27 #[.agg #[.int .i64 a, .int .i64 b]] w fun e w' => e = .returned (.int .i64 (vsgn a b)) ∧ Below w.heap.size w w' := by
  cases hv : vokB a b
  · have e : vsgn a b = 0 := by simp [vsgn, hv]
    rw [e]; clear e
    go_enter Try.func27, Try.ntmps27
    go_wp2_with (go_at_call 21; refine (vecOk_spec a b _).mono ?_; rintro e w' ⟨rfl, hb⟩)
    go_ret
    exact ⟨rfl, box2_below hb⟩
  · go_enter Try.func27, Try.ntmps27
    go_wp2_with fail
    refine (vecOk_spec a b _).mono ?_; rintro e w1 ⟨rfl, hb⟩
    obtain ⟨c0, c1, hz⟩ := box2 hb
    go_wp2_with fail
    refine (l1Signed_any a b _ hv).mono ?_; rintro e w2 ⟨rfl, hb2⟩
    go_wp2_with fail
    go_ret
    exact ⟨rfl, below_two (box2_below hb) hb2⟩
end Go.Proofs.Ytpnpjdebmakamaa
