/- What the statements' own wpUn, wpBin and wpLow come to. The conditions stand in each statement. -/
import Derived.Test.YtpnpjdebmakamaaVm
namespace Go.Proofs.Ytpnpjdebmakamaa
open Go.RowKit

set_option maxHeartbeats 1000000 in
theorem wpUn_any (op a b : Int) (w : World) :
    Calls Try.prog 43 #[.int .i64 op, .agg #[.int .i64 a, .int .i64 b]] w fun e w' => e = .returned (.agg #[.int .i64 (unW op a b), .int .i64 (unN op a b)]) ∧ Below w.heap.size w w' := by
  go_enter Try.func43, Try.ntmps43
  go_wp2_with fail
  refine (vecUn_impl op a b _).mono ?_; rintro e w1 ⟨rfl, hb⟩
  have q := (blk_new1 w (.cells #[.int .i64 a, .int .i64 b] 26) (.int .i64 0) (.int .i64 0) 26).keep hb
  have ql := q.lt
  obtain ⟨q0, q1, qz⟩ := q.cells
  obtain ⟨f0, f1⟩ := q.frozen
  have e1 : ¬ w.heap.size + 1 = w1.heap.size := by omega
  go_wp2_with fail
  obtain ⟨u0, u1, uz⟩ := (((q.set0 (.int .i64 (unW op a b))).set1 (.int .i64 (unN op a b))).alloc (.cells #[.int .i64 (unW op a b), .int .i64 (unN op a b)] 26)).cells
  exact bodyPost_ret (v := .agg #[.int .i64 (unW op a b), .int .i64 (unN op a b)]) (by simp [results, Try.results43, go_sem, u0, u1]) rfl
    ⟨rfl, below_step (below_set2 (below_res hb) (by simp) _ _) _⟩

set_option maxHeartbeats 1000000 in
theorem wpBin_any (op a b c d : Int) (w : World) :
    Calls Try.prog 39 #[.int .i64 op, .agg #[.int .i64 a, .int .i64 b], .agg #[.int .i64 c, .int .i64 d]] w fun e w' => e = .returned (.agg #[.int .i64 (binW op a b c d), .int .i64 (binN op a b c d)]) ∧ Below w.heap.size w w' := by
  go_enter Try.func39, Try.ntmps39
  go_wp2_with fail
  refine (vecBin_impl op a b c d _).mono ?_; rintro e w1 ⟨rfl, hb⟩
  have q := (blk_new2 w (.cells #[.int .i64 a, .int .i64 b] 26) (.cells #[.int .i64 c, .int .i64 d] 26) (.int .i64 0) (.int .i64 0) 26).keep hb
  have ql := q.lt
  obtain ⟨q0, q1, qz⟩ := q.cells
  obtain ⟨f0, f1⟩ := q.frozen
  have e1 : ¬ w.heap.size + 1 + 1 = w1.heap.size := by omega
  go_wp2_with fail
  obtain ⟨u0, u1, uz⟩ := (((q.set0 (.int .i64 (binW op a b c d))).set1 (.int .i64 (binN op a b c d))).alloc (.cells #[.int .i64 (binW op a b c d), .int .i64 (binN op a b c d)] 26)).cells
  exact bodyPost_ret (v := .agg #[.int .i64 (binW op a b c d), .int .i64 (binN op a b c d)]) (by simp [results, Try.results39, go_sem, u0, u1]) rfl
    ⟨rfl, below_step (below_set2 (below_res3 hb) (by omega) _ _) _⟩

set_option maxHeartbeats 1000000 in
theorem wpLow_any (n a : Int) (w : World) (h0 : 0 ≤ n) (h1 : a ≤ 60) :
    Calls Try.prog 48 #[.int .i64 n, .int .i64 a] w fun e w' => e = .returned (.int .i64 (n % two a.toNat)) ∧ w = w' := by
  go_enter Try.func48, Try.ntmps48
  go_wp2
  go_loop [5, 6] (fun o i => ∃ k : Nat, k ≤ a.toNat ∧ i = .int .i64 k ∧ o = .int .i64 (two k)) (fun _ i => (a - intOf i).toNat)
  case atStart => exact ⟨0, Nat.zero_le _, rfl, rfl⟩
  case round =>
    obtain ⟨k, hk, rfl, rfl⟩ := hrel
    have t1 := two_pos k
    have t2 : two k ≤ 1152921504606846976 := two_le (show k ≤ 60 by omega)
    by_cases hlt : (k : Int) < a
    · go_wp2
      go_round
      case rel => exact ⟨k + 1, by omega, by go_num, by rw [two_succ]⟩
      case measure => simp [intOf]; omega
    · have hk2 : k = a.toNat := by omega
      have z2 : ¬ two k = 0 := by omega
      have H := Lib.hid hk2
      clear hk2
      go_wp2
      go_ret
      exact ⟨ret_int (by rw [H.out]), rfl⟩
end Go.Proofs.Ytpnpjdebmakamaa
