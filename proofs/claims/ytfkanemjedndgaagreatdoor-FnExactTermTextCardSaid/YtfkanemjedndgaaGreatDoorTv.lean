/- VecOk of the program and of the reference. The conditions stand in each statement. -/
import Derived.Test.YtfkanemjedndgaaGreatDoorGa
namespace Go.Proofs.YtfkanemjedndgaaGreatDoor
open Go.RowKit

set_option maxHeartbeats 400000 in
theorem l1Two_any (n : Int) (w : World) (h1 : n ≤ 60) :
    Calls Tryz.prog 60 #[.int .i64 n] w fun e w' => e = .returned (.int .i64 (two n.toNat)) ∧ w = w' := by
  go_enter Tryz.func60, Tryz.ntmps60
  go_wp2
  go_loop [3, 4] (fun o i => ∃ k : Nat, k ≤ n.toNat ∧ i = .int .i64 k ∧ o = .int .i64 (two k)) (fun _ i => (n - intOf i).toNat)
  case atStart => exact ⟨0, Nat.zero_le _, rfl, rfl⟩
  case round =>
    obtain ⟨k, hk, rfl, rfl⟩ := hrel
    have t1 := two_pos k
    have t2 : two k ≤ 1152921504606846976 := two_le (show k ≤ 60 by omega)
    by_cases hlt : (k : Int) < n
    · go_wp2
      go_round
      case rel => exact ⟨k + 1, by omega, by go_num, by rw [two_succ]⟩
      case measure => simp [intOf]; omega
    · go_wp2
      go_ret
      have : k = n.toNat := by omega
      exact ⟨by rw [this]; rfl, rfl⟩

def vokB (a b : Int) : Bool := decide (1 ≤ a ∧ a ≤ 4 ∧ 0 ≤ b ∧ b < two a.toNat)
theorem vokB_elim {a b : Int} (h : vokB a b = true) : (a = 1 ∧ 0 ≤ b ∧ b ≤ 1) ∨ (a = 2 ∧ 0 ≤ b ∧ b ≤ 3) ∨ (a = 3 ∧ 0 ≤ b ∧ b ≤ 7) ∨ (a = 4 ∧ 0 ≤ b ∧ b ≤ 15) := by
  simp only [vokB, decide_eq_true_eq] at h
  obtain ⟨h1, h2, h3, h4⟩ := h
  have : a = 1 ∨ a = 2 ∨ a = 3 ∨ a = 4 := by omega
  rcases this with rfl | rfl | rfl | rfl <;> simp [two] at h4 <;> omega

set_option maxHeartbeats 1000000 in
theorem vecOk_impl (a b : Int) (w : World) :
    Calls Tryz.prog 52 #[.agg #[.int .i64 a, .int .i64 b]] w fun e w' => e = .returned (.bool (vokB a b)) ∧ Below w.heap.size w w' := by
  by_cases h1 : 1 ≤ a
  · by_cases h2 : a ≤ 4
    · by_cases h3 : 0 ≤ b
      · have h4 : a = 1 ∨ a = 2 ∨ a = 3 ∨ a = 4 := by omega
        have e : ∀ n : Int, two a.toNat = n → vokB a b = decide (b < n) := by intro n hn; simp [vokB, h1, h2, h3, hn]
        rcases h4 with rfl | rfl | rfl | rfl
        · rw [e 2 (by decide)]; clear e
          go_enter Tryz.func52, Tryz.ntmps52
          go_wp2
          go_quiet (fail)
          go_wp2
          go_ret
          exact ⟨rfl, below_drewN (below_self_alloc _ _) _⟩
        · rw [e 4 (by decide)]; clear e
          go_enter Tryz.func52, Tryz.ntmps52
          go_wp2
          go_quiet (fail)
          go_wp2
          go_ret
          exact ⟨rfl, below_drewN (below_self_alloc _ _) _⟩
        · rw [e 8 (by decide)]; clear e
          go_enter Tryz.func52, Tryz.ntmps52
          go_wp2
          go_quiet (fail)
          go_wp2
          go_ret
          exact ⟨rfl, below_drewN (below_self_alloc _ _) _⟩
        · rw [e 16 (by decide)]; clear e
          go_enter Tryz.func52, Tryz.ntmps52
          go_wp2
          go_quiet (fail)
          go_wp2
          go_ret
          exact ⟨rfl, below_drewN (below_self_alloc _ _) _⟩
      · have e : vokB a b = false := by simp [vokB]; omega
        have hd : decide (0 ≤ b) = false := by simpa using h3
        rw [e]; clear e
        go_enter Tryz.func52, Tryz.ntmps52
        go_wp2
        go_quiet (fail)
        go_wp2
        go_ret
        exact ⟨rfl, below_drewN (below_self_alloc _ _) _⟩
    · have e : vokB a b = false := by simp [vokB]; omega
      have hd : decide (a ≤ 4) = false := by simpa using h2
      rw [e]; clear e
      go_enter Tryz.func52, Tryz.ntmps52
      go_wp2
      go_quiet (fail)
      go_wp2
      go_ret
      exact ⟨rfl, below_drewN (below_self_alloc _ _) _⟩
  · have e : vokB a b = false := by simp [vokB]; omega
    have hd : decide (1 ≤ a) = false := by simpa using h1
    rw [e]; clear e
    go_enter Tryz.func52, Tryz.ntmps52
    go_wp2
    go_quiet (fail)
    go_wp2
    go_ret
    exact ⟨rfl, below_drewN (below_self_alloc _ _) _⟩

set_option maxHeartbeats 1000000 in
theorem vecOk_spec (a b : Int) (w : World) :
    Calls Tryz.prog 43 #[.agg #[.int .i64 a, .int .i64 b]] w fun e w' => e = .returned (.bool (vokB a b)) ∧ Below w.heap.size w w' := by
  by_cases h1 : 1 ≤ a
  · by_cases h2 : a ≤ 4
    · by_cases h3 : 0 ≤ b
      · have e : vokB a b = decide (b < two a.toNat) := by simp [vokB, h1, h2, h3]
        rw [e]; clear e
        go_enter Tryz.func43, Tryz.ntmps43
        go_wp2
        go_quiet ((go_at_call 60; exact Calls.quiet_of_same ((l1Two_any _ _ (by omega)).mono fun _ _ h => ⟨h.1, h.2.symm⟩)))
        go_wp2
        go_ret
        exact ⟨rfl, below_drewN (below_self_alloc _ _) _⟩
      · have e : vokB a b = false := by simp [vokB]; omega
        have hd : decide (0 ≤ b) = false := by simpa using h3
        rw [e]; clear e
        go_enter Tryz.func43, Tryz.ntmps43
        go_wp2
        go_quiet (fail)
        go_wp2
        go_ret
        exact ⟨rfl, below_drewN (below_self_alloc _ _) _⟩
    · have e : vokB a b = false := by simp [vokB]; omega
      have hd : decide (a ≤ 4) = false := by simpa using h2
      rw [e]; clear e
      go_enter Tryz.func43, Tryz.ntmps43
      go_wp2
      go_quiet (fail)
      go_wp2
      go_ret
      exact ⟨rfl, below_drewN (below_self_alloc _ _) _⟩
  · have e : vokB a b = false := by simp [vokB]; omega
    have hd : decide (1 ≤ a) = false := by simpa using h1
    rw [e]; clear e
    go_enter Tryz.func43, Tryz.ntmps43
    go_wp2
    go_quiet (fail)
    go_wp2
    go_ret
    exact ⟨rfl, below_drewN (below_self_alloc _ _) _⟩
end Go.Proofs.YtfkanemjedndgaaGreatDoor
