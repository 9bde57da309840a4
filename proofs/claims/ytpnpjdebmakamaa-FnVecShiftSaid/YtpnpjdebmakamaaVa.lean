import Derived.Test.YtpnpjdebmakamaaProg
import Derived.WalkKit
import Derived.WalkSpells
import Derived.WalkLawsBesides
import Derived.Deep.QuietTactic
import Derived.BigQuiet
import Derived.Lib.Hide
namespace Go.Proofs.Ytpnpjdebmakamaa
open Go.RowKit

/-- 2 to the power of n. -/
def two (n : Nat) : Int := ((2 ^ n : Nat) : Int)
theorem two_succ (n : Nat) : two (n + 1) = two n * 2 := by unfold two; rw [Nat.pow_succ]; omega
theorem two_pos (n : Nat) : 1 ≤ two n := by have := Nat.two_pow_pos n; unfold two; omega
theorem two_le {m n : Nat} (h : m ≤ n) : two m ≤ two n := by have := Nat.pow_le_pow_right (n := 2) (by decide) h; unfold two; omega

set_option maxHeartbeats 400000 in
theorem l1Two_any (n : Int) (w : World) (h1 : n ≤ 60) :
    Calls Try.prog 49 #[.int .i64 n] w fun e w' => e = .returned (.int .i64 (two n.toNat)) ∧ w = w' := by
  go_enter Try.func49, Try.ntmps49
  go_wp2
  go_loop [3, 4] (fun o i => ∃ k : Nat, k ≤ n.toNat ∧ i = .int .i64 k ∧ o = .int .i64 (two k)) (fun _ i => (n - intOf i).toNat)
  case atStart => exact ⟨0, Nat.zero_le _, rfl, rfl⟩
  case round =>
    obtain ⟨k, hk, rfl, rfl⟩ := hrel
    have t1 := two_pos k
    have t2 : two k ≤ 1152921504606846976 := two_le (show k ≤ 60 by omega)
    by_cases hlt : (k : Int) < n
    · go_wp2
      go_round
      case rel => exact ⟨k + 1, by omega, by go_num, by rw [two_succ]⟩
      case measure => simp [intOf]; omega
    · go_wp2
      go_ret
      have : k = n.toNat := by omega
      exact ⟨by rw [this]; rfl, rfl⟩


theorem bcell {W w1 : World} (hb : Below W.heap.size W w1) : (∀ b o, b < W.heap.size → w1.cell? ⟨b, o, none⟩ = W.cell? ⟨b, o, none⟩) ∧ (∀ b o, b < W.heap.size → w1.frozen? ⟨b, o, none⟩ = W.frozen? ⟨b, o, none⟩) :=
  ⟨fun b o h => hb.cell (p := ⟨b, o, none⟩) h, fun b o h => hb.frozen (p := ⟨b, o, none⟩) h⟩
theorem below_drewN {B : Nat} {a w : World} (h : Below B a w) (n : Nat) : Below B a (w.drewN n) := ⟨h.os, h.tape, h.output, h.size, h.block⟩
theorem below_self_alloc (w : World) (o : Obj) : Below w.heap.size w (w.alloc o) := (Below.refl _ _).alloc (Nat.le_refl _) o
/-- one step more: blocks made above the old ones -/
theorem below_step {a w : World} (h : Below a.heap.size a w) (o : Obj) : Below a.heap.size a (w.alloc o) := h.alloc h.size o

set_option maxHeartbeats 400000 in
theorem toVec_any (a b : Int) (w : World) :
    Calls Try.prog 22 #[.agg #[.int .i64 a, .int .i64 b]] w fun e w' => e = .returned (.agg #[.int .i64 a, .int .i64 b]) ∧ Below w.heap.size w w' := by
  go_enter Try.func22, Try.ntmps22
  go_wp2
  exact bodyPost_ret (v := .agg #[.int .i64 a, .int .i64 b]) (by simp [results, Try.results22, go_sem]) rfl ⟨rfl, below_step (below_step (below_step (Below.refl _ _) _) _) _⟩

def vokB (a b : Int) : Bool := decide (1 ≤ a ∧ a ≤ 4 ∧ 0 ≤ b ∧ b < two a.toNat)
theorem vokB_elim {a b : Int} (h : vokB a b = true) : (a = 1 ∧ 0 ≤ b ∧ b ≤ 1) ∨ (a = 2 ∧ 0 ≤ b ∧ b ≤ 3) ∨ (a = 3 ∧ 0 ≤ b ∧ b ≤ 7) ∨ (a = 4 ∧ 0 ≤ b ∧ b ≤ 15) := by
  simp only [vokB, decide_eq_true_eq] at h
  obtain ⟨h1, h2, h3, h4⟩ := h
  have : a = 1 ∨ a = 2 ∨ a = 3 ∨ a = 4 := by omega
  rcases this with rfl | rfl | rfl | rfl <;> simp [two] at h4 <;> omega

set_option maxHeartbeats 1000000 in
theorem vecOk_impl (a b : Int) (w : World) :
    Calls Try.prog 23 #[.agg #[.int .i64 a, .int .i64 b]] w fun e w' => e = .returned (.bool (vokB a b)) ∧ Below w.heap.size w w' := by
  by_cases h1 : 1 ≤ a
  · by_cases h2 : a ≤ 4
    · by_cases h3 : 0 ≤ b
      · have h4 : a = 1 ∨ a = 2 ∨ a = 3 ∨ a = 4 := by omega
        have e : ∀ n : Int, two a.toNat = n → vokB a b = decide (b < n) := by intro n hn; simp [vokB, h1, h2, h3, hn]
        rcases h4 with rfl | rfl | rfl | rfl
        · rw [e 2 (by decide)]; clear e
          go_enter Try.func23, Try.ntmps23
          go_wp2
          go_quiet (fail)
          go_wp2
          go_ret
          exact ⟨rfl, below_drewN (below_self_alloc _ _) _⟩
        · rw [e 4 (by decide)]; clear e
          go_enter Try.func23, Try.ntmps23
          go_wp2
          go_quiet (fail)
          go_wp2
          go_ret
          exact ⟨rfl, below_drewN (below_self_alloc _ _) _⟩
        · rw [e 8 (by decide)]; clear e
          go_enter Try.func23, Try.ntmps23
          go_wp2
          go_quiet (fail)
          go_wp2
          go_ret
          exact ⟨rfl, below_drewN (below_self_alloc _ _) _⟩
        · rw [e 16 (by decide)]; clear e
          go_enter Try.func23, Try.ntmps23
          go_wp2
          go_quiet (fail)
          go_wp2
          go_ret
          exact ⟨rfl, below_drewN (below_self_alloc _ _) _⟩
      · have e : vokB a b = false := by simp [vokB]; omega
        have hd : decide (0 ≤ b) = false := by simpa using h3
        rw [e]; clear e
        go_enter Try.func23, Try.ntmps23
        go_wp2
        go_quiet (fail)
        go_wp2
        go_ret
        exact ⟨rfl, below_drewN (below_self_alloc _ _) _⟩
    · have e : vokB a b = false := by simp [vokB]; omega
      have hd : decide (a ≤ 4) = false := by simpa using h2
      rw [e]; clear e
      go_enter Try.func23, Try.ntmps23
      go_wp2
      go_quiet (fail)
      go_wp2
      go_ret
      exact ⟨rfl, below_drewN (below_self_alloc _ _) _⟩
  · have e : vokB a b = false := by simp [vokB]; omega
    have hd : decide (1 ≤ a) = false := by simpa using h1
    rw [e]; clear e
    go_enter Try.func23, Try.ntmps23
    go_wp2
    go_quiet (fail)
    go_wp2
    go_ret
    exact ⟨rfl, below_drewN (below_self_alloc _ _) _⟩

set_option maxHeartbeats 1000000 in
theorem vecOk_spec (a b : Int) (w : World) :
    Calls Try.prog 21 #[.agg #[.int .i64 a, .int .i64 b]] w fun e w' => e = .returned (.bool (vokB a b)) ∧ Below w.heap.size w w' := by
  by_cases h1 : 1 ≤ a
  · by_cases h2 : a ≤ 4
    · by_cases h3 : 0 ≤ b
      · have e : vokB a b = decide (b < two a.toNat) := by simp [vokB, h1, h2, h3]
        rw [e]; clear e
        go_enter Try.func21, Try.ntmps21
        go_wp2
        go_quiet ((go_at_call 49; exact Calls.quiet_of_same ((l1Two_any _ _ (by omega)).mono fun _ _ h => ⟨h.1, h.2.symm⟩)))
        go_wp2
        go_ret
        exact ⟨rfl, below_drewN (below_self_alloc _ _) _⟩
      · have e : vokB a b = false := by simp [vokB]; omega
        have hd : decide (0 ≤ b) = false := by simpa using h3
        rw [e]; clear e
        go_enter Try.func21, Try.ntmps21
        go_wp2
        go_quiet (fail)
        go_wp2
        go_ret
        exact ⟨rfl, below_drewN (below_self_alloc _ _) _⟩
    · have e : vokB a b = false := by simp [vokB]; omega
      have hd : decide (a ≤ 4) = false := by simpa using h2
      rw [e]; clear e
      go_enter Try.func21, Try.ntmps21
      go_wp2
      go_quiet (fail)
      go_wp2
      go_ret
      exact ⟨rfl, below_drewN (below_self_alloc _ _) _⟩
  · have e : vokB a b = false := by simp [vokB]; omega
    have hd : decide (1 ≤ a) = false := by simpa using h1
    rw [e]; clear e
    go_enter Try.func21, Try.ntmps21
    go_wp2
    go_quiet (fail)
    go_wp2
    go_ret
    exact ⟨rfl, below_drewN (below_self_alloc _ _) _⟩

set_option maxHeartbeats 400000 in
theorem raw_any (a b : Int) (w : World) (h0 : 0 ≤ b) (h1 : b ≤ 9223372036854775807) :
    Calls Try.prog 51 #[.agg #[.int .i64 a, .int .i64 b]] w fun e w' => e = .returned (.int .u64 b) ∧ Below w.heap.size w w' := by
  go_enter Try.func51, Try.ntmps51
  go_wp2
  trace_state
  go_ret
  exact ⟨rfl, below_self_alloc _ _⟩
end Go.Proofs.Ytpnpjdebmakamaa
