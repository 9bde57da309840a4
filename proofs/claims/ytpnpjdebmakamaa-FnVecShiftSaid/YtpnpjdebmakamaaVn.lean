/- What the reference's operations on two bit vectors come to, one by one. The conditions stand in each statement. -/
import Derived.Test.YtpnpjdebmakamaaVl
namespace Go.Proofs.Ytpnpjdebmakamaa
open Go.RowKit

set_option maxHeartbeats 400000 in
theorem l1Min_any (n k : Int) (w : World) :
    Calls Try.prog 81 #[.int .i64 n, .int .i64 k] w fun e w' => e = .returned (.int .i64 (if n < k then n else k)) ∧ w = w' := by
  by_cases h : n < k
  · rw [if_pos h]
    go_enter Try.func81, Try.ntmps81
    go_wp2_with fail
    go_ret
    exact ⟨rfl, rfl⟩
  · rw [if_neg h]
    go_enter Try.func81, Try.ntmps81
    go_wp2_with fail
    go_ret
    exact ⟨rfl, rfl⟩

theorem bits3 : ∀ x : Nat, x < 16 → ∀ y : Nat, y < 16 → ∀ j : Nat, j < 4 → ((x &&& y : Nat) : Int) / two (4 - j) * 2 + (x : Int) / two (3 - j) % 2 * ((y : Int) / two (3 - j) % 2) = ((x &&& y : Nat) : Int) / two (4 - (j + 1)) := by decide +kernel
theorem bits4 : ∀ x : Nat, x < 16 → ∀ y : Nat, y < 16 → ∀ j : Nat, j < 4 → ((x ||| y : Nat) : Int) / two (4 - j) * 2 + ((x : Int) / two (3 - j) % 2 + (y : Int) / two (3 - j) % 2 - (x : Int) / two (3 - j) % 2 * ((y : Int) / two (3 - j) % 2)) = ((x ||| y : Nat) : Int) / two (4 - (j + 1)) := by decide +kernel
theorem bits5 : ∀ x : Nat, x < 16 → ∀ y : Nat, y < 16 → ∀ j : Nat, j < 4 → ((x ^^^ y : Nat) : Int) / two (4 - j) * 2 + ((x : Int) / two (3 - j) % 2 + (y : Int) / two (3 - j) % 2) % 2 = ((x ^^^ y : Nat) : Int) / two (4 - (j + 1)) := by decide +kernel
theorem bit01 (x : Int) (k : Nat) : 0 ≤ x / two k % 2 ∧ x / two k % 2 ≤ 1 := by
  have := Int.emod_nonneg (x / two k) (b := 2) (by decide)
  have := Int.emod_lt_of_pos (x / two k) (b := 2) (by decide)
  omega

set_option maxHeartbeats 1000000 in
theorem l1Bits_3 (x y : Nat) (w : World) (hx : x < 16) (hy : y < 16) :
    Calls Try.prog 66 #[.int .i64 3, .int .i64 x, .int .i64 y] w fun e w' => e = .returned (.int .i64 ((x &&& y : Nat) : Int)) ∧ w = w' := by
  have hr := and_bd x y (by omega)
  go_enter Try.func66, Try.ntmps66
  go_wp2_with fail
  go_loop [7, 8] (fun o i => ∃ j : Nat, j ≤ 4 ∧ i = .int .i64 (3 - (j : Int)) ∧ o = .int .i64 (((x &&& y : Nat) : Int) / two (4 - j))) (fun _ i => (intOf i + 1).toNat)
  case atStart =>
    have e : ((x &&& y : Nat) : Int) / two 4 = 0 := by simp [two]; omega
    exact ⟨0, by omega, rfl, by rw [e]⟩
  case round =>
    obtain ⟨j, hj, rfl, rfl⟩ := hrel
    by_cases hlt : j < 4
    · have hge : (0 : Int) ≤ 3 - (j : Int) := by omega
      have hn : (3 - (j : Int)).toNat = 3 - j := by omega
      have E := Lib.hid (bits3 x hx y hy j hlt)
      have b1 := bit01 x (3 - j)
      have b2 := bit01 y (3 - j)
      have o1 := Int.ediv_nonneg (show (0 : Int) ≤ ((x &&& y : Nat) : Int) by omega) (show (0 : Int) ≤ two (4 - j) by have := two_pos (4 - j); omega)
      have o2 := Int.ediv_le_self (two (4 - j)) (show (0 : Int) ≤ ((x &&& y : Nat) : Int) by omega)
      have B : ∀ (z : Nat) (W : World), z < 16 → Calls Try.prog 55 #[.int .i64 z, .int .i64 (3 - (j : Int))] W fun e w' => e = .returned (.int .i64 ((z : Int) / two (3 - j) % 2)) ∧ W = w' := fun z W hz => by
        have h := l1Bit_any z (3 - (j : Int)) W (by omega) (by omega) (by omega)
        rw [hn] at h; exact h
      have B' := Lib.hid B
      clear B hn
      go_wp2_with fail
      refine (B'.out x _ hx).mono ?_; rintro e w1 ⟨rfl, rfl⟩
      go_wp2_with fail
      refine (B'.out y _ hy).mono ?_; rintro e w2 ⟨rfl, rfl⟩
      generalize hp : (x : Int) / two (3 - j) % 2 = p at *
      generalize hq : (y : Int) / two (3 - j) % 2 = q at *
      generalize ho : ((x &&& y : Nat) : Int) / two (4 - j) = o at *
      clear hp hq ho
      have m0 := Int.mul_nonneg b1.1 b2.1
      have m1 : p * q ≤ 1 := by have := Int.mul_le_mul b1.2 b2.2 b2.1 (by decide); omega
      go_wp2_with fail
      go_round
      case rel => exact ⟨j + 1, by omega, congrArg (Value.int .i64) (by omega), congrArg (Value.int .i64) E.out⟩
      case measure => simp [intOf]; omega
    · have hj4 : j = 4 := by omega
      subst hj4
      go_wp2_with fail
      go_ret
      exact ⟨ret_int (by simp [two]), rfl⟩

set_option maxHeartbeats 1000000 in
theorem l1Bits_4 (x y : Nat) (w : World) (hx : x < 16) (hy : y < 16) :
    Calls Try.prog 66 #[.int .i64 4, .int .i64 x, .int .i64 y] w fun e w' => e = .returned (.int .i64 ((x ||| y : Nat) : Int)) ∧ w = w' := by
  have hr := or_bd x y (by omega) (by omega)
  go_enter Try.func66, Try.ntmps66
  go_wp2_with fail
  go_loop [7, 8] (fun o i => ∃ j : Nat, j ≤ 4 ∧ i = .int .i64 (3 - (j : Int)) ∧ o = .int .i64 (((x ||| y : Nat) : Int) / two (4 - j))) (fun _ i => (intOf i + 1).toNat)
  case atStart =>
    have e : ((x ||| y : Nat) : Int) / two 4 = 0 := by simp [two]; omega
    exact ⟨0, by omega, rfl, by rw [e]⟩
  case round =>
    obtain ⟨j, hj, rfl, rfl⟩ := hrel
    by_cases hlt : j < 4
    · have hge : (0 : Int) ≤ 3 - (j : Int) := by omega
      have hn : (3 - (j : Int)).toNat = 3 - j := by omega
      have E := Lib.hid (bits4 x hx y hy j hlt)
      have b1 := bit01 x (3 - j)
      have b2 := bit01 y (3 - j)
      have o1 := Int.ediv_nonneg (show (0 : Int) ≤ ((x ||| y : Nat) : Int) by omega) (show (0 : Int) ≤ two (4 - j) by have := two_pos (4 - j); omega)
      have o2 := Int.ediv_le_self (two (4 - j)) (show (0 : Int) ≤ ((x ||| y : Nat) : Int) by omega)
      have B : ∀ (z : Nat) (W : World), z < 16 → Calls Try.prog 55 #[.int .i64 z, .int .i64 (3 - (j : Int))] W fun e w' => e = .returned (.int .i64 ((z : Int) / two (3 - j) % 2)) ∧ W = w' := fun z W hz => by
        have h := l1Bit_any z (3 - (j : Int)) W (by omega) (by omega) (by omega)
        rw [hn] at h; exact h
      have B' := Lib.hid B
      clear B hn
      go_wp2_with fail
      refine (B'.out x _ hx).mono ?_; rintro e w1 ⟨rfl, rfl⟩
      go_wp2_with fail
      refine (B'.out y _ hy).mono ?_; rintro e w2 ⟨rfl, rfl⟩
      generalize hp : (x : Int) / two (3 - j) % 2 = p at *
      generalize hq : (y : Int) / two (3 - j) % 2 = q at *
      generalize ho : ((x ||| y : Nat) : Int) / two (4 - j) = o at *
      clear hp hq ho
      have m0 := Int.mul_nonneg b1.1 b2.1
      have m1 : p * q ≤ 1 := by have := Int.mul_le_mul b1.2 b2.2 b2.1 (by decide); omega
      go_wp2_with fail
      go_round
      case rel => exact ⟨j + 1, by omega, congrArg (Value.int .i64) (by omega), congrArg (Value.int .i64) E.out⟩
      case measure => simp [intOf]; omega
    · have hj4 : j = 4 := by omega
      subst hj4
      go_wp2_with fail
      go_ret
      exact ⟨ret_int (by simp [two]), rfl⟩

set_option maxHeartbeats 1000000 in
theorem l1Bits_5 (x y : Nat) (w : World) (hx : x < 16) (hy : y < 16) :
    Calls Try.prog 66 #[.int .i64 5, .int .i64 x, .int .i64 y] w fun e w' => e = .returned (.int .i64 ((x ^^^ y : Nat) : Int)) ∧ w = w' := by
  have hr := xor_bd x y (by omega) (by omega)
  go_enter Try.func66, Try.ntmps66
  go_wp2_with fail
  go_loop [7, 8] (fun o i => ∃ j : Nat, j ≤ 4 ∧ i = .int .i64 (3 - (j : Int)) ∧ o = .int .i64 (((x ^^^ y : Nat) : Int) / two (4 - j))) (fun _ i => (intOf i + 1).toNat)
  case atStart =>
    have e : ((x ^^^ y : Nat) : Int) / two 4 = 0 := by simp [two]; omega
    exact ⟨0, by omega, rfl, by rw [e]⟩
  case round =>
    obtain ⟨j, hj, rfl, rfl⟩ := hrel
    by_cases hlt : j < 4
    · have hge : (0 : Int) ≤ 3 - (j : Int) := by omega
      have hn : (3 - (j : Int)).toNat = 3 - j := by omega
      have E := Lib.hid (bits5 x hx y hy j hlt)
      have b1 := bit01 x (3 - j)
      have b2 := bit01 y (3 - j)
      have o1 := Int.ediv_nonneg (show (0 : Int) ≤ ((x ^^^ y : Nat) : Int) by omega) (show (0 : Int) ≤ two (4 - j) by have := two_pos (4 - j); omega)
      have o2 := Int.ediv_le_self (two (4 - j)) (show (0 : Int) ≤ ((x ^^^ y : Nat) : Int) by omega)
      have B : ∀ (z : Nat) (W : World), z < 16 → Calls Try.prog 55 #[.int .i64 z, .int .i64 (3 - (j : Int))] W fun e w' => e = .returned (.int .i64 ((z : Int) / two (3 - j) % 2)) ∧ W = w' := fun z W hz => by
        have h := l1Bit_any z (3 - (j : Int)) W (by omega) (by omega) (by omega)
        rw [hn] at h; exact h
      have B' := Lib.hid B
      clear B hn
      go_wp2_with fail
      refine (B'.out x _ hx).mono ?_; rintro e w1 ⟨rfl, rfl⟩
      go_wp2_with fail
      refine (B'.out y _ hy).mono ?_; rintro e w2 ⟨rfl, rfl⟩
      generalize hp : (x : Int) / two (3 - j) % 2 = p at *
      generalize hq : (y : Int) / two (3 - j) % 2 = q at *
      generalize ho : ((x ^^^ y : Nat) : Int) / two (4 - j) = o at *
      clear hp hq ho
      have m0 := Int.mul_nonneg b1.1 b2.1
      have m1 : p * q ≤ 1 := by have := Int.mul_le_mul b1.2 b2.2 b2.1 (by decide); omega
      go_wp2_with fail
      go_round
      case rel => exact ⟨j + 1, by omega, congrArg (Value.int .i64) (by omega), congrArg (Value.int .i64) E.out⟩
      case measure => simp [intOf]; omega
    · have hj4 : j = 4 := by omega
      subst hj4
      go_wp2_with fail
      go_ret
      exact ⟨ret_int (by simp [two]), rfl⟩

end Go.Proofs.Ytpnpjdebmakamaa
