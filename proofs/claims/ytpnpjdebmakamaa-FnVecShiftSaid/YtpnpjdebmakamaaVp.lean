/- What the reference's l1Bin and VecBin come to. The conditions stand in each statement. -/
import Derived.Test.YtpnpjdebmakamaaVo
namespace Go.Proofs.Ytpnpjdebmakamaa
open Go.RowKit
/-- what the reference's l1Bin gives: the bitwise operations are not truncated there -/
def speR (op a b d : Int) : Int := if op ≤ 5 then binR op a b d else binR op a b d % two a.toNat
theorem speR_nat3 : ∀ a : Nat, a < 5 → ∀ b : Nat, b < 16 → b < 2 ^ a → ∀ d : Nat, d < 16 → d < 2 ^ a → ((b &&& d : Nat) : Int) % two a = ((b &&& d : Nat) : Int) := by decide +kernel
theorem speR_nat4 : ∀ a : Nat, a < 5 → ∀ b : Nat, b < 16 → b < 2 ^ a → ∀ d : Nat, d < 16 → d < 2 ^ a → ((b ||| d : Nat) : Int) % two a = ((b ||| d : Nat) : Int) := by decide +kernel
theorem speR_nat5 : ∀ a : Nat, a < 5 → ∀ b : Nat, b < 16 → b < 2 ^ a → ∀ d : Nat, d < 16 → d < 2 ^ a → ((b ^^^ d : Nat) : Int) % two a = ((b ^^^ d : Nat) : Int) := by decide +kernel
theorem sub_mod {n : Int} {k : Nat} (hk : k ≤ 4) : IntKind.u64.wrap n % two k = n % two k := by
  rw [IntKind.wrap_u64]
  have : k = 0 ∨ k = 1 ∨ k = 2 ∨ k = 3 ∨ k = 4 := by omega
  rcases this with rfl | rfl | rfl | rfl | rfl <;> simp [two] <;> omega
theorem speR_eq {op a b d : Int} (h : 3 ≤ op) (hv : vokB a b = true) (hv2 : vokB a d = true) : speR op a b d = binR op a b d % two a.toNat := by
  unfold speR
  split
  · have h8 := (vokB_bd hv).2.2.2
    have h9 := (vokB_bd hv2).2.2.2
    obtain ⟨h1, h2, h3, h4⟩ := vok_small hv
    obtain ⟨_, _, h5, h6⟩ := vok_small hv2
    unfold two at h8 h9
    have : op = 3 ∨ op = 4 ∨ op = 5 := by omega
    rcases this with rfl | rfl | rfl
    · rw [binR_3]; exact (speR_nat3 a.toNat (by omega) b.toNat (by omega) (by omega) d.toNat (by omega) (by omega)).symm
    · rw [binR_4]; exact (speR_nat4 a.toNat (by omega) b.toNat (by omega) (by omega) d.toNat (by omega) (by omega)).symm
    · rw [binR_5]; exact (speR_nat5 a.toNat (by omega) b.toNat (by omega) (by omega) d.toNat (by omega) (by omega)).symm
  · rfl

set_option maxHeartbeats 1000000 in
theorem l1Bin_3 (a b c d : Int) (w : World) (hv : vokB a b = true) (hv2 : vokB c d = true) :
    Calls Try.prog 64 #[.int .i64 3, .agg #[.int .i64 a, .int .i64 b], .agg #[.int .i64 c, .int .i64 d]] w fun e w' => e = .returned (.tuple #[.int .i64 (speR 3 a b d), .bool true]) ∧ Below w.heap.size w w' := by
  have h8 := (vokB_bd hv).2.2.2
  have h9 := vok_two hv
  have t1 := two_pos a.toNat
  obtain ⟨h1, h2, h3, h4⟩ := vok_small hv
  obtain ⟨_, _, h5, h6⟩ := vok_small hv2
  have e : speR 3 a b d = ((b.toNat &&& d.toNat : Nat) : Int) := by simp [speR, binR_3]
  rw [e]; clear e
  have C : ∀ W : World, Calls Try.prog 66 #[.int .i64 3, .int .i64 b, .int .i64 d] W fun e w' => e = .returned (.int .i64 ((b.toNat &&& d.toNat : Nat) : Int)) ∧ W = w' := fun W => by
    have h := l1Bits_3 b.toNat d.toNat W (by omega) (by omega)
    rw [Int.toNat_of_nonneg h3, Int.toNat_of_nonneg h5] at h
    exact h
  have C' := Lib.hid C
  clear C
  generalize ((b.toNat &&& d.toNat : Nat) : Int) = r at *
  go_enter Try.func64, Try.ntmps64
  go_wp2_with fail
  refine (C'.out _).mono ?_; rintro e w1 ⟨rfl, rfl⟩
  go_wp2_with fail
  go_ret2
  exact ⟨rfl, below_step (below_step (Below.refl _ _) _) _⟩

set_option maxHeartbeats 1000000 in
theorem l1Bin_4 (a b c d : Int) (w : World) (hv : vokB a b = true) (hv2 : vokB c d = true) :
    Calls Try.prog 64 #[.int .i64 4, .agg #[.int .i64 a, .int .i64 b], .agg #[.int .i64 c, .int .i64 d]] w fun e w' => e = .returned (.tuple #[.int .i64 (speR 4 a b d), .bool true]) ∧ Below w.heap.size w w' := by
  have h8 := (vokB_bd hv).2.2.2
  have h9 := vok_two hv
  have t1 := two_pos a.toNat
  obtain ⟨h1, h2, h3, h4⟩ := vok_small hv
  obtain ⟨_, _, h5, h6⟩ := vok_small hv2
  have e : speR 4 a b d = ((b.toNat ||| d.toNat : Nat) : Int) := by simp [speR, binR_4]
  rw [e]; clear e
  have C : ∀ W : World, Calls Try.prog 66 #[.int .i64 4, .int .i64 b, .int .i64 d] W fun e w' => e = .returned (.int .i64 ((b.toNat ||| d.toNat : Nat) : Int)) ∧ W = w' := fun W => by
    have h := l1Bits_4 b.toNat d.toNat W (by omega) (by omega)
    rw [Int.toNat_of_nonneg h3, Int.toNat_of_nonneg h5] at h
    exact h
  have C' := Lib.hid C
  clear C
  generalize ((b.toNat ||| d.toNat : Nat) : Int) = r at *
  go_enter Try.func64, Try.ntmps64
  go_wp2_with fail
  refine (C'.out _).mono ?_; rintro e w1 ⟨rfl, rfl⟩
  go_wp2_with fail
  go_ret2
  exact ⟨rfl, below_step (below_step (Below.refl _ _) _) _⟩

set_option maxHeartbeats 1000000 in
theorem l1Bin_5 (a b c d : Int) (w : World) (hv : vokB a b = true) (hv2 : vokB c d = true) :
    Calls Try.prog 64 #[.int .i64 5, .agg #[.int .i64 a, .int .i64 b], .agg #[.int .i64 c, .int .i64 d]] w fun e w' => e = .returned (.tuple #[.int .i64 (speR 5 a b d), .bool true]) ∧ Below w.heap.size w w' := by
  have h8 := (vokB_bd hv).2.2.2
  have h9 := vok_two hv
  have t1 := two_pos a.toNat
  obtain ⟨h1, h2, h3, h4⟩ := vok_small hv
  obtain ⟨_, _, h5, h6⟩ := vok_small hv2
  have e : speR 5 a b d = ((b.toNat ^^^ d.toNat : Nat) : Int) := by simp [speR, binR_5]
  rw [e]; clear e
  have C : ∀ W : World, Calls Try.prog 66 #[.int .i64 5, .int .i64 b, .int .i64 d] W fun e w' => e = .returned (.int .i64 ((b.toNat ^^^ d.toNat : Nat) : Int)) ∧ W = w' := fun W => by
    have h := l1Bits_5 b.toNat d.toNat W (by omega) (by omega)
    rw [Int.toNat_of_nonneg h3, Int.toNat_of_nonneg h5] at h
    exact h
  have C' := Lib.hid C
  clear C
  generalize ((b.toNat ^^^ d.toNat : Nat) : Int) = r at *
  go_enter Try.func64, Try.ntmps64
  go_wp2_with fail
  refine (C'.out _).mono ?_; rintro e w1 ⟨rfl, rfl⟩
  go_wp2_with fail
  go_ret2
  exact ⟨rfl, below_step (below_step (Below.refl _ _) _) _⟩

set_option maxHeartbeats 1000000 in
theorem l1Bin_6 (a b c d : Int) (w : World) (hv : vokB a b = true) (hv2 : vokB c d = true) :
    Calls Try.prog 64 #[.int .i64 6, .agg #[.int .i64 a, .int .i64 b], .agg #[.int .i64 c, .int .i64 d]] w fun e w' => e = .returned (.tuple #[.int .i64 (speR 6 a b d), .bool true]) ∧ Below w.heap.size w w' := by
  have h8 := (vokB_bd hv).2.2.2
  have h9 := vok_two hv
  have t1 := two_pos a.toNat
  obtain ⟨h1, h2, h3, h4⟩ := vok_small hv
  obtain ⟨_, _, h5, h6⟩ := vok_small hv2
  have e : speR 6 a b d = (b + d) % two a.toNat := by simp [speR, binR_6]
  rw [e]; clear e
  have C : ∀ W : World, Calls Try.prog 56 #[.int .i64 (b + d), .int .i64 a] W fun e w' => e = .returned (.int .i64 ((b + d) % two a.toNat)) ∧ W = w' := fun W => by
    exact l1Mod_any (b + d) a W (by omega) (by omega) h2
  have C' := Lib.hid C
  clear C
  go_enter Try.func64, Try.ntmps64
  go_wp2_with fail
  refine (C'.out _).mono ?_; rintro e w1 ⟨rfl, rfl⟩
  go_wp2_with fail
  go_ret2
  exact ⟨rfl, below_step (below_step (Below.refl _ _) _) _⟩

set_option maxHeartbeats 1000000 in
theorem l1Bin_7 (a b c d : Int) (w : World) (hv : vokB a b = true) (hv2 : vokB c d = true) :
    Calls Try.prog 64 #[.int .i64 7, .agg #[.int .i64 a, .int .i64 b], .agg #[.int .i64 c, .int .i64 d]] w fun e w' => e = .returned (.tuple #[.int .i64 (speR 7 a b d), .bool true]) ∧ Below w.heap.size w w' := by
  have h8 := (vokB_bd hv).2.2.2
  have h9 := vok_two hv
  have t1 := two_pos a.toNat
  obtain ⟨h1, h2, h3, h4⟩ := vok_small hv
  obtain ⟨_, _, h5, h6⟩ := vok_small hv2
  have e : speR 7 a b d = (b - d) % two a.toNat := by simp only [speR]; rw [if_neg (by decide), binR_7]; exact sub_mod (by omega)
  rw [e]; clear e
  have C : ∀ W : World, Calls Try.prog 56 #[.int .i64 (b - d), .int .i64 a] W fun e w' => e = .returned (.int .i64 ((b - d) % two a.toNat)) ∧ W = w' := fun W => by
    exact l1Mod_any (b - d) a W (by omega) (by omega) h2
  have C' := Lib.hid C
  clear C
  go_enter Try.func64, Try.ntmps64
  go_wp2_with fail
  refine (C'.out _).mono ?_; rintro e w1 ⟨rfl, rfl⟩
  go_wp2_with fail
  go_ret2
  exact ⟨rfl, below_step (below_step (Below.refl _ _) _) _⟩

set_option maxHeartbeats 1000000 in
theorem l1Bin_8 (a b c d : Int) (w : World) (hv : vokB a b = true) (hv2 : vokB c d = true) :
    Calls Try.prog 64 #[.int .i64 8, .agg #[.int .i64 a, .int .i64 b], .agg #[.int .i64 c, .int .i64 d]] w fun e w' => e = .returned (.tuple #[.int .i64 (speR 8 a b d), .bool true]) ∧ Below w.heap.size w w' := by
  have h8 := (vokB_bd hv).2.2.2
  have h9 := vok_two hv
  have t1 := two_pos a.toNat
  obtain ⟨h1, h2, h3, h4⟩ := vok_small hv
  obtain ⟨_, _, h5, h6⟩ := vok_small hv2
  have g0 := Int.mul_nonneg h3 h5
  have g1 := Int.mul_le_mul h4 h6 h5 (by decide)
  have e : speR 8 a b d = (b * d) % two a.toNat := by simp [speR, binR_8]
  rw [e]; clear e
  have C : ∀ W : World, Calls Try.prog 56 #[.int .i64 (b * d), .int .i64 a] W fun e w' => e = .returned (.int .i64 ((b * d) % two a.toNat)) ∧ W = w' := fun W => by
    exact l1Mod_any (b * d) a W (by omega) (by omega) h2
  have C' := Lib.hid C
  clear C
  go_enter Try.func64, Try.ntmps64
  go_wp2_with fail
  refine (C'.out _).mono ?_; rintro e w1 ⟨rfl, rfl⟩
  go_wp2_with fail
  go_ret2
  exact ⟨rfl, below_step (below_step (Below.refl _ _) _) _⟩

set_option maxHeartbeats 1000000 in
theorem l1Bin_9 (a b c d : Int) (w : World) (hv : vokB a b = true) (hv2 : vokB c d = true) :
    Calls Try.prog 64 #[.int .i64 9, .agg #[.int .i64 a, .int .i64 b], .agg #[.int .i64 c, .int .i64 d]] w fun e w' => e = .returned (.tuple #[.int .i64 (speR 9 a b d), .bool true]) ∧ Below w.heap.size w w' := by
  have h8 := (vokB_bd hv).2.2.2
  have h9 := vok_two hv
  have t1 := two_pos a.toNat
  obtain ⟨h1, h2, h3, h4⟩ := vok_small hv
  obtain ⟨_, _, h5, h6⟩ := vok_small hv2
  by_cases hd : d = 0
  · have e : speR 9 a b d = two a.toNat - 1 := by
      simp only [speR]; rw [if_neg (by decide), binR_9, if_pos hd]; exact Int.emod_eq_of_lt (by omega) (by omega)
    rw [e]; clear e
    have hd' : (d == 0) = true := by simpa using hd
    clear hd
    go_enter Try.func64, Try.ntmps64
    go_wp2_with fail
    refine (l1Two_any a _ (by omega)).mono ?_; rintro e w1 ⟨rfl, rfl⟩
    go_wp2_with fail
    go_ret2
    exact ⟨rfl, below_step (below_step (Below.refl _ _) _) _⟩
  · have hp : 1 ≤ d := by omega
    have g0 := Int.ediv_nonneg h3 h5
    have g1 := Int.ediv_le_self d h3
    have g2 := Int.emod_nonneg b hd
    have g3 : b % d ≤ b := by have := Int.emod_add_mul_ediv b d; have := Int.mul_nonneg h5 g0; omega
    have e : speR 9 a b d = b / d := by
      simp only [speR]; rw [if_neg (by decide), binR_9, if_neg hd]; exact Int.emod_eq_of_lt (by omega) (by omega)
    rw [e]; clear e
    have hd' : (d == 0) = false := by simpa using hd
    clear hd
    go_enter Try.func64, Try.ntmps64
    go_wp2_with fail
    go_ret2
    exact ⟨rfl, below_step (below_step (Below.refl _ _) _) _⟩

set_option maxHeartbeats 1000000 in
theorem l1Bin_10 (a b c d : Int) (w : World) (hv : vokB a b = true) (hv2 : vokB c d = true) :
    Calls Try.prog 64 #[.int .i64 10, .agg #[.int .i64 a, .int .i64 b], .agg #[.int .i64 c, .int .i64 d]] w fun e w' => e = .returned (.tuple #[.int .i64 (speR 10 a b d), .bool true]) ∧ Below w.heap.size w w' := by
  have h8 := (vokB_bd hv).2.2.2
  have h9 := vok_two hv
  have t1 := two_pos a.toNat
  obtain ⟨h1, h2, h3, h4⟩ := vok_small hv
  obtain ⟨_, _, h5, h6⟩ := vok_small hv2
  by_cases hd : d = 0
  · have e : speR 10 a b d = b := by
      simp only [speR]; rw [if_neg (by decide), binR_10, if_pos hd]; exact Int.emod_eq_of_lt (by omega) (by omega)
    rw [e]; clear e
    have hd' : (d == 0) = true := by simpa using hd
    clear hd
    go_enter Try.func64, Try.ntmps64
    go_wp2_with fail
    go_ret2
    exact ⟨rfl, below_step (below_step (Below.refl _ _) _) _⟩
  · have hp : 1 ≤ d := by omega
    have g0 := Int.ediv_nonneg h3 h5
    have g1 := Int.ediv_le_self d h3
    have g2 := Int.emod_nonneg b hd
    have g3 : b % d ≤ b := by have := Int.emod_add_mul_ediv b d; have := Int.mul_nonneg h5 g0; omega
    have e : speR 10 a b d = b % d := by
      simp only [speR]; rw [if_neg (by decide), binR_10, if_neg hd]; exact Int.emod_eq_of_lt (by omega) (by omega)
    rw [e]; clear e
    have hd' : (d == 0) = false := by simpa using hd
    clear hd
    go_enter Try.func64, Try.ntmps64
    go_wp2_with fail
    go_ret2
    exact ⟨rfl, below_step (below_step (Below.refl _ _) _) _⟩

set_option maxHeartbeats 1000000 in
theorem l1Bin_11 (a b c d : Int) (w : World) (hv : vokB a b = true) (hv2 : vokB c d = true) :
    Calls Try.prog 64 #[.int .i64 11, .agg #[.int .i64 a, .int .i64 b], .agg #[.int .i64 c, .int .i64 d]] w fun e w' => e = .returned (.tuple #[.int .i64 (speR 11 a b d), .bool true]) ∧ Below w.heap.size w w' := by
  have h8 := (vokB_bd hv).2.2.2
  have h9 := vok_two hv
  have t1 := two_pos a.toNat
  obtain ⟨h1, h2, h3, h4⟩ := vok_small hv
  obtain ⟨_, _, h5, h6⟩ := vok_small hv2
  have e : speR 11 a b d = binR 11 a b d % two a.toNat := by simp [speR]
  rw [e]; clear e
  have C' := Lib.hid (fun W => l1Shift_11 a b d W hv h5 h6)
  generalize binR 11 a b d % two a.toNat = r at *
  go_enter Try.func64, Try.ntmps64
  go_wp2_with fail
  refine (C'.out _).mono ?_; rintro e w1 ⟨rfl, hb1⟩
  go_wp2_with fail
  go_ret2
  exact ⟨rfl, below_two (below_step (below_step (Below.refl _ _) _) _) hb1⟩

set_option maxHeartbeats 1000000 in
theorem l1Bin_12 (a b c d : Int) (w : World) (hv : vokB a b = true) (hv2 : vokB c d = true) :
    Calls Try.prog 64 #[.int .i64 12, .agg #[.int .i64 a, .int .i64 b], .agg #[.int .i64 c, .int .i64 d]] w fun e w' => e = .returned (.tuple #[.int .i64 (speR 12 a b d), .bool true]) ∧ Below w.heap.size w w' := by
  have h8 := (vokB_bd hv).2.2.2
  have h9 := vok_two hv
  have t1 := two_pos a.toNat
  obtain ⟨h1, h2, h3, h4⟩ := vok_small hv
  obtain ⟨_, _, h5, h6⟩ := vok_small hv2
  have e : speR 12 a b d = binR 12 a b d % two a.toNat := by simp [speR]
  rw [e]; clear e
  have C' := Lib.hid (fun W => l1Shift_12 a b d W hv h5 h6)
  generalize binR 12 a b d % two a.toNat = r at *
  go_enter Try.func64, Try.ntmps64
  go_wp2_with fail
  refine (C'.out _).mono ?_; rintro e w1 ⟨rfl, hb1⟩
  go_wp2_with fail
  go_ret2
  exact ⟨rfl, below_two (below_step (below_step (Below.refl _ _) _) _) hb1⟩

set_option maxHeartbeats 1000000 in
theorem l1Bin_13 (a b c d : Int) (w : World) (hv : vokB a b = true) (hv2 : vokB c d = true) :
    Calls Try.prog 64 #[.int .i64 13, .agg #[.int .i64 a, .int .i64 b], .agg #[.int .i64 c, .int .i64 d]] w fun e w' => e = .returned (.tuple #[.int .i64 (speR 13 a b d), .bool true]) ∧ Below w.heap.size w w' := by
  have h8 := (vokB_bd hv).2.2.2
  have h9 := vok_two hv
  have t1 := two_pos a.toNat
  obtain ⟨h1, h2, h3, h4⟩ := vok_small hv
  obtain ⟨_, _, h5, h6⟩ := vok_small hv2
  have e : speR 13 a b d = binR 13 a b d % two a.toNat := by simp [speR]
  rw [e]; clear e
  have C' := Lib.hid (fun W => l1Shift_13 a b d W hv h5 h6)
  generalize binR 13 a b d % two a.toNat = r at *
  go_enter Try.func64, Try.ntmps64
  go_wp2_with fail
  refine (C'.out _).mono ?_; rintro e w1 ⟨rfl, hb1⟩
  go_wp2_with fail
  go_ret2
  exact ⟨rfl, below_two (below_step (below_step (Below.refl _ _) _) _) hb1⟩

set_option maxHeartbeats 1000000 in
theorem l1Bin_no (op a b c d : Int) (w : World) (ho : op < 3 ∨ 13 < op) :
    Calls Try.prog 64 #[.int .i64 op, .agg #[.int .i64 a, .int .i64 b], .agg #[.int .i64 c, .int .i64 d]] w fun e w' => e = .returned (.tuple #[.int .i64 0, .bool false]) ∧ Below w.heap.size w w' := by
  have n3 : (op == 3) = false := by simp; omega
  have n4 : (op == 4) = false := by simp; omega
  have n5 : (op == 5) = false := by simp; omega
  have n6 : (op == 6) = false := by simp; omega
  have n7 : (op == 7) = false := by simp; omega
  have n8 : (op == 8) = false := by simp; omega
  have n9 : (op == 9) = false := by simp; omega
  have n10 : (op == 10) = false := by simp; omega
  have n11 : (op == 11) = false := by simp; omega
  have n12 : (op == 12) = false := by simp; omega
  have n13 : (op == 13) = false := by simp; omega
  go_enter Try.func64, Try.ntmps64
  go_wp2_with fail
  go_ret2
  exact ⟨rfl, below_step (below_step (Below.refl _ _) _) _⟩
end Go.Proofs.Ytpnpjdebmakamaa
