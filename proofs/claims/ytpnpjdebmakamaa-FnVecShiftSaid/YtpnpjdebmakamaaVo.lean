/- What the reference's shifts come to. The conditions stand in each statement. -/
import Derived.Test.YtpnpjdebmakamaaVn
namespace Go.Proofs.Ytpnpjdebmakamaa
open Go.RowKit

theorem sh11_nat : ∀ a : Nat, a < 5 → ∀ b : Nat, b < 16 → b < 2 ^ a → ∀ d : Nat, d < 16 → ((b : Int) * two (if d < a then d else a)) % two a = ((b : Int) * two d) % two a := by decide +kernel
theorem sh12_nat : ∀ a : Nat, a < 5 → ∀ b : Nat, b < 16 → b < 2 ^ a → ∀ d : Nat, d < 16 → (b : Int) / two (if d < a then d else a) = ((b : Int) / two d) % two a := by decide +kernel
theorem sh13_nat : ∀ a : Nat, a < 5 → 0 < a → ∀ b : Nat, b < 16 → b < 2 ^ a → ∀ d : Nat, d < 16 → (if (b : Int) / two (a - 1) % 2 = 0 then (b : Int) / two (if d < a then d else a) else (two a - 1) - ((two a - 1) - (b : Int)) / two (if d < a then d else a)) = (strN (a : Int) (b : Int) / two d) % two a := by decide +kernel

/-- the count that a shift is cut to -/
def cutD (a d : Int) : Int := if d < a then d else a
theorem cutD_nat {a d : Int} (ha : 0 ≤ a) (hd : 0 ≤ d) : (cutD a d).toNat = if d.toNat < a.toNat then d.toNat else a.toNat := by
  unfold cutD; split <;> split <;> omega
theorem sh11 {a b d : Int} (hv : vokB a b = true) (h0 : 0 ≤ d) (h1 : d ≤ 15) : (b * two (cutD a d).toNat) % two a.toNat = binR 11 a b d % two a.toNat := by
  obtain ⟨h3, h4, h5, h6⟩ := vok_small hv
  have h7 := (vokB_bd hv).2.2.2
  rw [binR_11, cutD_nat (by omega) h0]
  obtain ⟨x, rfl⟩ := Int.eq_ofNat_of_zero_le h5
  exact sh11_nat a.toNat (by omega) x (by omega) (by unfold two at h7; omega) d.toNat (by omega)
theorem sh12 {a b d : Int} (hv : vokB a b = true) (h0 : 0 ≤ d) (h1 : d ≤ 15) : b / two (cutD a d).toNat = binR 12 a b d % two a.toNat := by
  obtain ⟨h3, h4, h5, h6⟩ := vok_small hv
  have h7 := (vokB_bd hv).2.2.2
  rw [binR_12, cutD_nat (by omega) h0]
  obtain ⟨x, rfl⟩ := Int.eq_ofNat_of_zero_le h5
  exact sh12_nat a.toNat (by omega) x (by omega) (by unfold two at h7; omega) d.toNat (by omega)
theorem sh13 {a b d : Int} (hv : vokB a b = true) (h0 : 0 ≤ d) (h1 : d ≤ 15) : (if b / two (a.toNat - 1) % 2 = 0 then b / two (cutD a d).toNat else (two a.toNat - 1) - ((two a.toNat - 1) - b) / two (cutD a d).toNat) = binR 13 a b d % two a.toNat := by
  obtain ⟨h3, h4, h5, h6⟩ := vok_small hv
  have h7 := (vokB_bd hv).2.2.2
  rw [binR_13, cutD_nat (by omega) h0]
  obtain ⟨x, rfl⟩ := Int.eq_ofNat_of_zero_le h5
  obtain ⟨k, rfl⟩ := Int.eq_ofNat_of_zero_le (show 0 ≤ a by omega)
  exact sh13_nat k (by omega) (by omega) x (by omega) (by rw [show (k : Int).toNat = k from rfl] at h7; unfold two at h7; omega) d.toNat (by omega)

set_option maxHeartbeats 1000000 in
theorem l1Shift_11 (a b d : Int) (w : World) (hv : vokB a b = true) (h0 : 0 ≤ d) (h1 : d ≤ 15) :
    Calls Try.prog 67 #[.int .i64 11, .agg #[.int .i64 a, .int .i64 b], .int .i64 d] w fun e w' => e = .returned (.int .i64 (binR 11 a b d % two a.toNat)) ∧ Below w.heap.size w w' := by
  rw [← sh11 hv h0 h1]
  obtain ⟨h3, h4, h5, h6⟩ := vok_small hv
  have c0 : 0 ≤ cutD a d ∧ cutD a d ≤ 4 := by unfold cutD; split <;> omega
  have M := Lib.hid (fun W => l1Min_any d a W)
  have t1 := two_pos (cutD a d).toNat
  have t2 : two (cutD a d).toNat ≤ 16 := two_le (n := 4) (by omega)
  have m0 := Int.mul_nonneg h5 (show (0 : Int) ≤ two (cutD a d).toNat by omega)
  have m1 : b * two (cutD a d).toNat ≤ 240 := by have := Int.mul_le_mul h6 t2 (by omega) (by decide); omega
  have ew : wrap64 (b * two (cutD a d).toNat) = b * two (cutD a d).toNat := IntWalk.wrap64_in _ ⟨by omega, by omega⟩
  have D : ∀ W : World, Calls Try.prog 56 #[.int .i64 (wrap64 (b * two (cutD a d).toNat)), .int .i64 a] W fun e w' => e = .returned (.int .i64 (b * two (cutD a d).toNat % two a.toNat)) ∧ w' = W := fun W => by
    rw [ew]; exact (l1Mod_any _ a W (by omega) (by omega) h4).mono fun _ _ h => ⟨h.1, h.2.symm⟩
  have T : ∀ W : World, Calls Try.prog 49 #[.int .i64 (cutD a d)] W fun e w' => e = .returned (.int .i64 (two (cutD a d).toNat)) ∧ w' = W := fun W => (l1Two_any _ W (by omega)).mono fun _ _ h => ⟨h.1, h.2.symm⟩
  have hm : (if d < a then d else a) = cutD a d := rfl
  rw [hm] at M
  have D' := Lib.hid D
  have T' := Lib.hid T
  clear D T ew m0 m1 t1 t2 hm
  generalize cutD a d = m at *
  go_enter Try.func67, Try.ntmps67
  go_wp2_with fail
  refine (M.out _).mono ?_; rintro e w1 ⟨rfl, rfl⟩
  go_wp2_with fail
  go_quiet ((first | (go_at_call 49; exact Calls.quiet_of_same (T'.out _)) | (go_at_call 56; exact Calls.quiet_of_same (D'.out _))))
  go_wp2_with fail
  go_ret
  exact ⟨rfl, below_drewN (below_self_alloc _ _) _⟩

set_option maxHeartbeats 1000000 in
theorem l1Shift_12 (a b d : Int) (w : World) (hv : vokB a b = true) (h0 : 0 ≤ d) (h1 : d ≤ 15) :
    Calls Try.prog 67 #[.int .i64 12, .agg #[.int .i64 a, .int .i64 b], .int .i64 d] w fun e w' => e = .returned (.int .i64 (binR 12 a b d % two a.toNat)) ∧ Below w.heap.size w w' := by
  rw [← sh12 hv h0 h1]
  obtain ⟨h3, h4, h5, h6⟩ := vok_small hv
  have c0 : 0 ≤ cutD a d ∧ cutD a d ≤ 4 := by unfold cutD; split <;> omega
  have M := Lib.hid (fun W => l1Min_any d a W)
  have t1 := two_pos (cutD a d).toNat
  have z1 : ¬ two (cutD a d).toNat = 0 := by omega
  have m0 := Int.ediv_nonneg h5 (show (0 : Int) ≤ two (cutD a d).toNat by omega)
  have m1 := Int.ediv_le_self (two (cutD a d).toNat) h5
  have E : Hid (IntKind.i64.wrap (b.tdiv (two (cutD a d).toNat)) = b / two (cutD a d).toNat) := by
    show _ = _
    rw [Int.tdiv_eq_ediv_of_nonneg h5]; exact IntWalk.i64_in _ (by omega)
  have T : ∀ W : World, Calls Try.prog 49 #[.int .i64 (cutD a d)] W fun e w' => e = .returned (.int .i64 (two (cutD a d).toNat)) ∧ w' = W := fun W => (l1Two_any _ W (by omega)).mono fun _ _ h => ⟨h.1, h.2.symm⟩
  have hm : (if d < a then d else a) = cutD a d := rfl
  rw [hm] at M
  have T' := Lib.hid T
  clear T hm
  generalize cutD a d = m at *
  go_enter Try.func67, Try.ntmps67
  go_wp2_with fail
  refine (M.out _).mono ?_; rintro e w1 ⟨rfl, rfl⟩
  go_wp2_with fail
  go_quiet ((go_at_call 49; exact Calls.quiet_of_same (T'.out _)))
  go_wp2_with fail
  go_ret
  exact ⟨ret_int (by first | rfl | exact E.out), below_drewN (below_self_alloc _ _) _⟩

set_option maxHeartbeats 1000000 in
theorem l1Shift_13 (a b d : Int) (w : World) (hv : vokB a b = true) (h0 : 0 ≤ d) (h1 : d ≤ 15) :
    Calls Try.prog 67 #[.int .i64 13, .agg #[.int .i64 a, .int .i64 b], .int .i64 d] w fun e w' => e = .returned (.int .i64 (binR 13 a b d % two a.toNat)) ∧ Below w.heap.size w w' := by
  rw [← sh13 hv h0 h1]
  have h8 := (vokB_bd hv).2.2.2
  have h9 := vok_two hv
  obtain ⟨h3, h4, h5, h6⟩ := vok_small hv
  have c0 : 0 ≤ cutD a d ∧ cutD a d ≤ 4 := by unfold cutD; split <;> omega
  have M := Lib.hid (fun W => l1Min_any d a W)
  have t1 := two_pos (cutD a d).toNat
  have z1 : ¬ two (cutD a d).toNat = 0 := by omega
  have T : ∀ W : World, Calls Try.prog 49 #[.int .i64 (cutD a d)] W fun e w' => e = .returned (.int .i64 (two (cutD a d).toNat)) ∧ w' = W := fun W => (l1Two_any _ W (by omega)).mono fun _ _ h => ⟨h.1, h.2.symm⟩
  have hm : (if d < a then d else a) = cutD a d := rfl
  rw [hm] at M
  have T' := Lib.hid T
  have m0 := Int.ediv_nonneg h5 (show (0 : Int) ≤ two (cutD a d).toNat by omega)
  have m1 := Int.ediv_le_self (two (cutD a d).toNat) h5
  have n0 := Int.ediv_nonneg (show (0 : Int) ≤ two a.toNat - 1 - b by omega) (show (0 : Int) ≤ two (cutD a d).toNat by omega)
  have n1 := Int.ediv_le_self (two (cutD a d).toNat) (show (0 : Int) ≤ two a.toNat - 1 - b by omega)
  have E1 : Hid (wrap64 (b.tdiv (two (cutD a d).toNat)) = b / two (cutD a d).toNat) := by
    show _ = _
    rw [Int.tdiv_eq_ediv_of_nonneg h5]; exact IntWalk.wrap64_in _ ⟨by omega, by omega⟩
  have E2 : Hid (wrap64 (two a.toNat - 1 - wrap64 ((wrap64 (two a.toNat - 1 - b)).tdiv (two (cutD a d).toNat))) = two a.toNat - 1 - (two a.toNat - 1 - b) / two (cutD a d).toNat) := by
    show _ = _
    rw [IntWalk.wrap64_in (two a.toNat - 1 - b) ⟨by omega, by omega⟩, Int.tdiv_eq_ediv_of_nonneg (by omega), IntWalk.wrap64_in ((two a.toNat - 1 - b) / two (cutD a d).toNat) ⟨by omega, by omega⟩]
    exact IntWalk.wrap64_in _ ⟨by omega, by omega⟩
  have E3 : Hid (wrap64 (two a.toNat - 1 - (two a.toNat - 1 - b) / two (cutD a d).toNat) = two a.toNat - 1 - (two a.toNat - 1 - b) / two (cutD a d).toNat) := by
    show _ = _
    exact IntWalk.wrap64_in _ ⟨by omega, by omega⟩
  clear T hm m0 m1 n0 n1
  generalize cutD a d = m at *
  have B := Lib.hid (fun W => l1Bit_any b (a - 1) W (by omega) (by omega) (by omega))
  have hn : (a - 1).toNat = a.toNat - 1 := by omega
  rw [hn] at B
  clear hn
  by_cases hs : b / two (a.toNat - 1) % 2 = 0
  · rw [if_pos hs]
    have hs1 : (b / two (a.toNat - 1) % 2 == 0) = true := by simpa using hs
    clear hs
    go_enter Try.func67, Try.ntmps67
    go_wp2_with fail
    refine (M.out _).mono ?_; rintro e w1 ⟨rfl, rfl⟩
    go_wp2_with fail
    refine (B.out _).mono ?_; rintro e w1 ⟨rfl, rfl⟩
    go_wp2_with fail
    go_quiet ((go_at_call 49; exact Calls.quiet_of_same (T'.out _)))
    go_wp2_with fail
    go_ret
    exact ⟨ret_int (by first | rfl | exact E1.out), below_drewN (below_self_alloc _ _) _⟩
  · rw [if_neg hs]
    have hs1 : (b / two (a.toNat - 1) % 2 == 0) = false := by simpa using hs
    clear hs
    go_enter Try.func67, Try.ntmps67
    go_wp2_with fail
    refine (M.out _).mono ?_; rintro e w1 ⟨rfl, rfl⟩
    go_wp2_with fail
    refine (B.out _).mono ?_; rintro e w1 ⟨rfl, rfl⟩
    go_wp2_with fail
    refine (l1Two_any a _ (by omega)).mono ?_; rintro e w1 ⟨rfl, rfl⟩
    have t3 := two_pos a.toNat
    go_wp2_with fail
    go_quiet ((go_at_call 49; exact Calls.quiet_of_same (T'.out _)))
    go_wp2_with fail
    go_ret
    exact ⟨ret_int (by first | rfl | exact E2.out | exact E3.out), below_drewN (below_self_alloc _ _) _⟩
end Go.Proofs.Ytpnpjdebmakamaa
