/- NetLit of the program and of the reference. The conditions stand in each statement. -/
import Derived.Test.YteeaafdgkepaeaaNm
namespace Go.Proofs.Yteeaafdgkepaeaa
open Go.RowKit

theorem of_any (m n : Int) (w : World) (hn : 0 ≤ n) (hn' : n ≤ 9223372036854775807) :
    Calls Try.prog 37 #[.int .i64 m, .int .i64 n] w fun e w' => e = .returned (.bool (decide (m ≠ 0 ∧ -n ≤ m ∧ m ≤ n))) ∧ w = w' := by
  by_cases h0 : m = 0
  · subst h0
    go_enter Try.func37, Try.ntmps37
    go_wp2
    go_ret
    exact ⟨by simp, rfl⟩
  · have h0' : (m == 0) = false := by simpa using h0
    have h0'' : (m != 0) = true := by simpa using h0
    by_cases h1 : -n ≤ m
    · by_cases h2 : m ≤ n
      · have e : decide (m ≠ 0 ∧ -n ≤ m ∧ m ≤ n) = true := by simp [h0, h1, h2]
        rw [e]; clear e
        go_enter Try.func37, Try.ntmps37
        go_wp2
        go_ret
        exact ⟨rfl, rfl⟩
      · have e : decide (m ≠ 0 ∧ -n ≤ m ∧ m ≤ n) = false := by simp [h2]
        rw [e]; clear e
        go_enter Try.func37, Try.ntmps37
        go_wp2
        go_ret
        exact ⟨rfl, rfl⟩
    · have e : decide (m ≠ 0 ∧ -n ≤ m ∧ m ≤ n) = false := by simp [h1]
      rw [e]; clear e
      go_enter Try.func37, Try.ntmps37
      go_wp2
      go_ret
      exact ⟨rfl, rfl⟩

theorem node_any (m : Int) (w : World) (h0 : -9223372036854775807 ≤ m) (h1 : m ≤ 9223372036854775807) :
    Calls Try.prog 38 #[.int .i64 m] w fun e w' => e = .returned (.int .i64 (mabs m)) ∧ w = w' := by
  by_cases h : m < 0
  · have e : mabs m = -m := by simp [mabs, h]
    rw [e]; clear e
    go_enter Try.func38, Try.ntmps38
    go_wp2
    go_ret
    exact ⟨rfl, rfl⟩
  · have e : mabs m = m := by simp [mabs, h]
    rw [e]; clear e
    go_enter Try.func38, Try.ntmps38
    go_wp2
    go_ret
    exact ⟨rfl, rfl⟩

set_option maxHeartbeats 2000000 in
theorem netLit_spec (v : Value) (l : List Bool) (m : Int) (w : World) (h : Bools w v l) (m0 : -9223372036854775808 ≤ m) (m1 : m ≤ 9223372036854775807) :
    Calls Try.prog 11 #[v, .int .i64 m] w (DrewRet (.bool (nlit l m)) w) := by
  have hl := h.len
  obtain ⟨a, cap, rfl, r1, r2, r3⟩ := h
  rcases nlit_cases l m with ⟨h1, h2, hz⟩ | ⟨h1, h2, hz⟩ | ⟨h1, hz⟩
  · rw [hz]; clear hz
    rcases r3 with r3 | ⟨b, off, rfl, r4, r5⟩
    · omega
    have r6 : w.cell? ⟨b, off + (m.toNat - 1), none⟩ = some (.bool (l.getD (m.toNat - 1) false)) := r5 _ (by omega)
    clear r5
    generalize l.getD (m.toNat - 1) false = x at *
    have i0 : (0 : Int) ≤ m - 1 := by omega
    have i1 : m - 1 < (l.length : Int) := by omega
    go_enter Try.func11, Try.ntmps11
    go_wp2
    go_ret
    exact ⟨rfl, 0, rfl⟩
  · rw [hz]; clear hz
    rcases r3 with r3 | ⟨b, off, rfl, r4, r5⟩
    · omega
    have r6 : w.cell? ⟨b, off + ((-m).toNat - 1), none⟩ = some (.bool (l.getD ((-m).toNat - 1) false)) := r5 _ (by omega)
    clear r5
    generalize l.getD ((-m).toNat - 1) false = x at *
    have i0 : (0 : Int) ≤ -m - 1 := by omega
    have i1 : -m - 1 < (l.length : Int) := by omega
    go_enter Try.func11, Try.ntmps11
    go_wp2
    go_ret
    exact ⟨rfl, 0, rfl⟩
  · rw [hz]; clear hz r3
    rcases h1 with h1 | h1 | rfl
    all_goals
      go_enter Try.func11, Try.ntmps11
      go_wp2
      go_ret
      exact ⟨rfl, 0, rfl⟩

set_option maxHeartbeats 2000000 in
theorem netLit_impl (v : Value) (l : List Bool) (m : Int) (w : World) (h : Bools w v l) (m0 : -9223372036854775808 ≤ m) (m1 : m ≤ 9223372036854775807) :
    Calls Try.prog 13 #[v, .int .i64 m] w (DrewRet (.bool (nlit l m)) w) := by
  have hl := h.len
  obtain ⟨a, cap, rfl, r1, r2, r3⟩ := h
  rcases nlit_cases l m with ⟨h1, h2, hz⟩ | ⟨h1, h2, hz⟩ | ⟨h1, hz⟩
  · rw [hz]; clear hz
    rcases r3 with r3 | ⟨b, off, rfl, r4, r5⟩
    · omega
    have r6 : w.cell? ⟨b, off + (m.toNat - 1), none⟩ = some (.bool (l.getD (m.toNat - 1) false)) := r5 _ (by omega)
    clear r5
    generalize l.getD (m.toNat - 1) false = x at *
    have i0 : (0 : Int) ≤ m - 1 := by omega
    have i1 : m - 1 < (l.length : Int) := by omega
    have C1 := fun w => of_any m l.length w (by omega) (by omega)
    have e1 : decide (m ≠ 0 ∧ -(l.length : Int) ≤ m ∧ m ≤ l.length) = true := by simp; omega
    have e2 : mabs m = m := by simp [mabs]; omega
    rw [e1] at C1
    have C := Lib.hid C1
    have E2 := Lib.hid e2
    clear C1 e1 e2
    go_enter Try.func13, Try.ntmps13
    go_wp2_with fail
    refine (C.out _).mono ?_; rintro e w1 ⟨rfl, rfl⟩
    go_wp2_with fail
    refine (node_any m _ (by omega) (by omega)).mono ?_; rintro e w1 ⟨rfl, rfl⟩
    rw [E2.out]
    go_wp2_with fail
    go_ret
    exact ⟨rfl, 0, rfl⟩
  · rw [hz]; clear hz
    rcases r3 with r3 | ⟨b, off, rfl, r4, r5⟩
    · omega
    have r6 : w.cell? ⟨b, off + ((-m).toNat - 1), none⟩ = some (.bool (l.getD ((-m).toNat - 1) false)) := r5 _ (by omega)
    clear r5
    generalize l.getD ((-m).toNat - 1) false = x at *
    have i0 : (0 : Int) ≤ -m - 1 := by omega
    have i1 : -m - 1 < (l.length : Int) := by omega
    have C1 := fun w => of_any m l.length w (by omega) (by omega)
    have e1 : decide (m ≠ 0 ∧ -(l.length : Int) ≤ m ∧ m ≤ l.length) = true := by simp; omega
    have e2 : mabs m = -m := by simp [mabs]; omega
    rw [e1] at C1
    have C := Lib.hid C1
    have E2 := Lib.hid e2
    clear C1 e1 e2
    go_enter Try.func13, Try.ntmps13
    go_wp2_with fail
    refine (C.out _).mono ?_; rintro e w1 ⟨rfl, rfl⟩
    go_wp2_with fail
    refine (node_any m _ (by omega) (by omega)).mono ?_; rintro e w1 ⟨rfl, rfl⟩
    rw [E2.out]
    go_wp2_with fail
    go_ret
    have hm : ¬ 0 < m := by omega
    exact ⟨by simp [hm], 0, rfl⟩
  · rw [hz]; clear hz r3
    have C1 := fun w => of_any m l.length w (by omega) (by omega)
    have e1 : decide (m ≠ 0 ∧ -(l.length : Int) ≤ m ∧ m ≤ l.length) = false := by simp; omega
    rw [e1] at C1
    have C := Lib.hid C1
    clear C1 e1 h1
    go_enter Try.func13, Try.ntmps13
    go_wp2_with fail
    refine (C.out _).mono ?_; rintro e w1 ⟨rfl, rfl⟩
    go_wp2_with fail
    go_ret
    exact ⟨rfl, 0, rfl⟩
end Go.Proofs.Yteeaafdgkepaeaa
