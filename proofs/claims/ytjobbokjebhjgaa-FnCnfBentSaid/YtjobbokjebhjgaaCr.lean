/- A clause that turns each truth value about, and what is the least then: the plain law; wpAfter. The conditions stand in each statement. -/
import Derived.Test.YtjobbokjebhjgaaCq
import Derived.Test.YtjobbokjebhjgaaDb
namespace Go.Proofs.Ytjobbokjebhjgaa
open Go.RowKit

/-! ### one list of truth values behind another -/
def afterL : List Bool → List Bool → Bool
  | a :: r, b :: q => if a = b then afterL r q else b
  | _, _ => false
theorem l4v_succ (n k : Nat) : l4v (n + 1) k = decide (k / 2 ^ n % 2 = 1) :: l4v n k := by
  unfold l4v
  rw [List.range_succ_eq_map, List.map_cons, List.map_map]
  congr 1
  apply List.map_congr_left
  intro i _
  show bitAt (n + 1) k (i + 1) = bitAt n k i
  unfold bitAt
  rw [show n + 1 - 1 - (i + 1) = n - 1 - i by omega]
theorem after_l4v : ∀ n a b, a % 2 ^ n < b % 2 ^ n → afterL (l4v n a) (l4v n b) = true
  | 0, a, b, h => by simp [Nat.mod_one] at h
  | n + 1, a, b, h => by
    rw [Nat.mod_pow_succ, Nat.mod_pow_succ] at h
    rw [l4v_succ, l4v_succ, afterL]
    have hp := Nat.two_pow_pos n
    have ha : a % 2 ^ n < 2 ^ n := Nat.mod_lt _ hp
    have hb : b % 2 ^ n < 2 ^ n := Nat.mod_lt _ hp
    rcases Nat.mod_two_eq_zero_or_one (a / 2 ^ n) with e1 | e1 <;> rcases Nat.mod_two_eq_zero_or_one (b / 2 ^ n) with e2 | e2 <;> rw [e1, e2] at h ⊢
    · rw [if_pos rfl]; exact after_l4v n a b (by omega)
    · simp
    · omega
    · rw [if_pos rfl]; exact after_l4v n a b (by omega)
theorem least_at {n : Nat} {p : List Bool → Bool} : ∀ f k x, leastFrom n p f k = (x, true) → ∃ j, k ≤ j ∧ j < k + f ∧ x = l4v n j ∧ p x = true ∧ ∀ i, k ≤ i → i < j → p (l4v n i) = false
  | 0, _, _, h => by simp [leastFrom] at h
  | f + 1, k, x, h => by
    unfold leastFrom at h
    cases hp : p (l4v n k)
    · rw [hp] at h
      obtain ⟨j, h1, h2, h3, h4, h5⟩ := least_at f (k + 1) x h
      refine ⟨j, by omega, by omega, h3, h4, fun i hi hj => ?_⟩
      rcases Nat.eq_or_lt_of_le hi with e | e
      · rw [← e]; exact hp
      · exact h5 i (by omega) hj
    · rw [hp] at h
      have e : l4v n k = x := by simpa using h
      exact ⟨k, Nat.le_refl _, by omega, e.symm, by rw [← e]; exact hp, fun i hi hj => absurd hi (by omega)⟩
def turnC (l : List Bool) (i : Nat) : Int := if l.getD i false then -(i : Int) - 1 else (i : Int) + 1
def turnL (l : List Bool) (k : Nat) : List Int := (List.range k).map (turnC l)
theorem turnL_succ (l : List Bool) (k : Nat) : turnL l (k + 1) = turnL l k ++ [turnC l k] := by
  unfold turnL; rw [List.range_succ, List.map_append]; rfl
theorem turnL_len (l : List Bool) (k : Nat) : (turnL l k).length = k := by simp [turnL]
theorem mabs_turn (l : List Bool) (i : Nat) : mabs (turnC l i) = (i : Int) + 1 := by
  unfold mabs turnC
  cases l.getD i false <;> simp <;> omega
theorem turn_bound (l : List Bool) (i : Nat) : -((i : Int) + 1) ≤ turnC l i ∧ turnC l i ≤ (i : Int) + 1 := by
  unfold turnC
  cases l.getD i false <;> simp <;> omega
theorem ok_turn (l : List Bool) (n : Nat) : ∀ j k, k + j ≤ n → okFrom n k ((List.range' k j).map (turnC l)) = true
  | 0, k, _ => rfl
  | j + 1, k, h => by
    rw [List.range'_succ, List.map_cons, okFrom, mabs_turn]
    have := turn_bound l k
    rw [if_pos (by omega)]
    have := ok_turn l n j (k + 1) (by omega)
    simpa using this
theorem turn_ok (l : List Bool) (n : Nat) : okFrom n 0 (turnL l n) = true := by
  have := ok_turn l n n 0 (by omega)
  unfold turnL
  rw [List.range_eq_range']
  simpa using this
theorem turn_wf (l : List Bool) (k : Nat) (hk : k ≤ 1000000) : intsWf (turnL l k) := intsWf_mem fun x hx => by
  obtain ⟨i, hi, rfl⟩ := List.mem_map.1 hx
  have := turn_bound l i
  have := List.mem_range.1 hi
  unfold I64; omega
theorem turn_not {l x : List Bool} {n : Nat} (hl : l.length = n) (h : (turnL l n).any (nlit x) = true) : x ≠ l := by
  rintro rfl
  obtain ⟨y, hy, hn⟩ := List.any_eq_true.1 h
  obtain ⟨i, hi, rfl⟩ := List.mem_map.1 hy
  have hi' := List.mem_range.1 hi
  unfold nlit turnC at hn
  cases hx : x.getD i false
  · have e : (if x.getD i false = true then -(i : Int) - 1 else (i : Int) + 1) = (i : Int) + 1 := by rw [hx]; rfl
    rw [e, if_pos (by omega), if_pos (by omega), show ((i : Int) + 1).toNat - 1 = i by omega, hx] at hn
    cases hn
  · have e : (if x.getD i false = true then -(i : Int) - 1 else (i : Int) + 1) = -(i : Int) - 1 := by rw [hx]; rfl
    rw [e, if_neg (by omega), if_pos (by omega), show (-(-(i : Int) - 1)).toNat - 1 = i by omega, hx] at hn
    cases hn
theorem more_law {n : Nat} {ls : List (List Int)} {l : List Bool} (hk : cnfOkL n ls = true) (hlen : ls.length < 2500) (hz : leastFrom n (holdsL ls) (2 ^ n) 0 = (l, true)) :
    l.length = n ∧ cnfOkL n (ls ++ [turnL l n]) = true ∧ ∀ x, leastFrom n (holdsL (ls ++ [turnL l n])) (2 ^ n) 0 = (x, true) → cnfHasL n ls x = true ∧ x.length = n ∧ x ≠ l ∧ afterL l x = true := by
  obtain ⟨m0, m1, _⟩ := cnfOkL_m hk
  obtain ⟨j0, _, h2, rfl, h4, h5⟩ := least_at _ _ _ hz
  refine ⟨l4v_len _ _, ?_, fun x hx => ?_⟩
  · unfold cnfOkL at hk ⊢
    rw [Bool.and_eq_true] at hk ⊢
    refine ⟨decide_eq_true ⟨m0, m1, by simp; omega⟩, ?_⟩
    rw [List.all_append, hk.2, Bool.true_and]
    simp [turn_ok]
  · obtain ⟨j1, _, g2, rfl, g4, g5⟩ := least_at _ _ _ hx
    have e : holdsL ls (l4v n j1) = true ∧ (turnL (l4v n j0) n).any (nlit (l4v n j1)) = true := by
      unfold holdsL at g4 ⊢
      rw [List.all_append, Bool.and_eq_true] at g4
      exact ⟨g4.1, by simpa using g4.2⟩
    have hne := turn_not (l4v_len n j0) e.2
    refine ⟨by rw [cnfHasL_of hk (by rw [l4v_len])]; exact e.1, l4v_len _ _, hne, after_l4v _ _ _ ?_⟩
    rw [Nat.mod_eq_of_lt (by omega), Nat.mod_eq_of_lt (by omega)]
    rcases Nat.lt_trichotomy j0 j1 with h | h | h
    · exact h
    · exact absurd (by rw [h]) hne
    · have := h5 j1 (Nat.zero_le _) h
      rw [e.1] at this; cases this

set_option maxHeartbeats 2000000 in
theorem wpAfter_any (v v' : Value) (l l' : List Bool) (w : World) (h : Bools w v l) (h' : Bools w v' l') (hn : l'.length = l.length) :
    Calls Try.prog 41 #[v, v'] w (DrewRet (.bool (afterL l l')) w) := by
  have hl := h.len
  obtain ⟨a, cap, rfl, hr⟩ := h
  obtain ⟨a', cap', rfl, hr'⟩ := h'
  obtain ⟨r1, r2, r3⟩ := hr
  obtain ⟨r1', r2', r3'⟩ := hr'
  have Z : Hid (afterL l l' = afterL (l.drop 0) (l'.drop 0)) := rfl
  have HN := Lib.hid hn
  rw [hn] at r1' r3'
  rw [hn]
  clear hn
  generalize afterL l l' = z at *
  go_enter Try.func41, Try.ntmps41
  go_wp2
  go_loopw [5] (fun i wr => ∃ k : Nat, k ≤ l.length ∧ i = .int .i64 k ∧ Hid (z = afterL (l.drop k) (l'.drop k)) ∧ ∃ m, wr = w.drewN m) (fun i _ => l.length - (intOf i).toNat)
  case atStart => exact ⟨0, Nat.zero_le _, rfl, Z.out, 0, rfl⟩
  case round =>
    clear Z
    obtain ⟨k, hk, rfl, hz, m, rfl⟩ := hrel
    by_cases hlt : k < l.length
    · rcases r3 with r3 | ⟨b, off, rfl, r4, r5⟩
      · omega
      rcases r3' with r3' | ⟨b', off', rfl, r4', r5'⟩
      · omega
      have r6 : w.cell? ⟨b, off + k, none⟩ = some (.bool (l.getD k false)) := r5 k hlt
      have r6' : w.cell? ⟨b', off' + k, none⟩ = some (.bool (l'.getD k false)) := r5' k hlt
      have hz2 := hz.out
      rw [drop_at false hlt, drop_at (l := l') false (by rw [HN.out]; exact hlt), afterL] at hz2
      clear r5 r5' hz
      have hk0 : (0 : Int) ≤ (k : Int) := by omega
      have hk1 : (k : Int) < (l.length : Int) := by omega
      generalize l.getD k false = x at *
      generalize l'.getD k false = y at *
      by_cases hxy : x = y
      · rw [if_pos hxy] at hz2
        have HZ := Lib.hid hz2
        clear hz2
        subst hxy
        go_wp2_with fail
        go_quiet (fail)
        go_wp2_with fail
        exact ⟨⟨k + 1, by omega, by go_num, HZ.out, _, rfl⟩, by simp [intOf]; omega⟩
      · rw [if_neg hxy] at hz2
        subst hz2
        obtain rfl : x = !z := by cases x <;> cases z <;> simp_all
        clear hxy
        go_wp2_with fail
        go_quiet (fail)
        rename_i nq
        have r7 : (w.drewN (m + nq)).cell? ⟨b', off' + k, none⟩ = some (.bool z) := r6'
        go_wp2_with fail
        go_ret
        exact ⟨rfl, m + nq, by simp [World.drewN]⟩
    · obtain rfl : k = l.length := by omega
      have hz2 := hz.out
      rw [drop_end] at hz2
      have : z = false := by rw [hz2]; cases l'.drop l.length <;> simp [afterL]
      subst this
      clear hz hz2
      go_wp2_with fail
      go_ret
      exact ⟨rfl, _, rfl⟩
end Go.Proofs.Ytjobbokjebhjgaa
