/- ClauseHas of the reference; l4Clause and clauseOk. The conditions stand in each statement. -/
import Derived.Test.YtjobbokjebhjgaaCh
import Derived.Test.YtjobbokjebhjgaaSs
namespace Go.Proofs.Ytjobbokjebhjgaa
open Go.RowKit

theorem intsWf_of {l : List Int} (h : ∀ x ∈ l, (Lit.int .i64 x).wf = true) : intsWf l := by
  intro i hi
  have := h (l.getD i 0) (by rw [List.getD_eq_getElem?_getD, List.getElem?_eq_getElem hi]; exact List.getElem_mem _)
  generalize l.getD i 0 = x at *
  simp [Lit.wf, IntKind.min, IntKind.max, IntKind.signed, IntKind.bits] at this
  omega

set_option maxHeartbeats 4000000 in
theorem clauseHas_spec (c : Value) (lc : List Int) (v : Value) (l : List Bool) (w : World) (hc : Ints w c lc) (hwf : intsWf lc) (h : Bools w v l) :
    Calls Try.prog 14 #[c, v] w (DrewRet (.bool (lc.any (nlit l))) w) := by
  have hl := h.len
  have hcl := hc.len
  obtain ⟨a', cap', rfl, r1', r2', r3'⟩ := hc
  have Z : Hid (lc.any (nlit l) = (lc.drop 0).any (nlit l)) := rfl
  generalize hz0 : lc.any (nlit l) = z at *
  clear hz0
  obtain ⟨a, cap, rfl, r1, r2, r3⟩ := h
  go_enter Try.func14, Try.ntmps14
  go_wp2
  go_loopw [5] (fun i wr => ∃ k : Nat, k ≤ lc.length ∧ i = .int .i64 k ∧ Hid (z = (lc.drop k).any (nlit l)) ∧ ∃ m, wr = w.drewN m) (fun i _ => lc.length - (intOf i).toNat)
  case atStart => exact ⟨0, Nat.zero_le _, rfl, Z, 0, rfl⟩
  case round =>
    obtain ⟨k, hk, rfl, hz, m, rfl⟩ := hrel
    clear Z
    by_cases hlt : k < lc.length
    · rcases r3' with r3' | ⟨b', off', rfl, r4', r5'⟩
      · omega
      have r6' : w.cell? ⟨b', off' + k, none⟩ = some (.int .i64 (lc.getD k 0)) := r5' k hlt
      obtain ⟨x0, x1⟩ := hwf k hlt
      have hz2 := hz.out
      rw [drop_at 0 hlt, List.any_cons] at hz2
      have HW := Lib.hid hwf
      clear r5' hwf hz
      generalize lc.getD k 0 = x at *
      have hk0 : (0 : Int) ≤ (k : Int) := by omega
      have hk1 : (k : Int) < (lc.length : Int) := by omega
      rcases nlit_cases l x with ⟨h1, h2, e⟩ | ⟨h1, h2, e⟩ | ⟨h1, e⟩
      · rw [e] at hz2; clear e
        rcases r3 with r3 | ⟨b, off, rfl, r4, r5⟩
        · omega
        have r6 : w.cell? ⟨b, off + (x.toNat - 1), none⟩ = some (.bool (l.getD (x.toNat - 1) false)) := r5 _ (by omega)
        clear r5
        generalize l.getD (x.toNat - 1) false = y at *
        have i0 : (0 : Int) ≤ x - 1 := by omega
        have i1 : x - 1 < (l.length : Int) := by omega
        have hx0 : ¬ x < 0 := by omega
        cases y
        · rw [Bool.false_or] at hz2
          have H := Lib.hid hz2
          clear hz2
          go_wp2_with fail
          exact ⟨⟨k + 1, by omega, by go_num, H, _, rfl⟩, by simp [intOf]; omega⟩
        · rw [Bool.true_or] at hz2
          subst hz2
          go_wp2_with fail
          go_ret
          exact ⟨rfl, _, rfl⟩
      · rw [e] at hz2; clear e
        rcases r3 with r3 | ⟨b, off, rfl, r4, r5⟩
        · omega
        have r6 : w.cell? ⟨b, off + ((-x).toNat - 1), none⟩ = some (.bool (l.getD ((-x).toNat - 1) false)) := r5 _ (by omega)
        clear r5
        generalize l.getD ((-x).toNat - 1) false = y at *
        have i0 : (0 : Int) ≤ -x - 1 := by omega
        have i1 : -x - 1 < (l.length : Int) := by omega
        have hx0 : ¬ 0 < x := by omega
        cases y
        · rw [Bool.not_false, Bool.true_or] at hz2
          subst hz2
          go_wp2_with fail
          go_ret
          exact ⟨rfl, _, rfl⟩
        · rw [Bool.not_true, Bool.false_or] at hz2
          have H := Lib.hid hz2
          clear hz2
          go_wp2_with fail
          exact ⟨⟨k + 1, by omega, by go_num, H, _, rfl⟩, by simp [intOf]; omega⟩
      · rw [e, Bool.false_or] at hz2
        have H := Lib.hid hz2
        clear hz2 e r3
        rcases h1 with h1 | h1 | rfl
        all_goals
          go_wp2_with fail
          exact ⟨⟨k + 1, by omega, by go_num, H, _, rfl⟩, by simp [intOf]; omega⟩
    · obtain rfl : k = lc.length := by omega
      have hz2 := hz.out
      rw [drop_end] at hz2
      have hz3 : z = false := hz2
      subst hz3
      clear hz hz2 hwf
      go_wp2_with fail
      go_ret
      exact ⟨rfl, _, rfl⟩

/-- the marks of a clause: among so many, each greater than the last without its turn -/
def okFrom (many last : Int) : List Int → Bool
  | [] => true
  | x :: r => if -many ≤ x ∧ x ≤ many ∧ last < mabs x then okFrom many (mabs x) r else false
theorem okFrom_cons {many last x : Int} {r : List Int} {z : Bool} (h : z = okFrom many last (x :: r)) : (-many ≤ x ∧ x ≤ many ∧ last < mabs x ∧ z = okFrom many (mabs x) r) ∨ ((x < -many ∨ (-many ≤ x ∧ many < x) ∨ (-many ≤ x ∧ x ≤ many ∧ mabs x ≤ last)) ∧ z = false) := by
  unfold okFrom at h
  by_cases c : -many ≤ x ∧ x ≤ many ∧ last < mabs x
  · rw [if_pos c] at h; exact .inl ⟨c.1, c.2.1, c.2.2, h⟩
  · rw [if_neg c] at h; exact .inr ⟨by omega, h⟩
theorem l4Abs_any (m : Int) (w : World) (h0 : -9223372036854775807 ≤ m) (h1 : m ≤ 9223372036854775807) :
    Calls Try.prog 73 #[.int .i64 m] w fun e w' => e = .returned (.int .i64 (mabs m)) ∧ w = w' := by
  by_cases h : m < 0
  · have e : mabs m = -m := by simp [mabs, h]
    rw [e]; clear e
    go_enter Try.func73, Try.ntmps73
    go_wp2
    go_ret
    exact ⟨rfl, rfl⟩
  · have e : mabs m = m := by simp [mabs, h]
    rw [e]; clear e
    go_enter Try.func73, Try.ntmps73
    go_wp2
    go_ret
    exact ⟨rfl, rfl⟩
theorem mabs_le {m n : Int} (h0 : -n ≤ m) (h1 : m ≤ n) : 0 ≤ mabs m ∧ mabs m ≤ n := by
  unfold mabs; split <;> omega

set_option maxHeartbeats 4000000 in
theorem l4Clause_any (c : Value) (lc : List Int) (many : Int) (w : World) (hc : Ints w c lc) (m0 : 0 ≤ many) (m1 : many ≤ 1000000) :
    Calls Try.prog 58 #[c, .int .i64 many] w (DrewRet (.bool (okFrom many 0 lc)) w) := by
  have hcl := hc.len
  obtain ⟨a', cap', rfl, r1', r2', r3'⟩ := hc
  have Z : Hid (okFrom many 0 lc = okFrom many 0 (lc.drop 0)) := rfl
  generalize hz0 : okFrom many 0 lc = z at *
  clear hz0
  go_enter Try.func58, Try.ntmps58
  go_wp2
  go_loopw [5, 6] (fun s i wr => ∃ (k : Nat) (L : Int), k ≤ lc.length ∧ i = .int .i64 k ∧ s = .int .i64 L ∧ 0 ≤ L ∧ L ≤ 1000000 ∧ Hid (z = okFrom many L (lc.drop k)) ∧ ∃ m, wr = w.drewN m) (fun _ i _ => lc.length - (intOf i).toNat)
  case atStart => exact ⟨0, 0, Nat.zero_le _, rfl, rfl, by omega, by omega, Z, 0, rfl⟩
  case round =>
    obtain ⟨k, L, hk, rfl, rfl, l0, l1, hz, m, rfl⟩ := hrel
    clear Z
    by_cases hlt : k < lc.length
    · rcases r3' with r3' | ⟨b', off', rfl, r4', r5'⟩
      · omega
      have r6' : w.cell? ⟨b', off' + k, none⟩ = some (.int .i64 (lc.getD k 0)) := r5' k hlt
      have hz2 := hz.out
      rw [drop_at 0 hlt] at hz2
      clear r5' hz
      generalize lc.getD k 0 = x at *
      have hk0 : (0 : Int) ≤ (k : Int) := by omega
      have hk1 : (k : Int) < (lc.length : Int) := by omega
      rcases okFrom_cons hz2 with ⟨h1, h2, h3, hz3⟩ | ⟨h1, hz3⟩
      · have H := Lib.hid hz3
        have hl := mabs_le h1 h2
        have C : Hid (∀ w, Calls Try.prog 73 #[.int .i64 x] w fun e w' => e = .returned (.int .i64 (mabs x)) ∧ w = w') := fun w => l4Abs_any x w (by omega) (by omega)
        generalize mabs x = y at *
        clear hz2 hz3
        go_wp2_with fail
        refine (C.out _).mono ?_; rintro e w1 ⟨rfl, rfl⟩
        go_wp2_with fail
        refine (C.out _).mono ?_; rintro e w1 ⟨rfl, rfl⟩
        go_wp2_with fail
        exact ⟨⟨k + 1, y, by omega, by go_num, rfl, by omega, by omega, H, _, rfl⟩, by simp [intOf]; omega⟩
      · subst hz3
        clear hz2
        rcases h1 with h1 | ⟨h1, h2⟩ | ⟨h1, h2, h3⟩
        · have q1 : ¬ -many ≤ x := by omega
          go_wp2_with fail
          go_ret
          exact ⟨rfl, _, rfl⟩
        · go_wp2_with fail
          go_ret
          exact ⟨rfl, _, rfl⟩
        · have C : Hid (∀ w, Calls Try.prog 73 #[.int .i64 x] w fun e w' => e = .returned (.int .i64 (mabs x)) ∧ w = w') := fun w => l4Abs_any x w (by omega) (by omega)
          generalize mabs x = y at *
          go_wp2_with fail
          refine (C.out _).mono ?_; rintro e w1 ⟨rfl, rfl⟩
          go_wp2_with fail
          go_ret
          exact ⟨rfl, _, rfl⟩
    · obtain rfl : k = lc.length := by omega
      have hz2 := hz.out
      rw [drop_end] at hz2
      have hz3 : z = true := hz2
      subst hz3
      clear hz hz2
      go_wp2_with fail
      go_ret
      exact ⟨rfl, _, rfl⟩
end Go.Proofs.Ytjobbokjebhjgaa
