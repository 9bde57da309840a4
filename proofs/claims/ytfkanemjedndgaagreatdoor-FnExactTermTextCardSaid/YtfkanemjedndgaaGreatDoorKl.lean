/- Kinds of terms, as the reference knows them. The conditions stand in each statement. -/
import Derived.Test.YtfkanemjedndgaaGreatDoorKt
namespace Go.Proofs.YtfkanemjedndgaaGreatDoor
open Go.RowKit

set_option maxHeartbeats 4000000 in
theorem l2Arity_any (op : Int) (w : World) : Calls Tryz.prog 59 #[.int .i64 op] w fun e w' => e = .returned (.int .i64 (arity op)) ∧ w = w' := by
  by_cases h20 : op = 20
  · subst h20
    go_enter Tryz.func59, Tryz.ntmps59
    go_wp2_with fail
    go_ret
    exact ⟨rfl, rfl⟩
  by_cases h21 : op = 21
  · subst h21
    clear h20
    go_enter Tryz.func59, Tryz.ntmps59
    go_wp2_with fail
    go_ret
    exact ⟨rfl, rfl⟩
  by_cases h24 : op = 24
  · subst h24
    clear h20 h21
    go_enter Tryz.func59, Tryz.ntmps59
    go_wp2_with fail
    go_ret
    exact ⟨rfl, rfl⟩
  by_cases h1 : op = 1
  · subst h1
    clear h20 h21 h24
    go_enter Tryz.func59, Tryz.ntmps59
    go_wp2_with fail
    go_ret
    exact ⟨rfl, rfl⟩
  by_cases h2 : op = 2
  · subst h2
    clear h20 h21 h24 h1
    go_enter Tryz.func59, Tryz.ntmps59
    go_wp2_with fail
    go_ret
    exact ⟨rfl, rfl⟩
  by_cases h22 : op = 22
  · subst h22
    clear h20 h21 h24 h1 h2
    go_enter Tryz.func59, Tryz.ntmps59
    go_wp2_with fail
    go_ret
    exact ⟨rfl, rfl⟩
  by_cases h25 : op = 25
  · subst h25
    clear h20 h21 h24 h1 h2 h22
    go_enter Tryz.func59, Tryz.ntmps59
    go_wp2_with fail
    go_ret
    exact ⟨rfl, rfl⟩
  by_cases h23 : op = 23
  · subst h23
    clear h20 h21 h24 h1 h2 h22 h25
    go_enter Tryz.func59, Tryz.ntmps59
    go_wp2_with fail
    go_ret
    exact ⟨rfl, rfl⟩
  by_cases h26 : op = 26
  · subst h26
    clear h20 h21 h24 h1 h2 h22 h25 h23
    go_enter Tryz.func59, Tryz.ntmps59
    go_wp2_with fail
    go_ret
    exact ⟨rfl, rfl⟩
  by_cases h27 : op = 27
  · subst h27
    clear h20 h21 h24 h1 h2 h22 h25 h23 h26
    go_enter Tryz.func59, Tryz.ntmps59
    go_wp2_with fail
    go_ret
    exact ⟨rfl, rfl⟩
  have e20 : (op == 20) = false := by simpa using h20
  have e21 : (op == 21) = false := by simpa using h21
  have e24 : (op == 24) = false := by simpa using h24
  have e1 : (op == 1) = false := by simpa using h1
  have e2 : (op == 2) = false := by simpa using h2
  have e22 : (op == 22) = false := by simpa using h22
  have e25 : (op == 25) = false := by simpa using h25
  have e23 : (op == 23) = false := by simpa using h23
  have e26 : (op == 26) = false := by simpa using h26
  have e27 : (op == 27) = false := by simpa using h27
  by_cases h3 : 3 ≤ op
  · by_cases h17 : op ≤ 17
    · have e : arity op = 2 := by unfold arity; rw [if_neg (by omega), if_neg (by omega), if_neg (by omega), if_pos (by omega)]
      rw [e]
      clear e h20 h21 h24 h1 h2 h22 h25 h23 h26 h27
      go_enter Tryz.func59, Tryz.ntmps59
      go_wp2_with fail
      go_ret
      exact ⟨rfl, rfl⟩
    · have e : arity op = -1 := by unfold arity; rw [if_neg (by omega), if_neg (by omega), if_neg (by omega), if_neg (by omega)]
      rw [e]
      clear e h20 h21 h24 h1 h2 h22 h25 h23 h26 h27
      go_enter Tryz.func59, Tryz.ntmps59
      go_wp2_with fail
      go_ret
      exact ⟨rfl, rfl⟩
  · have e : arity op = -1 := by unfold arity; rw [if_neg (by omega), if_neg (by omega), if_neg (by omega), if_neg (by omega)]
    rw [e]
    have d3 : decide (3 ≤ op) = false := by simpa using h3
    clear e h20 h21 h24 h1 h2 h22 h25 h23 h26 h27
    go_enter Tryz.func59, Tryz.ntmps59
    go_wp2_with fail
    go_ret
    exact ⟨rfl, rfl⟩

/-- whether a term has just what its kind has -/
def plain2 (op a b : Int) (nm : ByteArray) (n : Nat) : Bool := plainB op a b nm && decide ((n : Int) = arity op)
theorem int_beq (x y : Int) : (x == y) = decide (x = y) := by by_cases h : x = y <;> simp [h]
set_option maxHeartbeats 8000000 in
theorem l2Plain_any (o a b : Int) (nm : ByteArray) (sa : Option Addr) (n sc : Nat) (w : World) :
    Calls Tryz.prog 42 #[.agg #[.int .i64 o, .int .i64 a, .int .i64 b, .string nm, .slice sa n sc]] w fun e w' => e = .returned (.bool (plain2 o a b nm n)) ∧ Below w.heap.size w w' := by
  have hb := below_self_alloc w (.cells #[.int .i64 o, .int .i64 a, .int .i64 b, .string nm, .slice sa n sc] 33)
  have A := blk5_new w (.int .i64 o) (.int .i64 a) (.int .i64 b) (.string nm) (.slice sa n sc) 33
  obtain ⟨A0, A1, A2, A3, A4, A5⟩ := A.cells
  have he := str_empty nm
  have C : Hid (∀ w', Calls Tryz.prog 59 #[.int .i64 o] w' fun e w2 => e = .returned (.int .i64 (arity o)) ∧ w' = w2) := fun w' => l2Arity_any o w'
  unfold plain2 plainB
  have hq : decide ((n : Int) = arity o) = ((n : Int) == arity o) := (int_beq _ _).symm
  rw [hq]
  clear hq
  generalize decide (nm = ⟨#[]⟩) = z at *
  by_cases h21 : o = 21
  · have e21 : (o != 21) = false := by simp [h21]
    have e20 : (o != 20) = true := by simp [h21]
    have e22 : (o != 22) = true := by simp [h21]
    rw [decide_eq_false (show ¬ (o = 20 ∨ o = 22) by omega), decide_eq_true h21]
    clear h21
    by_cases h3 : a = 0
    · subst h3
      by_cases h4 : b = 0
      · subst h4
        simp only [decide_true, Bool.and_self, Bool.false_or, Bool.true_or, Bool.true_and]
        generalize arity o = r at *
        go_enter Tryz.func42, Tryz.ntmps42
        go_wp2_with fail
        go_quiet ((go_at_call 59; exact Calls.quiet_of_same ((C.out _).mono fun _ _ h => ⟨h.1, h.2.symm⟩)))
        go_wp2_with fail
        go_ret
        exact ⟨rfl, below_drewN hb _⟩
      · have e4 : (b != 0) = true := by simpa using h4
        rw [decide_eq_false h4]
        clear h4
        simp only [Bool.and_false, Bool.false_or, Bool.false_and]
        go_enter Tryz.func42, Tryz.ntmps42
        go_wp2_with fail
        go_ret
        exact ⟨rfl, hb⟩
    · have e3 : (a != 0) = true := by simpa using h3
      rw [decide_eq_false h3]
      clear h3
      simp only [Bool.false_and, Bool.false_or]
      go_enter Tryz.func42, Tryz.ntmps42
      go_wp2_with fail
      go_ret
      exact ⟨rfl, hb⟩
  have e21 : (o != 21) = true := by simpa using h21
  rw [decide_eq_false h21]
  cases z
  · simp only [Bool.or_self, Bool.and_false, Bool.false_and]
    clear h21
    go_enter Tryz.func42, Tryz.ntmps42
    go_wp2_with fail
    go_ret
    exact ⟨rfl, hb⟩
  simp only [Bool.false_or, Bool.and_true]
  by_cases h20 : o = 20
  · have e20 : (o != 20) = false := by simp [h20]
    rw [decide_eq_true (show (o = 20 ∨ o = 22) by omega)]
    clear h20 h21
    simp only [Bool.true_or, Bool.true_and]
    generalize arity o = r at *
    go_enter Tryz.func42, Tryz.ntmps42
    go_wp2_with fail
    go_quiet ((go_at_call 59; exact Calls.quiet_of_same ((C.out _).mono fun _ _ h => ⟨h.1, h.2.symm⟩)))
    go_wp2_with fail
    go_ret
    exact ⟨rfl, below_drewN hb _⟩
  have e20 : (o != 20) = true := by simpa using h20
  by_cases h22 : o = 22
  · have e22 : (o != 22) = false := by simp [h22]
    rw [decide_eq_true (show (o = 20 ∨ o = 22) by omega)]
    clear h20 h21 h22
    simp only [Bool.true_or, Bool.true_and]
    generalize arity o = r at *
    go_enter Tryz.func42, Tryz.ntmps42
    go_wp2_with fail
    go_quiet ((go_at_call 59; exact Calls.quiet_of_same ((C.out _).mono fun _ _ h => ⟨h.1, h.2.symm⟩)))
    go_wp2_with fail
    go_ret
    exact ⟨rfl, below_drewN hb _⟩
  have e22 : (o != 22) = true := by simpa using h22
  rw [decide_eq_false (show ¬ (o = 20 ∨ o = 22) by omega)]
  clear h20 h21 h22
  by_cases h3 : a = 0
  · subst h3
    by_cases h4 : b = 0
    · subst h4
      simp only [decide_true, Bool.and_self, Bool.false_or, Bool.true_and]
      generalize arity o = r at *
      go_enter Tryz.func42, Tryz.ntmps42
      go_wp2_with fail
      go_quiet ((go_at_call 59; exact Calls.quiet_of_same ((C.out _).mono fun _ _ h => ⟨h.1, h.2.symm⟩)))
      go_wp2_with fail
      go_ret
      exact ⟨rfl, below_drewN hb _⟩
    · have e4 : (b != 0) = true := by simpa using h4
      rw [decide_eq_false h4]
      clear h4
      simp only [Bool.and_false, Bool.false_or, Bool.false_and]
      go_enter Tryz.func42, Tryz.ntmps42
      go_wp2_with fail
      go_ret
      exact ⟨rfl, hb⟩
  · have e3 : (a != 0) = true := by simpa using h3
    rw [decide_eq_false h3]
    clear h3
    simp only [Bool.false_and, Bool.false_or]
    go_enter Tryz.func42, Tryz.ntmps42
    go_wp2_with fail
    go_ret
    exact ⟨rfl, hb⟩

def oneV (op a b r : Int) : Int := if op = 25 then orNo (r = 0) 0 else if op = 22 then orNo (0 < r ∧ 0 ≤ b ∧ b ≤ a ∧ a < r) (a - b + 1) else orNo (0 < r) r
set_option maxHeartbeats 8000000 in
theorem l2One_any (o a b : Int) (nm : ByteArray) (s : Value) (r : Int) (w : World) (hr : r ≤ 4) :
    Calls Tryz.prog 44 #[.agg #[.int .i64 o, .int .i64 a, .int .i64 b, .string nm, s], .int .i64 r] w fun e w' => e = .returned (.int .i64 (oneV o a b r)) ∧ Below w.heap.size w w' := by
  have hb := below_self_alloc w (.cells #[.int .i64 o, .int .i64 a, .int .i64 b, .string nm, s] 33)
  have A := blk5_new w (.int .i64 o) (.int .i64 a) (.int .i64 b) (.string nm) s 33
  obtain ⟨A0, A1, A2, A3, A4, A5⟩ := A.cells
  unfold oneV orNo
  by_cases h25 : o = 25
  · subst h25
    rw [if_pos rfl]
    by_cases h0 : r = 0
    · subst h0
      rw [if_pos rfl]
      go_enter Tryz.func44, Tryz.ntmps44
      go_wp2_with fail
      go_ret
      exact ⟨rfl, hb⟩
    · rw [if_neg h0]
      have e0 : (r == 0) = false := by simpa using h0
      clear h0
      go_enter Tryz.func44, Tryz.ntmps44
      go_wp2_with fail
      go_ret
      exact ⟨rfl, hb⟩
  rw [if_neg h25]
  have e25 : (o == 25) = false := by simpa using h25
  by_cases h1 : 0 < r
  · have d1 : ¬ r < 1 := by omega
    have d1' : decide (r < 1) = false := by simpa using d1
    by_cases h22 : o = 22
    · subst h22
      rw [if_pos rfl]
      clear h25
      by_cases p0 : 0 ≤ b
      · by_cases p1 : b ≤ a
        · by_cases p2 : a < r
          · rw [if_pos ⟨h1, p0, p1, p2⟩]
            go_enter Tryz.func44, Tryz.ntmps44
            go_wp2_with fail
            go_ret
            exact ⟨rfl, hb⟩
          · rw [if_neg (fun e => p2 e.2.2.2)]
            have q2 : decide (a < r) = false := by simpa using p2
            go_enter Tryz.func44, Tryz.ntmps44
            go_wp2_with fail
            go_ret
            exact ⟨rfl, hb⟩
        · rw [if_neg (fun e => p1 e.2.2.1)]
          have q1 : decide (b ≤ a) = false := by simpa using p1
          go_enter Tryz.func44, Tryz.ntmps44
          go_wp2_with fail
          go_ret
          exact ⟨rfl, hb⟩
      · rw [if_neg (fun e => p0 e.2.1)]
        have q0 : decide (0 ≤ b) = false := by simpa using p0
        go_enter Tryz.func44, Tryz.ntmps44
        go_wp2_with fail
        go_ret
        exact ⟨rfl, hb⟩
    · rw [if_neg h22, if_pos h1]
      have e22 : (o == 22) = false := by simpa using h22
      clear h25 h22
      go_enter Tryz.func44, Tryz.ntmps44
      go_wp2_with fail
      go_ret
      exact ⟨rfl, hb⟩
  · have d1 : r < 1 := by omega
    have d1' : decide (r < 1) = true := by simpa using d1
    have e : (if o = 22 then if 0 < r ∧ 0 ≤ b ∧ b ≤ a ∧ a < r then a - b + 1 else -1 else if 0 < r then r else -1) = (-1 : Int) := by
      repeat' split
      all_goals first | rfl | omega
    rw [e]
    clear h25 e h1
    go_enter Tryz.func44, Tryz.ntmps44
    go_wp2_with fail
    go_ret
    exact ⟨rfl, hb⟩

def bothV (op r q : Int) : Int := if op = 26 ∨ op = 27 then orNo (r = 0 ∧ q = 0) 0 else if op = 14 then orNo (0 < r ∧ 0 < q ∧ r + q ≤ 4) (r + q) else if 15 ≤ op then orNo (0 < r ∧ r = q) 0 else orNo (0 < r ∧ r = q) r
set_option maxHeartbeats 8000000 in
theorem l2Both_any (op r q : Int) (w : World) (hr : -1 ≤ r ∧ r ≤ 4) (hq : -1 ≤ q ∧ q ≤ 4) :
    Calls Tryz.prog 45 #[.int .i64 op, .int .i64 r, .int .i64 q] w fun e w' => e = .returned (.int .i64 (bothV op r q)) ∧ w = w' := by
  obtain ⟨r0, r1⟩ := hr
  obtain ⟨q0, q1⟩ := hq
  unfold bothV orNo
  by_cases h26 : op = 26
  · subst h26
    rw [if_pos (by omega)]
    by_cases h0 : r = 0
    · subst h0
      by_cases h1 : q = 0
      · subst h1
        rw [if_pos ⟨rfl, rfl⟩]
        go_enter Tryz.func45, Tryz.ntmps45
        go_wp2_with fail
        go_ret
        exact ⟨rfl, rfl⟩
      · rw [if_neg (fun e => h1 e.2)]
        have e1 : (q == 0) = false := by simpa using h1
        clear h1
        go_enter Tryz.func45, Tryz.ntmps45
        go_wp2_with fail
        go_ret
        exact ⟨rfl, rfl⟩
    · rw [if_neg (fun e => h0 e.1)]
      have e0 : (r == 0) = false := by simpa using h0
      clear h0
      go_enter Tryz.func45, Tryz.ntmps45
      go_wp2_with fail
      go_ret
      exact ⟨rfl, rfl⟩
  have e26 : (op == 26) = false := by simpa using h26
  by_cases h27 : op = 27
  · subst h27
    rw [if_pos (by omega)]
    clear h26
    by_cases h0 : r = 0
    · subst h0
      by_cases h1 : q = 0
      · subst h1
        rw [if_pos ⟨rfl, rfl⟩]
        go_enter Tryz.func45, Tryz.ntmps45
        go_wp2_with fail
        go_ret
        exact ⟨rfl, rfl⟩
      · rw [if_neg (fun e => h1 e.2)]
        have e1 : (q == 0) = false := by simpa using h1
        clear h1
        go_enter Tryz.func45, Tryz.ntmps45
        go_wp2_with fail
        go_ret
        exact ⟨rfl, rfl⟩
    · rw [if_neg (fun e => h0 e.1)]
      have e0 : (r == 0) = false := by simpa using h0
      clear h0
      go_enter Tryz.func45, Tryz.ntmps45
      go_wp2_with fail
      go_ret
      exact ⟨rfl, rfl⟩
  have e27 : (op == 27) = false := by simpa using h27
  rw [if_neg (show ¬ (op = 26 ∨ op = 27) by omega)]
  clear h26 h27
  by_cases p0 : 0 < r
  rotate_left
  · have e : (if op = 14 then if 0 < r ∧ 0 < q ∧ r + q ≤ 4 then r + q else -1 else if 15 ≤ op then if 0 < r ∧ r = q then 0 else -1 else if 0 < r ∧ r = q then r else -1) = (-1 : Int) := by
      repeat' split
      all_goals first | rfl | omega
    rw [e]
    have d0 : r < 1 := by omega
    have d0' : decide (r < 1) = true := by simpa using d0
    clear e p0
    go_enter Tryz.func45, Tryz.ntmps45
    go_wp2_with fail
    go_ret
    exact ⟨rfl, rfl⟩
  have d0 : ¬ r < 1 := by omega
  have d0' : decide (r < 1) = false := by simpa using d0
  by_cases p1 : 0 < q
  rotate_left
  · have e : (if op = 14 then if 0 < r ∧ 0 < q ∧ r + q ≤ 4 then r + q else -1 else if 15 ≤ op then if 0 < r ∧ r = q then 0 else -1 else if 0 < r ∧ r = q then r else -1) = (-1 : Int) := by
      repeat' split
      all_goals first | rfl | omega
    rw [e]
    have d1 : q < 1 := by omega
    have d1' : decide (q < 1) = true := by simpa using d1
    clear e p1
    go_enter Tryz.func45, Tryz.ntmps45
    go_wp2_with fail
    go_ret
    exact ⟨rfl, rfl⟩
  have d1 : ¬ q < 1 := by omega
  have d1' : decide (q < 1) = false := by simpa using d1
  by_cases h14 : op = 14
  · subst h14
    rw [if_pos rfl]
    by_cases p2 : r + q ≤ 4
    · rw [if_pos ⟨p0, p1, p2⟩]
      go_enter Tryz.func45, Tryz.ntmps45
      go_wp2_with fail
      go_ret
      exact ⟨rfl, rfl⟩
    · rw [if_neg (fun e => p2 e.2.2)]
      have d2 : decide (r + q ≤ 4) = false := by simpa using p2
      go_enter Tryz.func45, Tryz.ntmps45
      go_wp2_with fail
      go_ret
      exact ⟨rfl, rfl⟩
  rw [if_neg h14]
  have e14 : (op == 14) = false := by simpa using h14
  clear h14
  by_cases p2 : r = q
  · subst p2
    by_cases h15 : 15 ≤ op
    · rw [if_pos h15, if_pos ⟨p0, rfl⟩]
      go_enter Tryz.func45, Tryz.ntmps45
      go_wp2_with fail
      go_ret
      exact ⟨rfl, rfl⟩
    · rw [if_neg h15, if_pos ⟨p0, rfl⟩]
      have d15 : decide (15 ≤ op) = false := by simpa using h15
      go_enter Tryz.func45, Tryz.ntmps45
      go_wp2_with fail
      go_ret
      exact ⟨rfl, rfl⟩
  · have e2 : (r != q) = true := by simpa using p2
    have e : (if 15 ≤ op then if 0 < r ∧ r = q then 0 else -1 else if 0 < r ∧ r = q then r else -1) = (-1 : Int) := by
      repeat' split
      all_goals first | rfl | omega
    rw [e]
    clear e p2
    go_enter Tryz.func45, Tryz.ntmps45
    go_wp2_with fail
    go_ret
    exact ⟨rfl, rfl⟩
end Go.Proofs.YtfkanemjedndgaaGreatDoor
