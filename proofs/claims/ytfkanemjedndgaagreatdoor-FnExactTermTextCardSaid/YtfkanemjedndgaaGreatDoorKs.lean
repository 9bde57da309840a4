/- The methods of the kinds of terms that TermSort calls. The conditions stand in each statement. -/
import Derived.Test.YtfkanemjedndgaaGreatDoorKj
import Derived.Test.YtfkanemjedndgaaGreatDoorEi
namespace Go.Proofs.YtfkanemjedndgaaGreatDoor
open Go.RowKit

theorem sorted_any (c : Bool) (x : Int) (w : World) : Calls Tryz.prog 118 #[.bool c, .int .i64 x] w fun e w' => e = .returned (.int .i64 (if c = true then x else -1)) ∧ w = w' := by
  cases c
  · go_enter Tryz.func118, Tryz.ntmps118
    go_wp2
    go_ret
    exact ⟨rfl, rfl⟩
  · go_enter Tryz.func118, Tryz.ntmps118
    go_wp2
    go_ret
    exact ⟨rfl, rfl⟩
theorem kids_any (s : ByteArray) (n : Int) (w : World) : Calls Tryz.prog 114 #[.agg #[.string s, .int .i64 n]] w fun e w' => e = .returned (.int .i64 n) ∧ Below w.heap.size w w' := by
  have hb := below_self_alloc w (.cells #[.string s, .int .i64 n] 67)
  go_enter Tryz.func114, Tryz.ntmps114
  go_wp2
  go_ret
  exact ⟨rfl, hb⟩
theorem str_empty (s : ByteArray) : s.toList.isEmpty = decide (s = ⟨#[]⟩) := by
  by_cases h : s = ⟨#[]⟩
  · subst h; rw [decide_eq_true rfl, ByteArray.toList_eq]; rfl
  · rw [decide_eq_false h, ByteArray.toList_eq, ← Bool.not_eq_true, List.isEmpty_iff]
    exact fun e => h (by apply ByteArray.ext; apply Array.toList_inj.1; rw [e])
set_option maxHeartbeats 2000000 in
theorem plain_any (o a b : Int) (nm : ByteArray) (s : Value) (w : World) : Calls Tryz.prog 51 #[.agg #[.int .i64 o, .int .i64 a, .int .i64 b, .string nm, s]] w fun e w' => e = .returned (.bool (plainB o a b nm)) ∧ Below w.heap.size w w' := by
  have hb := below_self_alloc w (.cells #[.int .i64 o, .int .i64 a, .int .i64 b, .string nm, s] 33)
  have A := blk5_new w (.int .i64 o) (.int .i64 a) (.int .i64 b) (.string nm) s 33
  obtain ⟨A0, A1, A2, A3, A4, A5⟩ := A.cells
  have he := str_empty nm
  unfold plainB
  generalize hz : decide (nm = ⟨#[]⟩) = z at *
  clear hz
  have e20 : ∀ q, decide (o = 20 ∨ o = 22) = q → (o == 20 || o == 22) = q := fun q h => by rw [← h]; simp [Bool.decide_or]; rfl
  have hd : ∀ (x y : Int), (x == y) = decide (x = y) := fun x y => by by_cases h : x = y <;> simp [h]
  clear e20 hd
  by_cases h1 : o = 20
  · subst h1
    cases z
    all_goals
      go_enter Tryz.func51, Tryz.ntmps51
      go_wp2_with fail
      go_ret
      exact ⟨rfl, hb⟩
  by_cases h2 : o = 22
  · subst h2
    cases z
    all_goals
      go_enter Tryz.func51, Tryz.ntmps51
      go_wp2_with fail
      go_ret
      exact ⟨rfl, hb⟩
  have e1 : (o == 20) = false := by simpa using h1
  have e2 : (o == 22) = false := by simpa using h2
  rw [decide_eq_false (show ¬ (o = 20 ∨ o = 22) by omega)]
  by_cases h3 : a = 0
  · by_cases h4 : b = 0
    · subst h3 h4
      by_cases h5 : o = 21
      · subst h5
        clear e1 e2 h1 h2
        cases z
        all_goals
          go_enter Tryz.func51, Tryz.ntmps51
          go_wp2_with fail
          go_ret
          exact ⟨rfl, hb⟩
      · have e5 : (o == 21) = false := by simpa using h5
        rw [decide_eq_false h5]
        clear h1 h2 h5
        cases z
        all_goals
          go_enter Tryz.func51, Tryz.ntmps51
          go_wp2_with fail
          go_ret
          exact ⟨rfl, hb⟩
    · have e4 : (b == 0) = false := by simpa using h4
      subst h3
      rw [decide_eq_false h4]
      clear h1 h2 h4
      go_enter Tryz.func51, Tryz.ntmps51
      go_wp2_with fail
      go_ret
      exact ⟨by simp, hb⟩
  · have e3 : (a == 0) = false := by simpa using h3
    rw [decide_eq_false h3]
    clear h1 h2 h3
    go_enter Tryz.func51, Tryz.ntmps51
    go_wp2_with fail
    go_ret
    exact ⟨by simp, hb⟩
set_option maxHeartbeats 4000000 in
theorem sort_un (s : ByteArray) (v : Value) (o a b : Int) (nm : ByteArray) (sl : Value) (x : Value) (ss : List Int) (w : World) (h : Ints w x ss) (hl : ss.length = 1) :
    Calls Tryz.prog 116 #[.agg #[.string s, .int .i64 1], v, .agg #[.int .i64 o, .int .i64 a, .int .i64 b, .string nm, sl], x] w fun e w' => e = .returned (.int .i64 (orNo (0 < ss.getD 0 0) (ss.getD 0 0))) ∧ Below w.heap.size w w' := by
  have hw := (Below.refl w.heap.size w)
  have hb := below_step (below_self_alloc w (.cells #[.string s, .int .i64 1] 69)) (.cells #[.int .i64 o, .int .i64 a, .int .i64 b, .string nm, sl] 33)
  replace h := h.below hb
  obtain ⟨xa, cap, rfl, r1, r2, r3⟩ := h
  rw [hl] at r1 r3 ⊢
  rcases r3 with r3 | ⟨g, off, rfl, r4, r5⟩
  · omega
  have c0 : World.cell? _ ⟨g, off + 0, none⟩ = some (.int .i64 (ss.getD 0 0)) := r5 0 (by omega)
  rw [Nat.add_zero] at c0
  clear r5
  generalize ss.getD 0 0 = s0 at *
  unfold orNo
  by_cases p0 : 0 < s0
  · rw [if_pos p0]
    go_enter Tryz.func116, Tryz.ntmps116
    go_wp2_with fail
    go_quiet ((go_at_call 118; exact Calls.quiet_of_same ((sorted_any _ _ _).mono fun _ _ h => ⟨h.1, h.2.symm⟩)))
    go_wp2_with fail
    go_ret
    exact ⟨rfl, below_drewN hb _⟩
  · rw [if_neg p0]
    have d0 : decide (0 < s0) = false := by simpa using p0
    go_enter Tryz.func116, Tryz.ntmps116
    go_wp2_with fail
    go_quiet ((go_at_call 118; exact Calls.quiet_of_same ((sorted_any _ _ _).mono fun _ _ h => ⟨h.1, h.2.symm⟩)))
    go_wp2_with fail
    go_ret
    exact ⟨rfl, below_drewN hb _⟩
set_option maxHeartbeats 4000000 in
theorem sort_bin (s : ByteArray) (v : Value) (o a b : Int) (nm : ByteArray) (sl : Value) (x : Value) (ss : List Int) (w : World) (h : Ints w x ss) (hl : ss.length = 2) :
    Calls Tryz.prog 137 #[.agg #[.string s, .int .i64 2], v, .agg #[.int .i64 o, .int .i64 a, .int .i64 b, .string nm, sl], x] w fun e w' => e = .returned (.int .i64 (orNo (0 < ss.getD 0 0 ∧ ss.getD 0 0 = ss.getD 1 0) (ss.getD 0 0))) ∧ Below w.heap.size w w' := by
  have hw := (Below.refl w.heap.size w)
  have hb := below_step (below_self_alloc w (.cells #[.string s, .int .i64 2] 80)) (.cells #[.int .i64 o, .int .i64 a, .int .i64 b, .string nm, sl] 33)
  replace h := h.below hb
  obtain ⟨xa, cap, rfl, r1, r2, r3⟩ := h
  rw [hl] at r1 r3 ⊢
  rcases r3 with r3 | ⟨g, off, rfl, r4, r5⟩
  · omega
  have c0 : World.cell? _ ⟨g, off + 0, none⟩ = some (.int .i64 (ss.getD 0 0)) := r5 0 (by omega)
  have c1 : World.cell? _ ⟨g, off + 1, none⟩ = some (.int .i64 (ss.getD 1 0)) := r5 1 (by omega)
  rw [Nat.add_zero] at c0
  clear r5
  generalize ss.getD 0 0 = s0 at *
  generalize ss.getD 1 0 = s1 at *
  unfold orNo
  by_cases p0 : 0 < s0
  · by_cases p1 : s0 = s1
    · subst p1
      rw [if_pos ⟨p0, rfl⟩]
      go_enter Tryz.func137, Tryz.ntmps137
      go_wp2_with fail
      go_quiet ((go_at_call 118; exact Calls.quiet_of_same ((sorted_any _ _ _).mono fun _ _ h => ⟨h.1, h.2.symm⟩)))
      go_wp2_with fail
      go_ret
      exact ⟨rfl, below_drewN hb _⟩
    · rw [if_neg (fun e => p1 e.2)]
      have e1 : (s0 == s1) = false := by simpa using p1
      clear p1
      go_enter Tryz.func137, Tryz.ntmps137
      go_wp2_with fail
      go_quiet ((go_at_call 118; exact Calls.quiet_of_same ((sorted_any _ _ _).mono fun _ _ h => ⟨h.1, h.2.symm⟩)))
      go_wp2_with fail
      go_ret
      exact ⟨rfl, below_drewN hb _⟩
  · rw [if_neg (fun e => p0 e.1)]
    have d0 : decide (0 < s0) = false := by simpa using p0
    go_enter Tryz.func137, Tryz.ntmps137
    go_wp2_with fail
    go_quiet ((go_at_call 118; exact Calls.quiet_of_same ((sorted_any _ _ _).mono fun _ _ h => ⟨h.1, h.2.symm⟩)))
    go_wp2_with fail
    go_ret
    exact ⟨rfl, below_drewN hb _⟩
set_option maxHeartbeats 4000000 in
theorem sort_cmp (s : ByteArray) (v : Value) (o a b : Int) (nm : ByteArray) (sl : Value) (x : Value) (ss : List Int) (w : World) (h : Ints w x ss) (hl : ss.length = 2) :
    Calls Tryz.prog 121 #[.agg #[.string s, .int .i64 2], v, .agg #[.int .i64 o, .int .i64 a, .int .i64 b, .string nm, sl], x] w fun e w' => e = .returned (.int .i64 (orNo (0 < ss.getD 0 0 ∧ ss.getD 0 0 = ss.getD 1 0) 0)) ∧ Below w.heap.size w w' := by
  have hw := (Below.refl w.heap.size w)
  have hb := below_step (below_self_alloc w (.cells #[.string s, .int .i64 2] 71)) (.cells #[.int .i64 o, .int .i64 a, .int .i64 b, .string nm, sl] 33)
  replace h := h.below hb
  obtain ⟨xa, cap, rfl, r1, r2, r3⟩ := h
  rw [hl] at r1 r3 ⊢
  rcases r3 with r3 | ⟨g, off, rfl, r4, r5⟩
  · omega
  have c0 : World.cell? _ ⟨g, off + 0, none⟩ = some (.int .i64 (ss.getD 0 0)) := r5 0 (by omega)
  have c1 : World.cell? _ ⟨g, off + 1, none⟩ = some (.int .i64 (ss.getD 1 0)) := r5 1 (by omega)
  rw [Nat.add_zero] at c0
  clear r5
  generalize ss.getD 0 0 = s0 at *
  generalize ss.getD 1 0 = s1 at *
  unfold orNo
  by_cases p0 : 0 < s0
  · by_cases p1 : s0 = s1
    · subst p1
      rw [if_pos ⟨p0, rfl⟩]
      go_enter Tryz.func121, Tryz.ntmps121
      go_wp2_with fail
      go_quiet ((go_at_call 118; exact Calls.quiet_of_same ((sorted_any _ _ _).mono fun _ _ h => ⟨h.1, h.2.symm⟩)))
      go_wp2_with fail
      go_ret
      exact ⟨rfl, below_drewN hb _⟩
    · rw [if_neg (fun e => p1 e.2)]
      have e1 : (s0 == s1) = false := by simpa using p1
      clear p1
      go_enter Tryz.func121, Tryz.ntmps121
      go_wp2_with fail
      go_quiet ((go_at_call 118; exact Calls.quiet_of_same ((sorted_any _ _ _).mono fun _ _ h => ⟨h.1, h.2.symm⟩)))
      go_wp2_with fail
      go_ret
      exact ⟨rfl, below_drewN hb _⟩
  · rw [if_neg (fun e => p0 e.1)]
    have d0 : decide (0 < s0) = false := by simpa using p0
    go_enter Tryz.func121, Tryz.ntmps121
    go_wp2_with fail
    go_quiet ((go_at_call 118; exact Calls.quiet_of_same ((sorted_any _ _ _).mono fun _ _ h => ⟨h.1, h.2.symm⟩)))
    go_wp2_with fail
    go_ret
    exact ⟨rfl, below_drewN hb _⟩
set_option maxHeartbeats 4000000 in
theorem sort_cat (s : ByteArray) (v : Value) (o a b : Int) (nm : ByteArray) (sl : Value) (x : Value) (ss : List Int) (w : World) (h : Ints w x ss) (hl : ss.length = 2) (hs : ∀ i, -1 ≤ ss.getD i 0 ∧ ss.getD i 0 ≤ 4) :
    Calls Tryz.prog 119 #[.agg #[.string s, .int .i64 2], v, .agg #[.int .i64 o, .int .i64 a, .int .i64 b, .string nm, sl], x] w fun e w' => e = .returned (.int .i64 (orNo (0 < ss.getD 0 0 ∧ 0 < ss.getD 1 0 ∧ ss.getD 0 0 + ss.getD 1 0 ≤ 4) (ss.getD 0 0 + ss.getD 1 0))) ∧ Below w.heap.size w w' := by
  have hw := (Below.refl w.heap.size w)
  have hb := below_step (below_self_alloc w (.cells #[.string s, .int .i64 2] 70)) (.cells #[.int .i64 o, .int .i64 a, .int .i64 b, .string nm, sl] 33)
  replace h := h.below hb
  obtain ⟨xa, cap, rfl, r1, r2, r3⟩ := h
  rw [hl] at r1 r3 ⊢
  rcases r3 with r3 | ⟨g, off, rfl, r4, r5⟩
  · omega
  have c0 : World.cell? _ ⟨g, off + 0, none⟩ = some (.int .i64 (ss.getD 0 0)) := r5 0 (by omega)
  have c1 : World.cell? _ ⟨g, off + 1, none⟩ = some (.int .i64 (ss.getD 1 0)) := r5 1 (by omega)
  rw [Nat.add_zero] at c0
  clear r5
  obtain ⟨q0, q0'⟩ := hs 0
  obtain ⟨q1, q1'⟩ := hs 1
  clear hs
  generalize ss.getD 0 0 = s0 at *
  generalize ss.getD 1 0 = s1 at *
  unfold orNo
  have hw1 : IntKind.i64.wrap (s0 + s1) = s0 + s1 := IntWalk.i64_in _ (by omega)
  by_cases p0 : 0 < s0
  · by_cases p1 : 0 < s1
    · by_cases p2 : s0 + s1 ≤ 4
      · rw [if_pos ⟨p0, p1, p2⟩]
        go_enter Tryz.func119, Tryz.ntmps119
        go_wp2_with fail
        go_quiet ((go_at_call 118; exact Calls.quiet_of_same ((sorted_any _ _ _).mono fun _ _ h => ⟨h.1, h.2.symm⟩)))
        go_wp2_with fail
        go_ret
        exact ⟨rfl, below_drewN hb _⟩
      · rw [if_neg (fun e => p2 e.2.2)]
        have d0 : decide (s0 + s1 ≤ 4) = false := by simpa using p2
        go_enter Tryz.func119, Tryz.ntmps119
        go_wp2_with fail
        go_quiet ((go_at_call 118; exact Calls.quiet_of_same ((sorted_any _ _ _).mono fun _ _ h => ⟨h.1, h.2.symm⟩)))
        go_wp2_with fail
        go_ret
        exact ⟨rfl, below_drewN hb _⟩
    · rw [if_neg (fun e => p1 e.2.1)]
      have d0 : decide (0 < s1) = false := by simpa using p1
      go_enter Tryz.func119, Tryz.ntmps119
      go_wp2_with fail
      go_quiet ((go_at_call 118; exact Calls.quiet_of_same ((sorted_any _ _ _).mono fun _ _ h => ⟨h.1, h.2.symm⟩)))
      go_wp2_with fail
      go_ret
      exact ⟨rfl, below_drewN hb _⟩
  · rw [if_neg (fun e => p0 e.1)]
    have d0 : decide (0 < s0) = false := by simpa using p0
    go_enter Tryz.func119, Tryz.ntmps119
    go_wp2_with fail
    go_quiet ((go_at_call 118; exact Calls.quiet_of_same ((sorted_any _ _ _).mono fun _ _ h => ⟨h.1, h.2.symm⟩)))
    go_wp2_with fail
    go_ret
    exact ⟨rfl, below_drewN hb _⟩
set_option maxHeartbeats 4000000 in
theorem sort_if (s : ByteArray) (v : Value) (o a b : Int) (nm : ByteArray) (sl : Value) (x : Value) (ss : List Int) (w : World) (h : Ints w x ss) (hl : ss.length = 3) :
    Calls Tryz.prog 130 #[.agg #[.string s, .int .i64 3], v, .agg #[.int .i64 o, .int .i64 a, .int .i64 b, .string nm, sl], x] w fun e w' => e = .returned (.int .i64 (orNo (ss.getD 0 0 = 0 ∧ ss.getD 1 0 = ss.getD 2 0) (ss.getD 1 0))) ∧ Below w.heap.size w w' := by
  have hw := (Below.refl w.heap.size w)
  have hb := below_step (below_self_alloc w (.cells #[.string s, .int .i64 3] 75)) (.cells #[.int .i64 o, .int .i64 a, .int .i64 b, .string nm, sl] 33)
  replace h := h.below hb
  obtain ⟨xa, cap, rfl, r1, r2, r3⟩ := h
  rw [hl] at r1 r3 ⊢
  rcases r3 with r3 | ⟨g, off, rfl, r4, r5⟩
  · omega
  have c0 : World.cell? _ ⟨g, off + 0, none⟩ = some (.int .i64 (ss.getD 0 0)) := r5 0 (by omega)
  have c1 : World.cell? _ ⟨g, off + 1, none⟩ = some (.int .i64 (ss.getD 1 0)) := r5 1 (by omega)
  have c2 : World.cell? _ ⟨g, off + 2, none⟩ = some (.int .i64 (ss.getD 2 0)) := r5 2 (by omega)
  rw [Nat.add_zero] at c0
  clear r5
  generalize ss.getD 0 0 = s0 at *
  generalize ss.getD 1 0 = s1 at *
  generalize ss.getD 2 0 = s2 at *
  unfold orNo
  by_cases p0 : s0 = 0
  · subst p0
    by_cases p1 : s1 = s2
    · subst p1
      rw [if_pos ⟨rfl, rfl⟩]
      go_enter Tryz.func130, Tryz.ntmps130
      go_wp2_with fail
      go_quiet ((go_at_call 118; exact Calls.quiet_of_same ((sorted_any _ _ _).mono fun _ _ h => ⟨h.1, h.2.symm⟩)))
      go_wp2_with fail
      go_ret
      exact ⟨rfl, below_drewN hb _⟩
    · rw [if_neg (fun e => p1 e.2)]
      have e1 : (s1 == s2) = false := by simpa using p1
      clear p1
      go_enter Tryz.func130, Tryz.ntmps130
      go_wp2_with fail
      go_quiet ((go_at_call 118; exact Calls.quiet_of_same ((sorted_any _ _ _).mono fun _ _ h => ⟨h.1, h.2.symm⟩)))
      go_wp2_with fail
      go_ret
      exact ⟨rfl, below_drewN hb _⟩
  · rw [if_neg (fun e => p0 e.1)]
    have e0 : (s0 == 0) = false := by simpa using p0
    clear p0
    go_enter Tryz.func130, Tryz.ntmps130
    go_wp2_with fail
    go_quiet ((go_at_call 118; exact Calls.quiet_of_same ((sorted_any _ _ _).mono fun _ _ h => ⟨h.1, h.2.symm⟩)))
    go_wp2_with fail
    go_ret
    exact ⟨rfl, below_drewN hb _⟩
set_option maxHeartbeats 4000000 in
theorem sort_cut (s : ByteArray) (v : Value) (o a b : Int) (nm : ByteArray) (sl : Value) (x : Value) (ss : List Int) (w : World) (h : Ints w x ss) (hl : ss.length = 1) (hs : ∀ i, -1 ≤ ss.getD i 0 ∧ ss.getD i 0 ≤ 4) :
    Calls Tryz.prog 128 #[.agg #[.string s, .int .i64 1], v, .agg #[.int .i64 o, .int .i64 a, .int .i64 b, .string nm, sl], x] w fun e w' => e = .returned (.int .i64 (orNo (0 ≤ b ∧ b ≤ a ∧ a < ss.getD 0 0) (a - b + 1))) ∧ Below w.heap.size w w' := by
  have hw := (Below.refl w.heap.size w)
  have hb := below_step (below_self_alloc w (.cells #[.string s, .int .i64 1] 74)) (.cells #[.int .i64 o, .int .i64 a, .int .i64 b, .string nm, sl] 33)
  replace h := h.below hb
  obtain ⟨xa, cap, rfl, r1, r2, r3⟩ := h
  rw [hl] at r1 r3 ⊢
  rcases r3 with r3 | ⟨g, off, rfl, r4, r5⟩
  · omega
  have c0 : World.cell? _ ⟨g, off + 0, none⟩ = some (.int .i64 (ss.getD 0 0)) := r5 0 (by omega)
  rw [Nat.add_zero] at c0
  clear r5
  obtain ⟨q0, q0'⟩ := hs 0
  clear hs
  generalize ss.getD 0 0 = s0 at *
  unfold orNo
  by_cases p0 : 0 ≤ b
  · by_cases p1 : b ≤ a
    · by_cases p2 : a < s0
      · rw [if_pos ⟨p0, p1, p2⟩]
        have hw1 : IntKind.i64.wrap (a - b) = a - b := IntWalk.i64_in _ (by omega)
        have hw2 : IntKind.i64.wrap (a - b + 1) = a - b + 1 := IntWalk.i64_in _ (by omega)
        go_enter Tryz.func128, Tryz.ntmps128
        go_wp2_with fail
        go_quiet ((go_at_call 118; exact Calls.quiet_of_same ((sorted_any _ _ _).mono fun _ _ h => ⟨h.1, h.2.symm⟩)))
        go_wp2_with fail
        go_ret
        exact ⟨rfl, below_drewN hb _⟩
      · rw [if_neg (fun e => p2 e.2.2)]
        have d0 : decide (a < s0) = false := by simpa using p2
        go_enter Tryz.func128, Tryz.ntmps128
        go_wp2_with fail
        go_quiet ((go_at_call 118; exact Calls.quiet_of_same ((sorted_any _ _ _).mono fun _ _ h => ⟨h.1, h.2.symm⟩)))
        go_wp2_with fail
        go_ret
        exact ⟨rfl, below_drewN hb _⟩
    · rw [if_neg (fun e => p1 e.2.1)]
      have d0 : decide (b ≤ a) = false := by simpa using p1
      go_enter Tryz.func128, Tryz.ntmps128
      go_wp2_with fail
      go_quiet ((go_at_call 118; exact Calls.quiet_of_same ((sorted_any _ _ _).mono fun _ _ h => ⟨h.1, h.2.symm⟩)))
      go_wp2_with fail
      go_ret
      exact ⟨rfl, below_drewN hb _⟩
  · rw [if_neg (fun e => p0 e.1)]
    have d0 : decide (0 ≤ b) = false := by simpa using p0
    go_enter Tryz.func128, Tryz.ntmps128
    go_wp2_with fail
    go_quiet ((go_at_call 118; exact Calls.quiet_of_same ((sorted_any _ _ _).mono fun _ _ h => ⟨h.1, h.2.symm⟩)))
    go_wp2_with fail
    go_ret
    exact ⟨rfl, below_drewN hb _⟩
set_option maxHeartbeats 4000000 in
theorem sort_vec (s : ByteArray) (v : Value) (o a b : Int) (nm : ByteArray) (sl : Value) (x : Value) (w : World) :
    Calls Tryz.prog 123 #[.agg #[.string s, .int .i64 0], v, .agg #[.int .i64 o, .int .i64 a, .int .i64 b, .string nm, sl], x] w fun e w' => e = .returned (.int .i64 (orNo (vokB a b = true) a)) ∧ Below w.heap.size w w' := by
  have K := below_step (below_self_alloc w (.cells #[.string s, .int .i64 0] 72)) (.cells #[.int .i64 o, .int .i64 a, .int .i64 b, .string nm, sl] 33)
  have A := blk5_new1 w (.cells #[.string s, .int .i64 0] 72) (.int .i64 o) (.int .i64 a) (.int .i64 b) (.string nm) sl 33
  have C : Hid (∀ w, Calls Tryz.prog 52 #[.agg #[.int .i64 a, .int .i64 b]] w fun e w' => e = .returned (.bool (vokB a b)) ∧ Below w.heap.size w w') := fun w => vecOk_impl a b w
  unfold orNo
  generalize vokB a b = z at *
  cases z
  all_goals
    go_enter Tryz.func123, Tryz.ntmps123
    go_wp2_with fail
    replace A := A.drew
    replace K := K.drew
    have sS := And.intro A.cells.2.1 A.cells.2.2.1
    first
      | (go_region_held3 (fun wx : World => wx.cell? ⟨w.heap.size + 1, 1, none⟩ = some (.int .i64 a) ∧ wx.cell? ⟨w.heap.size + 1, 2, none⟩ = some (.int .i64 b)) (first | (with_reducible assumption)) (first | (go_at_call 52; (with_reducible refine (C.out _).mono ?_); rintro e w1 ⟨rfl, hb⟩; replace A := A.keep hb; replace K := below_two K hb; clear hb; replace sS := And.intro A.cells.2.1 A.cells.2.2.1) | (go_at_call 118; (with_reducible refine (sorted_any _ _ _).mono ?_); rintro e w2 ⟨rfl, rfl⟩)))
    go_wp2_with fail
    go_ret
    exact ⟨rfl, K⟩
/-- whether two names are one: the function that DeclOk hands on -/
theorem same2_any (y : ByteArray) (b : Int) (s : ByteArray) (p : Nat) (w : World) (hp : w.cell? ⟨p, 3, none⟩ = some (.string s)) (hpl : p < w.heap.size) :
    Calls Tryz.prog 127 #[.agg #[.string y, .int .i64 b], .pointer (some ⟨p, 0, none⟩)] w fun e w' => e = .returned (.bool (decide (y = s))) ∧ Below w.heap.size w w' := by
  have hb := below_self_alloc w (.cells #[.string y, .int .i64 b] 44)
  have hp2 := (hb.cell (p := ⟨p, 3, none⟩) hpl).trans hp
  by_cases h : y = s
  · subst h
    rw [decide_eq_true rfl]
    go_enter Tryz.func127, Tryz.ntmps127
    go_wp2_with fail
    go_ret
    exact ⟨rfl, hb⟩
  · have h2 := str_ne h
    rw [decide_eq_false h]
    clear h
    go_enter Tryz.func127, Tryz.ntmps127
    go_wp2_with fail
    go_ret
    exact ⟨rfl, hb⟩
set_option maxHeartbeats 1000000 in
theorem indexFunc2_any (v : Value) (ds : List Dc) (n : Nat) (s : ByteArray) (p : Nat) (w : World) (h : DeclsN w v ds n) (hn : n ≤ 9223372036854775807) (hp : w.cell? ⟨p, 3, none⟩ = some (.string s)) (hpl : p < w.heap.size) :
    Calls Tryz.prog 68 #[v, .func (Fn.func 127) #[] #[.pointer (some ⟨p, 0, none⟩)]] w fun e w' => e = .returned (.int .i64 (findV ds s n)) ∧ Below w.heap.size w w' := by
  obtain ⟨a, cap, rfl, hr⟩ := h
  obtain ⟨z, hz⟩ : ∃ z, z = findV ds s n := ⟨_, rfl⟩
  rw [← hz]
  have HZ := Lib.hid hz
  clear hz
  go_enter Tryz.func68, Tryz.ntmps68
  go_wp2_with fail
  go_loopw [8] (fun i wr => ∃ k : Nat, k ≤ n ∧ i = .int .i64 k ∧ Hid (∀ j, j < k → (ds.getD j dz).1 ≠ s) ∧ Below w.heap.size w wr) (fun i _ => n - (intOf i).toNat)
  case atStart => exact ⟨0, Nat.zero_le _, rfl, fun _ h => absurd h (Nat.not_lt_zero _), Below.refl _ _⟩
  case round =>
    obtain ⟨k, hk, rfl, hpre, B⟩ := hrel
    have hp2 : wr.cell? ⟨p, 3, none⟩ = some (.string s) := (B.cell (p := ⟨p, 3, none⟩) hpl).trans hp
    have hpl2 : p < wr.heap.size := Nat.lt_of_lt_of_le hpl B.size
    by_cases hlt : k < n
    · obtain ⟨b, off, rfl, _, c0, c1⟩ := (hr.below B).duo hlt
      obtain ⟨x, hx⟩ : ∃ x, x = ds.getD k dz := ⟨_, rfl⟩
      rw [← hx] at c0 c1
      have HX := Lib.hid hx
      have hlt2 : (k : Int) < (n : Int) := by omega
      clear hx hr
      by_cases hs : x.1 = s
      · obtain rfl : z = k := by rw [HZ.out]; exact findV_at hpre.out (by rw [← HX.out]; exact hs) hlt
        have C := same2_any x.1 x.2 s p wr hp2 hpl2
        rw [decide_eq_true hs] at C
        have C2 := Lib.hid C
        clear hpre HZ C hs
        go_wp2_with fail
        refine C2.out.mono ?_; rintro e w1 ⟨rfl, hb1⟩
        go_wp2_with fail
        go_ret
        exact ⟨rfl, below_two B hb1⟩
      · have hpre2 : Hid (∀ j, j < k + 1 → (ds.getD j dz).1 ≠ s) := fun j hj => by
          by_cases e : j = k
          · subst e; rw [← HX.out]; exact hs
          · exact hpre.out j (by omega)
        have C := same2_any x.1 x.2 s p wr hp2 hpl2
        rw [decide_eq_false hs] at C
        have C2 := Lib.hid C
        clear hpre hs C
        go_wp2_with fail
        refine C2.out.mono ?_; rintro e w1 ⟨rfl, hb1⟩
        have B2 := below_two B hb1
        clear hb1 c0 c1 hp2
        go_wp2_with fail
        exact ⟨⟨k + 1, by omega, by go_num, hpre2, B2⟩, by simp [RowKit.intOf]; omega⟩
    · obtain rfl : k = n := by omega
      obtain rfl : z = -1 := by rw [HZ.out]; exact findV_none hpre.out
      clear hpre hr HZ
      go_wp2_with fail
      go_ret
      exact ⟨rfl, B⟩
theorem findV_bd (ds : List Dc) (s : ByteArray) (n : Nat) : -1 ≤ findV ds s n ∧ findV ds s n < n := by
  rcases findV_spec ds s n with ⟨h, _⟩ | ⟨h1, h2, _⟩ <;> omega
set_option maxHeartbeats 4000000 in
theorem sort_name (s : ByteArray) (v : Value) (ds : List Dc) (o a b : Int) (nm : ByteArray) (sl : Value) (x : Value) (w : World) (h : Decls w v ds) :
    Calls Tryz.prog 125 #[.agg #[.string s, .int .i64 0], v, .agg #[.int .i64 o, .int .i64 a, .int .i64 b, .string nm, sl], x] w fun e w' => e = .returned (.int .i64 (orNo (0 ≤ findV ds nm ds.length) (ds.getD (findV ds nm ds.length).toNat dz).2)) ∧ Below w.heap.size w w' := by
  have hbd := findV_bd ds nm ds.length
  have hlen := h.len
  have K := below_step (below_self_alloc w (.cells #[.string s, .int .i64 0] 73)) (.cells #[.int .i64 o, .int .i64 a, .int .i64 b, .string nm, sl] 33)
  have A := blk5_new1 w (.cells #[.string s, .int .i64 0] 73) (.int .i64 o) (.int .i64 a) (.int .i64 b) (.string nm) sl 33
  replace h := h.below K
  obtain ⟨xa, xc, rfl, hr, hn⟩ := h
  have C := Lib.hid (indexFunc2_any (.slice xa ds.length xc) ds ds.length nm (w.heap.size + 1) _ ⟨xa, xc, rfl, hr⟩ hlen A.cells.2.2.2.1 A.lt)
  unfold orNo
  by_cases hz : 0 ≤ findV ds nm ds.length
  · rw [if_pos hz]
    obtain ⟨k, hk⟩ : ∃ k : Nat, findV ds nm ds.length = k := ⟨(findV ds nm ds.length).toNat, by omega⟩
    rw [hk] at hbd C ⊢
    rw [Int.toNat_natCast]
    clear hk hz
    go_enter Tryz.func125, Tryz.ntmps125
    go_wp2_with fail
    refine C.out.mono ?_; rintro e w1 ⟨rfl, hb⟩
    clear C
    replace hr := hr.below hb
    replace K := below_two K hb
    clear hb A hn
    obtain ⟨g, off, rfl, _, c0, c1⟩ := hr.duo (k := k) (by omega)
    have hz1 : ¬ (k : Int) < 0 := by omega
    have hk1 : (k : Int) < (ds.length : Int) := by omega
    clear hr
    go_wp2_with fail
    go_ret
    exact ⟨rfl, K⟩
  · rw [if_neg hz]
    have hz1 : findV ds nm ds.length = -1 := by omega
    rw [hz1] at C
    clear hz hz1 hbd
    go_enter Tryz.func125, Tryz.ntmps125
    go_wp2_with fail
    refine C.out.mono ?_; rintro e w1 ⟨rfl, hb⟩
    clear C
    replace K := below_two K hb
    clear hb A hn hr
    go_wp2_with fail
    go_ret
    exact ⟨rfl, K⟩
def nz (x : Int) : Bool := decide (x ≠ 0)
theorem nz_any (x : Int) (w : World) : Calls Tryz.prog 135 #[.int .i64 x] w fun e w' => e = .returned (.bool (nz x)) ∧ w = w' := by
  by_cases h : x = 0
  · subst h
    go_enter Tryz.func135, Tryz.ntmps135
    go_wp2
    go_ret
    exact ⟨rfl, rfl⟩
  · have e : nz x = true := by simp [nz, h]
    rw [e]
    have h1 : (x != 0) = true := by simpa using h
    go_enter Tryz.func135, Tryz.ntmps135
    go_wp2
    go_ret
    exact ⟨rfl, rfl⟩
/-- an index, or -1; the Bool tells whether one is there -/
def IdxRet (b : Bool) (w : World) (e : Ending) (w' : World) : Prop := ∃ n : Int, e = .returned (.int .i64 n) ∧ decide (0 ≤ n) = b ∧ w = w'
theorem any_step {l : List Int} {p : Int → Bool} {k : Nat} (hk : k < l.length) (hp : p (l.getD k 0) = true) : l.any p = true := by
  rw [List.any_eq_true]
  refine ⟨l[k], List.getElem_mem _, ?_⟩
  rw [← hp, List.getD_eq_getElem?_getD, List.getElem?_eq_getElem hk]; rfl
theorem any_none {l : List Int} {p : Int → Bool} (h : ∀ i, i < l.length → p (l.getD i 0) = false) : l.any p = false := by
  rw [List.any_eq_false]
  intro x hx
  obtain ⟨i, hi, rfl⟩ := List.getElem_of_mem hx
  have := h i hi
  rw [List.getD_eq_getElem?_getD, List.getElem?_eq_getElem hi] at this
  simpa using this
set_option maxHeartbeats 2000000 in
theorem indexNz_any (c : Value) (lc : List Int) (w : World) (hc : Ints w c lc) :
    Calls Tryz.prog 136 #[c, .func (Fn.func 135) #[] #[]] w (IdxRet (lc.any nz) w) := by
  have hl := hc.len
  obtain ⟨a, cap, rfl, r1, r2, r3⟩ := hc
  have Y : Hid (∀ k, k < lc.length → nz (lc.getD k 0) = true → lc.any nz = true) := fun k hk h2 => any_step hk h2
  have N : Hid ((∀ i, i < lc.length → nz (lc.getD i 0) = false) → lc.any nz = false) := any_none
  generalize lc.any nz = z at *
  go_enter Tryz.func136, Tryz.ntmps136
  go_wp2_with fail
  go_loop [8] (fun i => ∃ k : Nat, k ≤ lc.length ∧ i = .int .i64 k ∧ Hid (∀ i, i < k → nz (lc.getD i 0) = false)) (fun i => lc.length - (intOf i).toNat)
  case atStart => exact ⟨0, Nat.zero_le _, rfl, fun i hi => absurd hi (by omega)⟩
  case round =>
    obtain ⟨k, hk, rfl, hno⟩ := hrel
    by_cases hlt : k < lc.length
    · rcases r3 with r3 | ⟨b, off, rfl, r4, r5⟩
      · omega
      have r6 : w.cell? ⟨b, off + k, none⟩ = some (.int .i64 (lc.getD k 0)) := r5 k hlt
      have hk0 : (0 : Int) ≤ (k : Int) := by omega
      have hk1 : (k : Int) < (lc.length : Int) := by omega
      have Y2 : Hid (nz (lc.getD k 0) = true → z = true) := fun h1 => Y.out k hlt h1
      have S2 : Hid (nz (lc.getD k 0) = false → ∀ i, i < k + 1 → nz (lc.getD i 0) = false) := fun h i hi => by
        rcases Nat.lt_or_ge i k with h1 | h1
        · exact hno.out i h1
        · rw [show i = k by omega]; exact h
      clear r5 Y N hno
      generalize lc.getD k 0 = x at *
      cases hx : nz x
      · have S3 := Lib.hid (S2.out hx)
        have HX := Lib.hid hx
        clear S2 Y2 hx
        go_wp2_with fail
        refine (nz_any x _).mono ?_; rintro e w1 ⟨rfl, rfl⟩
        rw [HX.out]
        go_wp2_with fail
        exact ⟨⟨k + 1, by omega, by go_num, S3.out⟩, by simp [intOf]; omega⟩
      · have hz := Y2.out hx
        subst hz
        have HX := Lib.hid hx
        clear S2 Y2 hx
        go_wp2_with fail
        refine (nz_any x _).mono ?_; rintro e w1 ⟨rfl, rfl⟩
        rw [HX.out]
        go_wp2_with fail
        go_ret
        exact ⟨k, rfl, by simp, rfl⟩
    · obtain rfl : k = lc.length := by omega
      have hz := N.out hno.out
      subst hz
      clear Y N hno
      go_wp2_with fail
      go_ret
      exact ⟨-1, rfl, by simp, rfl⟩
set_option maxHeartbeats 1000000 in
theorem containsNz_any (c : Value) (lc : List Int) (w : World) (hc : Ints w c lc) :
    Calls Tryz.prog 134 #[c, .func (Fn.func 135) #[] #[]] w fun e w' => e = .returned (.bool (lc.any nz)) ∧ w = w' := by
  go_enter Tryz.func134, Tryz.ntmps134
  go_wp2_with fail
  refine (indexNz_any c lc _ hc).mono ?_; rintro e w1 ⟨n, rfl, hn, rfl⟩
  have HN := Lib.hid hn
  clear hn
  go_wp2_with fail
  go_ret
  exact ⟨ret_bool HN.out, rfl⟩
theorem all_nz (ss : List Int) : (!(ss.any nz)) = true ↔ ∀ s ∈ ss, s = 0 := by
  simp [nz]
set_option maxHeartbeats 4000000 in
theorem sort_bool (s : ByteArray) (n : Int) (f v : Value) (o a b : Int) (nm : ByteArray) (sl : Value) (x : Value) (ss : List Int) (w : World) (h : Ints w x ss) :
    Calls Tryz.prog 132 #[.agg #[.string s, .int .i64 n, f], v, .agg #[.int .i64 o, .int .i64 a, .int .i64 b, .string nm, sl], x] w fun e w' => e = .returned (.int .i64 (orNo (∀ s ∈ ss, s = 0) 0)) ∧ Below w.heap.size w w' := by
  have K := below_step (below_self_alloc w (.cells #[.string s, .int .i64 n, f] 79)) (.cells #[.int .i64 o, .int .i64 a, .int .i64 b, .string nm, sl] 33)
  have C := Lib.hid (containsNz_any x ss _ (h.below K))
  have E := all_nz ss
  clear h
  unfold orNo
  cases hz : ss.any nz
  · rw [hz] at C E
    rw [if_pos (E.1 rfl)]
    clear E hz
    go_enter Tryz.func132, Tryz.ntmps132
    go_wp2_with fail
    refine C.out.mono ?_; rintro e w1 ⟨rfl, rfl⟩
    clear C
    go_wp2_with fail
    refine (sorted_any _ _ _).mono ?_; rintro e w1 ⟨rfl, rfl⟩
    go_wp2_with fail
    go_ret
    exact ⟨rfl, K⟩
  · rw [hz] at C E
    rw [if_neg (fun e => by have := E.2 e; simp at this)]
    clear E hz
    go_enter Tryz.func132, Tryz.ntmps132
    go_wp2_with fail
    refine C.out.mono ?_; rintro e w1 ⟨rfl, rfl⟩
    clear C
    go_wp2_with fail
    refine (sorted_any _ _ _).mono ?_; rintro e w1 ⟨rfl, rfl⟩
    go_wp2_with fail
    go_ret
    exact ⟨rfl, K⟩
end Go.Proofs.YtfkanemjedndgaaGreatDoor
