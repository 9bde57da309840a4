/- NetSame of the reference and of the program. The conditions stand in each statement. -/
import Derived.Test.YteeaafdgkepaeaaNe
namespace Go.Proofs.Yteeaafdgkepaeaa
open Go.RowKit

theorem gate_ne {x0 y0 : Bool} {x1 x2 y1 y2 : Int} (h : ¬ ((x0, x1, x2) : Gt) = (y0, y1, y2)) : (x0 = !y0) ∨ (x0 = y0 ∧ (x1 == y1) = false ∧ (x1 != y1) = true) ∨ (x0 = y0 ∧ x1 = y1 ∧ (x2 == y2) = false ∧ (x2 != y2) = true) := by
  by_cases h0 : x0 = y0
  · by_cases h1 : x1 = y1
    · exact .inr (.inr ⟨h0, h1, by simpa using fun h2 => h (by rw [h0, h1, h2]), by simpa using fun h2 => h (by rw [h0, h1, h2])⟩)
    · exact .inr (.inl ⟨h0, by simpa using h1, by simpa using h1⟩)
  · exact .inl (by cases x0 <;> cases y0 <;> simp_all)

set_option maxHeartbeats 4000000 in
theorem equalGates_any (v v' : Value) (l l' : List Gt) (w : World) (h : Gates w v l) (h' : Gates w v' l') :
    Calls Try.prog 48 #[v, v'] w (DrewRet (.bool (decide (l = l'))) w) := by
  have hl := h.len
  have hl' := h'.len
  obtain ⟨a, cap, rfl, hr⟩ := h
  obtain ⟨a', cap', rfl, hr'⟩ := h'
  by_cases hn : l.length = l'.length
  · rw [← hn] at hr'
    have D : Hid (∀ i, i < l.length → (l.getD i gz ≠ l'.getD i gz → decide (l = l') = false)) := fun i _ h => by simpa using list_ne_at gz h
    have E : Hid ((∀ i, i < l.length → l.getD i gz = l'.getD i gz) → decide (l = l') = true) := fun h => by simpa using list_eq_of gz hn h
    rw [← hn]
    generalize decide (l = l') = z at *
    clear hn hl'
    go_enter Try.func48, Try.ntmps48
    go_wp2
    go_loopw [13] (fun i wr => ∃ k : Nat, k ≤ l.length ∧ i = .int .i64 k ∧ Hid (∀ i, i < k → l.getD i gz = l'.getD i gz) ∧ ∃ m, wr = w.drewN m) (fun i _ => l.length - (intOf i).toNat)
    case atStart => exact ⟨0, Nat.zero_le _, rfl, fun i hi => absurd hi (by omega), 0, rfl⟩
    case round =>
      obtain ⟨k, hk, rfl, hsame, m, rfl⟩ := hrel
      by_cases hlt : k < l.length
      · obtain ⟨b, off, rfl, g4, g5, g6, g7⟩ := hr.three hlt
        obtain ⟨b', off', rfl, g4', g5', g6', g7'⟩ := hr'.three hlt
        have S : Hid (l.getD k gz = l'.getD k gz → ∀ i, i < k + 1 → l.getD i gz = l'.getD i gz) := fun h i hi => by
          rcases Nat.lt_or_ge i k with h1 | h1
          · exact hsame.out i h1
          · rw [show i = k by omega]; exact h
        have D2 : Hid (l.getD k gz ≠ l'.getD k gz → z = false) := D.out k hlt
        clear hsame D E hr hr'
        generalize l.getD k gz = x at *
        generalize l'.getD k gz = y at *
        obtain ⟨x0, x1, x2⟩ := x
        obtain ⟨y0, y1, y2⟩ := y
        have hk0 : (0 : Int) ≤ (k : Int) := by omega
        have hk1 : (k : Int) < (l.length : Int) := by omega
        dsimp only at g5 g6 g7 g5' g6' g7'
        by_cases hxy : ((x0, x1, x2) : Gt) = (y0, y1, y2)
        · have S2 : Hid (∀ i, i < k + 1 → l.getD i gz = l'.getD i gz) := S.out hxy
          obtain ⟨rfl, rfl, rfl⟩ : x0 = y0 ∧ x1 = y1 ∧ x2 = y2 := by simpa using hxy
          clear S D2 hxy
          go_wp2_with fail
          go_quiet (fail)
          go_wp2_with fail
          exact ⟨⟨k + 1, by omega, by go_num, S2, _, rfl⟩, by simp [intOf]; omega⟩
        · have hz := D2.out hxy
          subst hz
          clear S D2
          rcases gate_ne hxy with rfl | ⟨rfl, q1, q2⟩ | ⟨rfl, rfl, q1, q2⟩
          all_goals
            clear hxy
            go_wp2_with fail
            go_quiet (fail)
            rename_i nq
            go_wp2_with fail
            go_ret
            exact ⟨rfl, m + nq, by simp [World.drewN, Nat.add_assoc]⟩
      · obtain rfl : k = l.length := by omega
        have hz := E.out hsame.out
        subst hz
        clear D E hsame hr hr'
        go_wp2_with fail
        go_ret
        exact ⟨rfl, _, rfl⟩
  · have hz : decide (l = l') = false := by simpa using fun e => hn (by rw [e])
    rw [hz]
    have hn' : ((l.length : Int) != (l'.length : Int)) = true := by simp; omega
    clear hr hr' hz
    go_enter Try.func48, Try.ntmps48
    go_wp2
    go_ret
    exact ⟨rfl, 0, rfl⟩

set_option maxHeartbeats 1000000 in
theorem netSame_impl (m : Int) (v : Value) (ls : List Gt) (m' : Int) (v' : Value) (ls' : List Gt) (w : World) (h : Gates w v ls) (h' : Gates w v' ls') :
    Calls Try.prog 20 #[.agg #[.int .i64 m, v], .agg #[.int .i64 m', v']] w fun e w' => e = .returned (.bool (sameN m ls m' ls')) ∧ Below w.heap.size w w' := by
  unfold sameN
  have hb : Below w.heap.size w ((w.alloc (.cells #[.int .i64 m, v] 39)).alloc (.cells #[.int .i64 m', v'] 39)) := below_res (Below.refl _ _)
  have h2 := h.below hb
  have h2' := h'.below hb
  obtain ⟨a, cap, rfl, _⟩ := h
  obtain ⟨a', cap', rfl, _⟩ := h'
  have C1 := equalGates_any _ _ ls ls' _ h2 h2'
  by_cases hm : m = m'
  · subst hm
    have e : decide (m = m ∧ ls = ls') = decide (ls = ls') := by simp
    rw [e]; clear e
    generalize decide (ls = ls') = z at *
    have C := Lib.hid C1
    clear C1 h2 h2'
    go_enter Try.func20, Try.ntmps20
    go_wp2_with fail
    refine C.out.mono ?_; rintro e w1 ⟨rfl, n, rfl⟩
    go_wp2_with fail
    go_ret
    exact ⟨rfl, below_drewN hb _⟩
  · have e : decide (m = m' ∧ ls = ls') = false := by simp [hm]
    rw [e]; clear e C1
    have hm2 : (m == m') = false := by simpa using hm
    go_enter Try.func20, Try.ntmps20
    go_wp2_with fail
    go_ret
    exact ⟨rfl, hb⟩

set_option maxHeartbeats 4000000 in
theorem netSame_spec (m : Int) (v : Value) (l : List Gt) (m' : Int) (v' : Value) (l' : List Gt) (w : World) (h : Gates w v l) (h' : Gates w v' l') :
    Calls Try.prog 18 #[.agg #[.int .i64 m, v], .agg #[.int .i64 m', v']] w fun e w' => e = .returned (.bool (sameN m l m' l')) ∧ Below w.heap.size w w' := by
  unfold sameN
  have hb : Below w.heap.size w ((w.alloc (.cells #[.int .i64 m, v] 39)).alloc (.cells #[.int .i64 m', v'] 39)) := below_res (Below.refl _ _)
  have hl := h.len
  have hl' := h'.len
  replace h := h.below hb
  replace h' := h'.below hb
  obtain ⟨a, cap, rfl, hr⟩ := h
  obtain ⟨a', cap', rfl, hr'⟩ := h'
  by_cases hm : m = m'
  · subst hm
    by_cases hn : l.length = l'.length
    · have e : decide (m = m ∧ l = l') = decide (l = l') := by simp
      rw [e]; clear e
      have D : Hid (∀ i, i < l.length → (l.getD i gz ≠ l'.getD i gz → decide (l = l') = false)) := fun i _ h => by simpa using list_ne_at gz h
      have E : Hid ((∀ i, i < l.length → l.getD i gz = l'.getD i gz) → decide (l = l') = true) := fun h => by simpa using list_eq_of gz hn h
      generalize decide (l = l') = z at *
      rw [← hn] at hr hr' hb ⊢
      clear hn hl'
      go_enter Try.func18, Try.ntmps18
      go_wp2
      go_loopw [5] (fun i wr => ∃ k : Nat, k ≤ l.length ∧ i = .int .i64 k ∧ Hid (∀ i, i < k → l.getD i gz = l'.getD i gz) ∧ ∃ q, wr = ((w.alloc (.cells #[.int .i64 m, .slice a l.length cap] 39)).alloc (.cells #[.int .i64 m, .slice a' l.length cap'] 39)).drewN q) (fun i _ => l.length - (intOf i).toNat)
      case atStart => exact ⟨0, Nat.zero_le _, rfl, fun i hi => absurd hi (by omega), 0, rfl⟩
      case round =>
        obtain ⟨k, hk, rfl, hsame, q, rfl⟩ := hrel
        by_cases hlt : k < l.length
        · obtain ⟨b, off, rfl, g4, g5, g6, g7⟩ := hr.three hlt
          obtain ⟨b', off', rfl, g4', g5', g6', g7'⟩ := hr'.three hlt
          have S : Hid (l.getD k gz = l'.getD k gz → ∀ i, i < k + 1 → l.getD i gz = l'.getD i gz) := fun h i hi => by
            rcases Nat.lt_or_ge i k with h1 | h1
            · exact hsame.out i h1
            · rw [show i = k by omega]; exact h
          have D2 : Hid (l.getD k gz ≠ l'.getD k gz → z = false) := D.out k hlt
          clear hsame D E hr hr'
          generalize l.getD k gz = x at *
          generalize l'.getD k gz = y at *
          obtain ⟨x0, x1, x2⟩ := x
          obtain ⟨y0, y1, y2⟩ := y
          have hk0 : (0 : Int) ≤ (k : Int) := by omega
          have hk1 : (k : Int) < (l.length : Int) := by omega
          dsimp only at g5 g6 g7 g5' g6' g7'
          by_cases hxy : ((x0, x1, x2) : Gt) = (y0, y1, y2)
          · have S2 : Hid (∀ i, i < k + 1 → l.getD i gz = l'.getD i gz) := S.out hxy
            obtain ⟨rfl, rfl, rfl⟩ : x0 = y0 ∧ x1 = y1 ∧ x2 = y2 := by simpa using hxy
            clear S D2 hxy
            go_wp2_with fail
            go_quiet (fail)
            go_wp2_with fail
            exact ⟨⟨k + 1, by omega, by go_num, S2, _, rfl⟩, by simp [intOf]; omega⟩
          · have hz := D2.out hxy
            subst hz
            clear S D2
            rcases gate_ne hxy with rfl | ⟨rfl, q1, q2⟩ | ⟨rfl, rfl, q1, q2⟩
            all_goals
              clear hxy
              go_wp2_with fail
              go_quiet (fail)
              go_wp2_with fail
              go_ret
              exact ⟨rfl, below_drewN (below_drewN hb _) _⟩
        · obtain rfl : k = l.length := by omega
          have hz := E.out hsame.out
          subst hz
          clear D E hsame hr hr'
          go_wp2_with fail
          go_ret
          exact ⟨rfl, below_drewN hb _⟩
    · have e : decide (m = m ∧ l = l') = false := by simpa using fun e => hn (by rw [e])
      rw [e]; clear e
      have hn' : ((l.length : Int) != (l'.length : Int)) = true := by simp; omega
      clear hr hr'
      go_enter Try.func18, Try.ntmps18
      go_wp2_with fail
      go_ret
      exact ⟨rfl, hb⟩
  · have e : decide (m = m' ∧ l = l') = false := by simp [hm]
    rw [e]; clear e
    have hm2 : (m != m') = true := by simpa using hm
    clear hr hr'
    go_enter Try.func18, Try.ntmps18
    go_wp2_with fail
    go_ret
    exact ⟨rfl, hb⟩
end Go.Proofs.Yteeaafdgkepaeaa
