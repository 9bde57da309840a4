/- CnfSame of the reference and of the program. The conditions stand in each statement. -/
import Derived.Test.YtjobbokjebhjgaaCt
namespace Go.Proofs.Ytjobbokjebhjgaa
open Go.RowKit

set_option maxHeartbeats 2000000 in
theorem l4Ints_any (v v' : Value) (l l' : List Int) (w : World) (h : Ints w v l) (h' : Ints w v' l') :
    Calls Try.prog 54 #[v, v'] w (DrewRet (.bool (decide (l = l'))) w) := by
  have hl := h.len
  have hl' := h'.len
  obtain ⟨a, cap, rfl, hr⟩ := h
  obtain ⟨a', cap', rfl, hr'⟩ := h'
  by_cases hn : l.length = l'.length
  · obtain ⟨r1, r2, r3⟩ := hr
    obtain ⟨r1', r2', r3'⟩ := hr'
    rw [← hn] at r1' r3'
    have D : Hid (∀ i, i < l.length → (l.getD i 0 ≠ l'.getD i 0 → decide (l = l') = false)) := fun i _ h => by simpa using list_ne_at 0 h
    have E : Hid ((∀ i, i < l.length → l.getD i 0 = l'.getD i 0) → decide (l = l') = true) := fun h => by simpa using list_eq_of 0 hn h
    rw [← hn]
    generalize decide (l = l') = z at *
    clear hn hl'
    go_enter Try.func54, Try.ntmps54
    go_wp2
    go_loopw [5] (fun i wr => ∃ k : Nat, k ≤ l.length ∧ i = .int .i64 k ∧ Hid (∀ i, i < k → l.getD i 0 = l'.getD i 0) ∧ ∃ m, wr = w.drewN m) (fun i _ => l.length - (intOf i).toNat)
    case atStart => exact ⟨0, Nat.zero_le _, rfl, fun i hi => absurd hi (by omega), 0, rfl⟩
    case round =>
      obtain ⟨k, hk, rfl, hsame, m, rfl⟩ := hrel
      by_cases hlt : k < l.length
      · rcases r3 with r3 | ⟨b, off, rfl, r4, r5⟩
        · omega
        rcases r3' with r3' | ⟨b', off', rfl, r4', r5'⟩
        · omega
        have r6 : w.cell? ⟨b, off + k, none⟩ = some (.int .i64 (l.getD k 0)) := r5 k hlt
        have r6' : w.cell? ⟨b', off' + k, none⟩ = some (.int .i64 (l'.getD k 0)) := r5' k hlt
        have S : Hid (l.getD k 0 = l'.getD k 0 → ∀ i, i < k + 1 → l.getD i 0 = l'.getD i 0) := fun h i hi => by
          rcases Nat.lt_or_ge i k with h1 | h1
          · exact hsame.out i h1
          · rw [show i = k by omega]; exact h
        have D2 : Hid (l.getD k 0 ≠ l'.getD k 0 → z = false) := D.out k hlt
        clear r5 r5' hsame D E
        generalize l.getD k 0 = x at *
        generalize l'.getD k 0 = y at *
        have hk0 : (0 : Int) ≤ (k : Int) := by omega
        have hk1 : (k : Int) < (l.length : Int) := by omega
        by_cases hxy : x = y
        · subst hxy
          have S2 : Hid (∀ i, i < k + 1 → l.getD i 0 = l'.getD i 0) := S.out rfl
          clear S D2
          go_wp2_with fail
          go_quiet (fail)
          go_wp2_with fail
          exact ⟨⟨k + 1, by omega, by go_num, S2, _, rfl⟩, by simp [intOf]; omega⟩
        · have hz := D2.out hxy
          subst hz
          have hx1 : (x != y) = true := by simpa using hxy
          clear S D2 hxy
          go_wp2_with fail
          go_quiet (fail)
          rename_i nq
          go_wp2_with fail
          go_ret
          exact ⟨rfl, m + nq, by simp [World.drewN, Nat.add_assoc]⟩
      · obtain rfl : k = l.length := by omega
        have hz := E.out hsame.out
        subst hz
        clear D E hsame
        go_wp2_with fail
        go_ret
        exact ⟨rfl, _, rfl⟩
  · have hz : decide (l = l') = false := by simpa using fun e => hn (by rw [e])
    rw [hz]
    have hn' : ((l.length : Int) != (l'.length : Int)) = true := by simp; omega
    clear hr hr' hz
    go_enter Try.func54, Try.ntmps54
    go_wp2
    go_ret
    exact ⟨rfl, 0, rfl⟩
set_option maxHeartbeats 2000000 in
theorem equalInts_any (v v' : Value) (l l' : List Int) (w : World) (h : Ints w v l) (h' : Ints w v' l') :
    Calls Try.prog 63 #[v, v'] w (DrewRet (.bool (decide (l = l'))) w) := by
  have hl := h.len
  have hl' := h'.len
  obtain ⟨a, cap, rfl, hr⟩ := h
  obtain ⟨a', cap', rfl, hr'⟩ := h'
  by_cases hn : l.length = l'.length
  · obtain ⟨r1, r2, r3⟩ := hr
    obtain ⟨r1', r2', r3'⟩ := hr'
    rw [← hn] at r1' r3'
    have D : Hid (∀ i, i < l.length → (l.getD i 0 ≠ l'.getD i 0 → decide (l = l') = false)) := fun i _ h => by simpa using list_ne_at 0 h
    have E : Hid ((∀ i, i < l.length → l.getD i 0 = l'.getD i 0) → decide (l = l') = true) := fun h => by simpa using list_eq_of 0 hn h
    rw [← hn]
    generalize decide (l = l') = z at *
    clear hn hl'
    go_enter Try.func63, Try.ntmps63
    go_wp2
    go_loopw [13] (fun i wr => ∃ k : Nat, k ≤ l.length ∧ i = .int .i64 k ∧ Hid (∀ i, i < k → l.getD i 0 = l'.getD i 0) ∧ ∃ m, wr = w.drewN m) (fun i _ => l.length - (intOf i).toNat)
    case atStart => exact ⟨0, Nat.zero_le _, rfl, fun i hi => absurd hi (by omega), 0, rfl⟩
    case round =>
      obtain ⟨k, hk, rfl, hsame, m, rfl⟩ := hrel
      by_cases hlt : k < l.length
      · rcases r3 with r3 | ⟨b, off, rfl, r4, r5⟩
        · omega
        rcases r3' with r3' | ⟨b', off', rfl, r4', r5'⟩
        · omega
        have r6 : w.cell? ⟨b, off + k, none⟩ = some (.int .i64 (l.getD k 0)) := r5 k hlt
        have r6' : w.cell? ⟨b', off' + k, none⟩ = some (.int .i64 (l'.getD k 0)) := r5' k hlt
        have S : Hid (l.getD k 0 = l'.getD k 0 → ∀ i, i < k + 1 → l.getD i 0 = l'.getD i 0) := fun h i hi => by
          rcases Nat.lt_or_ge i k with h1 | h1
          · exact hsame.out i h1
          · rw [show i = k by omega]; exact h
        have D2 : Hid (l.getD k 0 ≠ l'.getD k 0 → z = false) := D.out k hlt
        clear r5 r5' hsame D E
        generalize l.getD k 0 = x at *
        generalize l'.getD k 0 = y at *
        have hk0 : (0 : Int) ≤ (k : Int) := by omega
        have hk1 : (k : Int) < (l.length : Int) := by omega
        by_cases hxy : x = y
        · subst hxy
          have S2 : Hid (∀ i, i < k + 1 → l.getD i 0 = l'.getD i 0) := S.out rfl
          clear S D2
          go_wp2_with fail
          go_quiet (fail)
          go_wp2_with fail
          exact ⟨⟨k + 1, by omega, by go_num, S2, _, rfl⟩, by simp [intOf]; omega⟩
        · have hz := D2.out hxy
          subst hz
          have hx1 : (x != y) = true := by simpa using hxy
          clear S D2 hxy
          go_wp2_with fail
          go_quiet (fail)
          rename_i nq
          go_wp2_with fail
          go_ret
          exact ⟨rfl, m + nq, by simp [World.drewN, Nat.add_assoc]⟩
      · obtain rfl : k = l.length := by omega
        have hz := E.out hsame.out
        subst hz
        clear D E hsame
        go_wp2_with fail
        go_ret
        exact ⟨rfl, _, rfl⟩
  · have hz : decide (l = l') = false := by simpa using fun e => hn (by rw [e])
    rw [hz]
    have hn' : ((l.length : Int) != (l'.length : Int)) = true := by simp; omega
    clear hr hr' hz
    go_enter Try.func63, Try.ntmps63
    go_wp2
    go_ret
    exact ⟨rfl, 0, rfl⟩
set_option maxHeartbeats 2000000 in
theorem equalFunc_any (v v' : Value) (l l' : List (List Int)) (w : World) (h : IntSS w v l) (h' : IntSS w v' l') :
    Calls Try.prog 72 #[v, v', .func (Fn.func 63) #[] #[]] w (DrewRet (.bool (decide (l = l'))) w) := by
  have hl := h.len
  have hl' := h'.len
  obtain ⟨a, cap, F, rfl, hr, hF⟩ := h
  obtain ⟨a', cap', F', rfl, hr', hF'⟩ := h'
  by_cases hn : l.length = l'.length
  · obtain ⟨r1, r2, r3⟩ := hr
    obtain ⟨r1', r2', r3'⟩ := hr'
    rw [← hn] at r1' r3' hF'
    have D : Hid (∀ i, i < l.length → (l.getD i [] ≠ l'.getD i [] → decide (l = l') = false)) := fun i _ h => by simpa using list_ne_at [] h
    have E : Hid ((∀ i, i < l.length → l.getD i [] = l'.getD i []) → decide (l = l') = true) := fun h => by simpa using list_eq_of [] hn h
    rw [← hn]
    generalize decide (l = l') = z at *
    clear hn hl'
    go_enter Try.func72, Try.ntmps72
    go_wp2
    go_loopw [17] (fun i wr => ∃ k : Nat, k ≤ l.length ∧ i = .int .i64 k ∧ Hid (∀ i, i < k → l.getD i [] = l'.getD i []) ∧ ∃ m, wr = w.drewN m) (fun i _ => l.length - (intOf i).toNat)
    case atStart => exact ⟨0, Nat.zero_le _, rfl, fun i hi => absurd hi (by omega), 0, rfl⟩
    case round =>
      obtain ⟨k, hk, rfl, hsame, m, rfl⟩ := hrel
      by_cases hlt : k < l.length
      · rcases r3 with r3 | ⟨b, off, rfl, r4, r5⟩
        · omega
        rcases r3' with r3' | ⟨b', off', rfl, r4', r5'⟩
        · omega
        obtain ⟨a1, c1, e1, R1⟩ := hF k hlt
        obtain ⟨a1', c1', e1', R1'⟩ := hF' k hlt
        have I1 : Ints w (F k) (l.getD k []) := ⟨a1, c1, e1, R1⟩
        have I1' : Ints w (F' k) (l'.getD k []) := ⟨a1', c1', e1', R1'⟩
        have r6 : w.cell? ⟨b, off + k, none⟩ = some (F k) := r5 k hlt
        have r6' : w.cell? ⟨b', off' + k, none⟩ = some (F' k) := r5' k hlt
        rw [e1] at r6 I1
        rw [e1'] at r6' I1'
        have S : Hid (l.getD k [] = l'.getD k [] → ∀ i, i < k + 1 → l.getD i [] = l'.getD i []) := fun h i hi => by
          rcases Nat.lt_or_ge i k with h1 | h1
          · exact hsame.out i h1
          · rw [show i = k by omega]; exact h
        have D2 : Hid (l.getD k [] ≠ l'.getD k [] → z = false) := D.out k hlt
        have C1 : ∀ n, Calls Try.prog 63 #[.slice a1 (l.getD k []).length c1, .slice a1' (l'.getD k []).length c1'] (w.drewN n) (DrewRet (.bool (decide (l.getD k [] = l'.getD k []))) (w.drewN n)) := fun n => equalInts_any _ _ _ _ _ I1 I1'
        clear r5 r5' hsame D E e1 e1' hF hF' R1 R1' I1 I1'
        generalize l.getD k [] = x at *
        generalize l'.getD k [] = y at *
        have hk0 : (0 : Int) ≤ (k : Int) := by omega
        have hk1 : (k : Int) < (l.length : Int) := by omega
        by_cases hxy : x = y
        · rw [decide_eq_true hxy] at C1
          have S2 : Hid (∀ i, i < k + 1 → l.getD i [] = l'.getD i []) := S.out hxy
          have C := Lib.hid C1
          clear S D2 C1 hxy
          go_wp2_with fail
          refine (C.out _).mono ?_; rintro e w1 ⟨rfl, nq, rfl⟩
          go_wp2_with fail
          exact ⟨⟨k + 1, by omega, by go_num, S2, m + nq, rfl⟩, by simp [intOf]; omega⟩
        · have hz := D2.out hxy
          subst hz
          rw [decide_eq_false hxy] at C1
          have C := Lib.hid C1
          clear S D2 C1 hxy
          go_wp2_with fail
          refine (C.out _).mono ?_; rintro e w1 ⟨rfl, nq, rfl⟩
          go_wp2_with fail
          go_ret
          exact ⟨rfl, m + nq, rfl⟩
      · obtain rfl : k = l.length := by omega
        have hz := E.out hsame.out
        subst hz
        clear D E hsame hF hF'
        go_wp2_with fail
        go_ret
        exact ⟨rfl, _, rfl⟩
  · have hz : decide (l = l') = false := by simpa using fun e => hn (by rw [e])
    rw [hz]
    have hn' : ((l.length : Int) != (l'.length : Int)) = true := by simp; omega
    clear hr hr' hz hF hF'
    go_enter Try.func72, Try.ntmps72
    go_wp2
    go_ret
    exact ⟨rfl, 0, rfl⟩

theorem sameLists_any (v v' : Value) (l l' : List (List Int)) (w : World) (h : IntSS w v l) (h' : IntSS w v' l') :
    Calls Try.prog 56 #[v, v'] w (DrewRet (.bool (decide (l = l'))) w) := by
  have C := Lib.hid (equalFunc_any v v' l l' w h h')
  obtain ⟨a, cap, F, rfl, _⟩ := h
  obtain ⟨a', cap', F', rfl, _⟩ := h'
  generalize decide (l = l') = z at *
  go_enter Try.func56, Try.ntmps56
  go_wp2_with fail
  refine C.out.mono ?_; rintro e w1 ⟨rfl, n, rfl⟩
  go_wp2_with fail
  go_ret
  exact ⟨rfl, n, rfl⟩

set_option maxHeartbeats 1000000 in
theorem cnfSame_impl (m : Int) (v : Value) (ls : List (List Int)) (m' : Int) (v' : Value) (ls' : List (List Int)) (w : World) (h : IntSS w v ls) (h' : IntSS w v' ls') :
    Calls Try.prog 24 #[.agg #[.int .i64 m, v], .agg #[.int .i64 m', v']] w fun e w' => e = .returned (.bool (sameC m ls m' ls')) ∧ Below w.heap.size w w' := by
  unfold sameC
  have hb : Below w.heap.size w ((w.alloc (.cells #[.int .i64 m, v] 38)).alloc (.cells #[.int .i64 m', v'] 38)) := below_res (Below.refl _ _)
  have h2 := h.below hb
  have h2' := h'.below hb
  obtain ⟨a, cap, F, rfl, _⟩ := h
  obtain ⟨a', cap', F', rfl, _⟩ := h'
  have C1 := sameLists_any _ _ ls ls' _ h2 h2'
  by_cases hm : m = m'
  · subst hm
    have e : decide (m = m ∧ ls = ls') = decide (ls = ls') := by simp
    rw [e]; clear e
    generalize decide (ls = ls') = z at *
    have C := Lib.hid C1
    clear C1 h2 h2'
    go_enter Try.func24, Try.ntmps24
    go_wp2_with fail
    refine C.out.mono ?_; rintro e w1 ⟨rfl, n, rfl⟩
    go_wp2_with fail
    go_ret
    exact ⟨rfl, below_drewN hb _⟩
  · have e : decide (m = m' ∧ ls = ls') = false := by simp [hm]
    rw [e]; clear e C1
    have hm2 : (m == m') = false := by simpa using hm
    go_enter Try.func24, Try.ntmps24
    go_wp2_with fail
    go_ret
    exact ⟨rfl, hb⟩

set_option maxHeartbeats 4000000 in
theorem cnfSame_spec (m : Int) (v : Value) (l : List (List Int)) (m' : Int) (v' : Value) (l' : List (List Int)) (w : World) (h : IntSS w v l) (h' : IntSS w v' l') :
    Calls Try.prog 22 #[.agg #[.int .i64 m, v], .agg #[.int .i64 m', v']] w fun e w' => e = .returned (.bool (sameC m l m' l')) ∧ Below w.heap.size w w' := by
  unfold sameC
  have hb : Below w.heap.size w ((w.alloc (.cells #[.int .i64 m, v] 38)).alloc (.cells #[.int .i64 m', v'] 38)) := below_res (Below.refl _ _)
  have hl := h.len
  have hl' := h'.len
  replace h := h.below hb
  replace h' := h'.below hb
  obtain ⟨a, cap, F, rfl, hr, hF⟩ := h
  obtain ⟨a', cap', F', rfl, hr', hF'⟩ := h'
  by_cases hm : m = m'
  · subst hm
    by_cases hn : l.length = l'.length
    · obtain ⟨r1, r2, r3⟩ := hr
      obtain ⟨r1', r2', r3'⟩ := hr'
      have e : decide (m = m ∧ l = l') = decide (l = l') := by simp
      rw [e]; clear e
      have D : Hid (∀ i, i < l.length → (l.getD i [] ≠ l'.getD i [] → decide (l = l') = false)) := fun i _ h => by simpa using list_ne_at [] h
      have E : Hid ((∀ i, i < l.length → l.getD i [] = l'.getD i []) → decide (l = l') = true) := fun h => by simpa using list_eq_of [] hn h
      generalize decide (l = l') = z at *
      rw [← hn] at r1' r3' hF' hb r3 hF ⊢
      clear hn hl'
      go_enter Try.func22, Try.ntmps22
      go_wp2
      go_loopw [5] (fun i wr => ∃ k : Nat, k ≤ l.length ∧ i = .int .i64 k ∧ Hid (∀ i, i < k → l.getD i [] = l'.getD i []) ∧ ∃ q, wr = ((w.alloc (.cells #[.int .i64 m, .slice a l.length cap] 38)).alloc (.cells #[.int .i64 m, .slice a' l.length cap'] 38)).drewN q) (fun i _ => l.length - (intOf i).toNat)
      case atStart => exact ⟨0, Nat.zero_le _, rfl, fun i hi => absurd hi (by omega), 0, rfl⟩
      case round =>
        obtain ⟨k, hk, rfl, hsame, q, rfl⟩ := hrel
        by_cases hlt : k < l.length
        · rcases r3 with r3 | ⟨b, off, rfl, r4, r5⟩
          · omega
          rcases r3' with r3' | ⟨b', off', rfl, r4', r5'⟩
          · omega
          obtain ⟨a1, c1, e1, R1⟩ := hF k hlt
          obtain ⟨a1', c1', e1', R1'⟩ := hF' k hlt
          have I1 : Ints ((w.alloc (.cells #[.int .i64 m, .slice (some ⟨b, off, none⟩) l.length cap] 38)).alloc (.cells #[.int .i64 m, .slice (some ⟨b', off', none⟩) l.length cap'] 38)) (F k) (l.getD k []) := ⟨a1, c1, e1, R1⟩
          have I1' : Ints ((w.alloc (.cells #[.int .i64 m, .slice (some ⟨b, off, none⟩) l.length cap] 38)).alloc (.cells #[.int .i64 m, .slice (some ⟨b', off', none⟩) l.length cap'] 38)) (F' k) (l'.getD k []) := ⟨a1', c1', e1', R1'⟩
          have r6 := r5 k hlt
          have r6' := r5' k hlt
          rw [e1] at r6 I1
          rw [e1'] at r6' I1'
          have S : Hid (l.getD k [] = l'.getD k [] → ∀ i, i < k + 1 → l.getD i [] = l'.getD i []) := fun h i hi => by
            rcases Nat.lt_or_ge i k with h1 | h1
            · exact hsame.out i h1
            · rw [show i = k by omega]; exact h
          have D2 : Hid (l.getD k [] ≠ l'.getD k [] → z = false) := D.out k hlt
          have C1 := fun n => l4Ints_any _ _ _ _ (((w.alloc (.cells #[.int .i64 m, .slice (some ⟨b, off, none⟩) l.length cap] 38)).alloc (.cells #[.int .i64 m, .slice (some ⟨b', off', none⟩) l.length cap'] 38)).drewN n) I1 I1'
          clear r5 r5' hsame D E e1 e1' hF hF' R1 R1' I1 I1'
          generalize l.getD k [] = x at *
          generalize l'.getD k [] = y at *
          have hk0 : (0 : Int) ≤ (k : Int) := by omega
          have hk1 : (k : Int) < (l.length : Int) := by omega
          by_cases hxy : x = y
          · rw [decide_eq_true hxy] at C1
            have S2 : Hid (∀ i, i < k + 1 → l.getD i [] = l'.getD i []) := S.out hxy
            have C := Lib.hid C1
            clear S D2 C1 hxy
            go_wp2_with fail
            go_quiet ((go_at_call 54; exact drewRet_at C.out _ _))
            go_wp2_with fail
            exact ⟨⟨k + 1, by omega, by go_num, S2, _, rfl⟩, by simp [intOf]; omega⟩
          · have hz := D2.out hxy
            subst hz
            rw [decide_eq_false hxy] at C1
            have C := Lib.hid C1
            clear S D2 C1 hxy
            go_wp2_with fail
            go_quiet ((go_at_call 54; exact drewRet_at C.out _ _))
            rename_i nq
            go_wp2_with fail
            go_ret
            exact ⟨rfl, by rw [World.drewN_drewN]; exact below_drewN hb _⟩
        · obtain rfl : k = l.length := by omega
          have hz := E.out hsame.out
          subst hz
          clear D E hsame hF hF'
          go_wp2_with fail
          go_ret
          exact ⟨rfl, below_drewN hb _⟩
    · have e : decide (m = m ∧ l = l') = false := by simpa using fun e => hn (by rw [e])
      rw [e]; clear e
      have hn' : ((l.length : Int) != (l'.length : Int)) = true := by simp; omega
      clear hr hr' hF hF'
      go_enter Try.func22, Try.ntmps22
      go_wp2_with fail
      go_ret
      exact ⟨rfl, hb⟩
  · have e : decide (m = m' ∧ l = l') = false := by simp [hm]
    rw [e]; clear e
    have hm2 : (m != m') = true := by simpa using hm
    clear hr hr' hF hF'
    go_enter Try.func22, Try.ntmps22
    go_wp2_with fail
    go_ret
    exact ⟨rfl, hb⟩
end Go.Proofs.Ytjobbokjebhjgaa
