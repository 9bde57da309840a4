/- Comparing, marking and holding formulas, as the statements do. The conditions stand in each statement. -/
import Derived.Test.YteeaafdgkepaeaaOa
import Derived.StillTailTactics
namespace Go.Proofs.Yteeaafdgkepaeaa
open Go.RowKit

theorem infoInt : (Try.prog.info? 3).map (fun i => (i.zero, i.size, i.bytes)) = some (some (.int .i64 0), 1, 8) := by kernel_rfl
set_option maxHeartbeats 2000000 in
theorem eqIntS_any (v v' : Value) (l l' : List Int) (w : World) (h : Ints w v l) (h' : Ints w v' l') :
    Calls Try.prog 76 #[v, v'] w (DrewRet (.bool (decide (l = l'))) w) := by
  have hl := h.len
  have hl' := h'.len
  obtain ⟨a, cap, rfl, hr⟩ := h
  obtain ⟨a', cap', rfl, hr'⟩ := h'
  by_cases hn : l.length = l'.length
  · obtain ⟨r1, r2, r3⟩ := hr
    obtain ⟨r1', r2', r3'⟩ := hr'
    rw [← hn] at r1' r3'
    have D : Hid (∀ i, i < l.length → (l.getD i 0 ≠ l'.getD i 0 → decide (l = l') = false)) := fun i _ h => by simpa using list_ne_at 0 h
    have E : Hid ((∀ i, i < l.length → l.getD i 0 = l'.getD i 0) → decide (l = l') = true) := fun h => by simpa using list_eq_of 0 hn h
    rw [← hn]
    generalize decide (l = l') = z at *
    clear hn hl'
    go_enter Try.func76, Try.ntmps76
    go_wp2
    go_loopw [5] (fun i wr => ∃ k : Nat, k ≤ l.length ∧ i = .int .i64 k ∧ Hid (∀ i, i < k → l.getD i 0 = l'.getD i 0) ∧ ∃ m, wr = w.drewN m) (fun i _ => l.length - (intOf i).toNat)
    case atStart => exact ⟨0, Nat.zero_le _, rfl, fun i hi => absurd hi (by omega), 0, rfl⟩
    case round =>
      obtain ⟨k, hk, rfl, hsame, m, rfl⟩ := hrel
      by_cases hlt : k < l.length
      · rcases r3 with r3 | ⟨b, off, rfl, r4, r5⟩
        · omega
        rcases r3' with r3' | ⟨b', off', rfl, r4', r5'⟩
        · omega
        have r6 : w.cell? ⟨b, off + k, none⟩ = some (.int .i64 (l.getD k 0)) := r5 k hlt
        have r6' : w.cell? ⟨b', off' + k, none⟩ = some (.int .i64 (l'.getD k 0)) := r5' k hlt
        have S : Hid (l.getD k 0 = l'.getD k 0 → ∀ i, i < k + 1 → l.getD i 0 = l'.getD i 0) := fun h i hi => by
          rcases Nat.lt_or_ge i k with h1 | h1
          · exact hsame.out i h1
          · rw [show i = k by omega]; exact h
        have D2 : Hid (l.getD k 0 ≠ l'.getD k 0 → z = false) := D.out k hlt
        clear r5 r5' hsame D E
        generalize l.getD k 0 = x at *
        generalize l'.getD k 0 = y at *
        have hk0 : (0 : Int) ≤ (k : Int) := by omega
        have hk1 : (k : Int) < (l.length : Int) := by omega
        by_cases hxy : x = y
        · subst hxy
          have S2 : Hid (∀ i, i < k + 1 → l.getD i 0 = l'.getD i 0) := S.out rfl
          clear S D2
          go_wp2_with fail
          go_quiet (fail)
          go_wp2_with fail
          exact ⟨⟨k + 1, by omega, by go_num, S2, _, rfl⟩, by simp [intOf]; omega⟩
        · have hz := D2.out hxy
          subst hz
          have hx1 : (x != y) = true := by simpa using hxy
          clear S D2 hxy
          go_wp2_with fail
          go_quiet (fail)
          rename_i nq
          go_wp2_with fail
          go_ret
          exact ⟨rfl, m + nq, by simp [World.drewN, Nat.add_assoc]⟩
      · obtain rfl : k = l.length := by omega
        have hz := E.out hsame.out
        subst hz
        clear D E hsame
        go_wp2_with fail
        go_ret
        exact ⟨rfl, _, rfl⟩
  · have hz : decide (l = l') = false := by simpa using fun e => hn (by rw [e])
    rw [hz]
    have hn' : ((l.length : Int) != (l'.length : Int)) = true := by simp; omega
    clear hr hr' hz
    go_enter Try.func76, Try.ntmps76
    go_wp2
    go_ret
    exact ⟨rfl, 0, rfl⟩
theorem infoInts : (Try.prog.info? 30).map (fun i => (i.zero, i.size, i.bytes)) = some (some (.slice none 0 0), 1, 24) := by kernel_rfl
set_option maxHeartbeats 2000000 in
theorem eqIntSS_any (v v' : Value) (l l' : List (List Int)) (w : World) (h : IntSS w v l) (h' : IntSS w v' l') :
    Calls Try.prog 58 #[v, v'] w (DrewRet (.bool (decide (l = l'))) w) := by
  have hl := h.len
  have hl' := h'.len
  obtain ⟨a, cap, F, rfl, hr, hF⟩ := h
  obtain ⟨a', cap', F', rfl, hr', hF'⟩ := h'
  by_cases hn : l.length = l'.length
  · obtain ⟨r1, r2, r3⟩ := hr
    obtain ⟨r1', r2', r3'⟩ := hr'
    rw [← hn] at r1' r3' hF'
    have D : Hid (∀ i, i < l.length → (l.getD i [] ≠ l'.getD i [] → decide (l = l') = false)) := fun i _ h => by simpa using list_ne_at [] h
    have E : Hid ((∀ i, i < l.length → l.getD i [] = l'.getD i []) → decide (l = l') = true) := fun h => by simpa using list_eq_of [] hn h
    rw [← hn]
    generalize decide (l = l') = z at *
    clear hn hl'
    go_enter Try.func58, Try.ntmps58
    go_wp2
    go_loopw [5] (fun i wr => ∃ k : Nat, k ≤ l.length ∧ i = .int .i64 k ∧ Hid (∀ i, i < k → l.getD i [] = l'.getD i []) ∧ ∃ m, wr = w.drewN m) (fun i _ => l.length - (intOf i).toNat)
    case atStart => exact ⟨0, Nat.zero_le _, rfl, fun i hi => absurd hi (by omega), 0, rfl⟩
    case round =>
      obtain ⟨k, hk, rfl, hsame, m, rfl⟩ := hrel
      by_cases hlt : k < l.length
      · rcases r3 with r3 | ⟨b, off, rfl, r4, r5⟩
        · omega
        rcases r3' with r3' | ⟨b', off', rfl, r4', r5'⟩
        · omega
        obtain ⟨a1, c1, e1, R1⟩ := hF k hlt
        obtain ⟨a1', c1', e1', R1'⟩ := hF' k hlt
        have I1 : Ints w (F k) (l.getD k []) := ⟨a1, c1, e1, R1⟩
        have I1' : Ints w (F' k) (l'.getD k []) := ⟨a1', c1', e1', R1'⟩
        have r6 : w.cell? ⟨b, off + k, none⟩ = some (F k) := r5 k hlt
        have r6' : w.cell? ⟨b', off' + k, none⟩ = some (F' k) := r5' k hlt
        rw [e1] at r6 I1
        rw [e1'] at r6' I1'
        have S : Hid (l.getD k [] = l'.getD k [] → ∀ i, i < k + 1 → l.getD i [] = l'.getD i []) := fun h i hi => by
          rcases Nat.lt_or_ge i k with h1 | h1
          · exact hsame.out i h1
          · rw [show i = k by omega]; exact h
        have D2 : Hid (l.getD k [] ≠ l'.getD k [] → z = false) := D.out k hlt
        have C1 : ∀ n, Calls Try.prog 76 #[.slice a1 (l.getD k []).length c1, .slice a1' (l'.getD k []).length c1'] (w.drewN n) (DrewRet (.bool (decide (l.getD k [] = l'.getD k []))) (w.drewN n)) := fun n => eqIntS_any _ _ _ _ _ I1 I1'
        clear r5 r5' hsame D E e1 e1' hF hF' R1 R1' I1 I1'
        generalize l.getD k [] = x at *
        generalize l'.getD k [] = y at *
        have hk0 : (0 : Int) ≤ (k : Int) := by omega
        have hk1 : (k : Int) < (l.length : Int) := by omega
        by_cases hxy : x = y
        · rw [decide_eq_true hxy] at C1
          have S2 : Hid (∀ i, i < k + 1 → l.getD i [] = l'.getD i []) := S.out hxy
          have C := Lib.hid C1
          clear S D2 C1 hxy
          go_wp2_with fail
          go_quiet ((go_at_call 76; exact drewRet_at C.out _ _))
          go_wp2_with fail
          exact ⟨⟨k + 1, by omega, by go_num, S2, _, rfl⟩, by simp [intOf]; omega⟩
        · have hz := D2.out hxy
          subst hz
          rw [decide_eq_false hxy] at C1
          have C := Lib.hid C1
          clear S D2 C1 hxy
          go_wp2_with fail
          go_quiet ((go_at_call 76; exact drewRet_at C.out _ _))
          rename_i nq
          go_wp2_with fail
          go_ret
          exact ⟨rfl, m + nq, by simp [World.drewN, Nat.add_assoc]⟩
      · obtain rfl : k = l.length := by omega
        have hz := E.out hsame.out
        subst hz
        clear D E hsame hF hF'
        go_wp2_with fail
        go_ret
        exact ⟨rfl, _, rfl⟩
  · have hz : decide (l = l') = false := by simpa using fun e => hn (by rw [e])
    rw [hz]
    have hn' : ((l.length : Int) != (l'.length : Int)) = true := by simp; omega
    clear hr hr' hz hF hF'
    go_enter Try.func58, Try.ntmps58
    go_wp2
    go_ret
    exact ⟨rfl, 0, rfl⟩
set_option maxHeartbeats 1000000 in
theorem eqCnf_any (m : Int) (v : Value) (ls : List (List Int)) (m' : Int) (v' : Value) (ls' : List (List Int)) (w : World) (h : IntSS w v ls) (h' : IntSS w v' ls') :
    Calls Try.prog 32 #[.agg #[.int .i64 m, v], .agg #[.int .i64 m', v']] w fun e w' => e = .returned (.bool (decide (m = m' ∧ ls = ls'))) ∧ Below w.heap.size w w' := by
  have hb : Below w.heap.size w ((w.alloc (.cells #[.int .i64 m, v] 54)).alloc (.cells #[.int .i64 m', v'] 54)) := below_res (Below.refl _ _)
  have h2 := h.below hb
  have h2' := h'.below hb
  obtain ⟨a, cap, F, rfl, _⟩ := h
  obtain ⟨a', cap', F', rfl, _⟩ := h'
  have C1 := eqIntSS_any _ _ ls ls' _ h2 h2'
  by_cases hm : m = m'
  · subst hm
    have e : decide (m = m ∧ ls = ls') = decide (ls = ls') := by simp
    rw [e]; clear e
    generalize decide (ls = ls') = z at *
    have C := Lib.hid C1
    clear C1 h2 h2'
    cases z
    · go_enter Try.func32, Try.ntmps32
      go_wp2_with fail
      refine C.out.mono ?_; rintro e w1 ⟨rfl, n, rfl⟩
      go_wp2_with fail
      go_ret
      exact ⟨rfl, below_drewN hb _⟩
    · go_enter Try.func32, Try.ntmps32
      go_wp2_with fail
      refine C.out.mono ?_; rintro e w1 ⟨rfl, n, rfl⟩
      go_wp2_with fail
      go_ret
      exact ⟨rfl, below_drewN hb _⟩
  · have e : decide (m = m' ∧ ls = ls') = false := by simp [hm]
    rw [e]; clear e C1
    have hm2 : (m != m') = true := by simpa using hm
    go_enter Try.func32, Try.ntmps32
    go_wp2_with fail
    go_ret
    exact ⟨rfl, hb⟩
theorem eqCnf_same (m : Int) (v : Value) (ls : List (List Int)) (v' : Value) (w : World) (h : IntSS w v ls) (h' : IntSS w v' ls) :
    Calls Try.prog 32 #[.agg #[.int .i64 m, v], .agg #[.int .i64 m, v']] w fun e w' => e = .returned (.bool true) ∧ Below w.heap.size w w' := by
  have := eqCnf_any m v ls m v' ls w h h'
  rw [dec_same] at this
  exact this
set_option maxHeartbeats 2000000 in
theorem heldIntS_any (v : Value) (n k : Nat) (w : World) (h : Ints w v ((List.range n).map (fun i => ((k + i : Nat) : Int)))) (hk : k + n ≤ 1000000000000000000) :
    Calls Try.prog 78 #[v, .int .i64 k] w fun e w' => e = .returned (.int .i64 ((k + n : Nat) : Int)) ∧ w = w' := by
  have hl : ((List.range n).map (fun i => ((k + i : Nat) : Int))).length = n := by simp
  obtain ⟨a, cap, rfl, r1, r2, r3⟩ := h
  rw [hl] at r1 r3 ⊢
  go_enter Try.func78, Try.ntmps78
  go_wp2
  go_loop [5, 1] (fun i q => ∃ j : Nat, j ≤ n ∧ i = .int .i64 j ∧ q = .int .i64 ((k + j : Nat) : Int)) (fun i _ => n - (intOf i).toNat)
  case atStart => exact ⟨0, Nat.zero_le _, rfl, rfl⟩
  case round =>
    obtain ⟨j, hj, rfl, rfl⟩ := hrel
    by_cases hlt : j < n
    · rcases r3 with r3 | ⟨b, off, rfl, r4, r5⟩
      · omega
      have r6 : w.cell? ⟨b, off + j, none⟩ = some (.int .i64 (((List.range n).map (fun i => ((k + i : Nat) : Int))).getD j 0)) := r5 j hlt
      have e1 : ((List.range n).map (fun i => ((k + i : Nat) : Int))).getD j 0 = ((k + j : Nat) : Int) := by
        simp [List.getD_eq_getElem?_getD, hlt]
      rw [e1] at r6
      have hj0 : (0 : Int) ≤ (j : Int) := by omega
      have hj1 : (j : Int) < (n : Int) := by omega
      obtain ⟨q, hq⟩ : ∃ q : Nat, q = k + j := ⟨_, rfl⟩
      rw [← hq] at r6 ⊢
      have HQ := Lib.hid hq
      have hq1 : q ≤ 1000000000000000000 := by omega
      clear r5 e1 hq hl
      have h4 : ((q : Int) != (q : Int)) = false := by simp
      go_wp2
      exact ⟨⟨j + 1, by omega, by go_num, by rw [HQ.out]; congr 1⟩, by simp [intOf]; omega⟩
    · obtain rfl : j = n := by omega
      clear r3
      go_wp2
      go_ret
      exact ⟨rfl, rfl⟩
set_option maxHeartbeats 2000000 in
theorem markIntSS_any (v : Value) (ls : List (List Int)) (fs : List Value) (base : Nat) (tt : TypeId) (w : World) (h : OwnSS w base tt 3 v ls ls.length fs) (hn : ls.length ≤ 1048576) (hm : ∀ i, i < ls.length → (ls.getD i []).length ≤ 1048576) :
    Calls Try.prog 59 #[v, .int .i64 1] w fun e w' => e = .returned (.int .i64 (stAt ls ls.length : Int)) ∧ Only (rowOf fs ls.length) w w' ∧ OwnSS w' base tt 3 v (mksL ls) (mksL ls).length fs := by
  obtain ⟨a, cap, e0, hr⟩ := Row.of_own h.top
  subst e0
  have HM := Lib.hid hm
  clear hm
  go_enter Try.func59, Try.ntmps59
  go_wp2
  go_loopw [5, 1] (fun i q wr => ∃ (k z : Nat), k ≤ ls.length ∧ i = .int .i64 k ∧ q = .int .i64 (z : Int) ∧ z = stAt ls k ∧ Only (rowOf fs ls.length) w wr ∧ Hid (∀ i, i < k → wr.ownsRow base 3 1 (fs.getD i undef) (ls.getD i []).length ((mkAt ls i).map (.int .i64))) ∧ (∀ i, i < ls.length → ∃ xs, wr.ownsRow base 3 1 (fs.getD i undef) (ls.getD i []).length xs)) (fun i _ _ => ls.length - (intOf i).toNat)
  case atStart => exact ⟨0, 1, Nat.zero_le _, rfl, rfl, rfl, Only.refl _ _, fun i hi => absurd hi (Nat.not_lt_zero _), fun i hi => ⟨_, h.row i hi⟩⟩
  case round =>
    obtain ⟨k, z, hk, rfl, rfl, hzk0, O, R0, R⟩ := hrel
    have HZK := Lib.hid hzk0
    have hz : z ≤ 1 + k * 1048576 := by rw [hzk0]; exact stAt_le HM.out k hk
    clear hzk0
    by_cases hlt : k < ls.length
    · have hzk : k * 1048576 ≤ 1099511627776 := by omega
      have topk := O.own h.top (fun j hj hs => by
        obtain ⟨i, hi, e⟩ := hs
        exact h.off i hi j e hj)
      obtain ⟨a', c', e', r1, r2, r3⟩ := Row.of_own topk
      cases e'
      rcases r3 with r3 | ⟨b, off, rfl, r4, r5⟩
      · omega
      have r6 : wr.cell? ⟨b, off + k, none⟩ = some (fs.getD k undef) := r5 k hlt
      obtain ⟨xs, ok⟩ := R k hlt
      obtain ⟨a1, c1, e1, _⟩ := Row.of_own ok
      have hmk := HM.out k hlt
      have M := markIntS_any _ base _ z xs wr ok (by omega)
      have RR := Lib.hid R
      have hfk := Lib.hid e1
      rw [e1] at r6 M
      obtain ⟨x1, hx1⟩ : ∃ x, x = (ls.getD k []).length := ⟨_, rfl⟩
      rw [← hx1] at r6 M hmk
      have HX := Lib.hid hx1
      have hh := Lib.hid h
      have MM := Lib.hid M
      have hzb : z ≤ 1099511627777 := by omega
      have hz' := Lib.hid hz
      clear r5 R M e1 hx1 ok h topk hr hz hzk
      have hk1 : (k : Int) < (ls.length : Int) := by omega
      go_wp2_with fail
      refine MM.out.mono ?_; rintro e w2 ⟨rfl, own2, hg2⟩
      have hS : ∀ j, (Value.slice a1 x1 c1).ownBlock = some j → rowOf fs ls.length j := fun j hj => ⟨k, hlt, by rw [hfk.out, ← HX.out]; exact hj⟩
      have O2 := O.grown hg2 hS
      have R2 : Hid (∀ i, i < ls.length → ∃ xs, w2.ownsRow base 3 1 (fs.getD i undef) (ls.getD i []).length xs) := fun i hi => by
        by_cases e : i = k
        · subst e
          exact ⟨_, by rw [hfk.out, ← HX.out]; exact own2⟩
        · obtain ⟨ys, oi⟩ := RR.out i hi
          refine ⟨ys, oi.kept hg2 ?_⟩
          cases hb : (fs.getD i undef).ownBlock with
          | none => exact .inl rfl
          | some j =>
            refine .inr (fun e2 => ?_)
            have e3 : (fs.getD k undef).ownBlock = some j := by rw [hfk.out, ← HX.out]; exact e2.symm
            rcases Nat.lt_or_ge i k with h1 | h1
            · exact hh.out.apart i k h1 hlt j hb e3
            · exact hh.out.apart k i (by omega) hi j e3 hb
      have R3 : Hid (∀ i, i < k + 1 → w2.ownsRow base 3 1 (fs.getD i undef) (ls.getD i []).length ((mkAt ls i).map (.int .i64))) := fun i hi => by
        by_cases e : i = k
        · subst e
          rw [mkAt_map, ← HZK.out, hfk.out, ← HX.out]
          exact own2
        · have oi := R0.out i (by omega)
          refine oi.kept hg2 ?_
          cases hb : (fs.getD i undef).ownBlock with
          | none => exact .inl rfl
          | some j =>
            refine .inr (fun e2 => ?_)
            have e3 : (fs.getD k undef).ownBlock = some j := by rw [hfk.out, ← HX.out]; exact e2.symm
            exact hh.out.apart i k (by omega) hlt j hb e3
      have HZ3 : Hid (z + x1 = stAt ls (k + 1)) := by show _ = _; unfold stAt; rw [← HZK.out, HX.out]
      clear R0
      have hz2 : z + x1 ≤ 1 + (k + 1) * 1048576 := by have := hz'.out; rw [Nat.succ_mul]; omega
      have HZ2 := Lib.hid hz2
      clear MM own2 hg2 hz2 RR hS O
      go_wp2_with fail
      exact ⟨⟨k + 1, z + x1, by omega, by go_num, by go_num, HZ3.out, O2, R3.out, R2.out⟩, by simp [intOf]; omega⟩
    · obtain rfl : k = ls.length := by omega
      have top2 := O.own h.top (fun j hj hs => by
        obtain ⟨i, hi, e⟩ := hs
        exact h.off i hi j e hj)
      have W : OwnSS wr base tt 3 (.slice a ls.length cap) (mksL ls) (mksL ls).length fs := ⟨by rw [mksL_len]; exact top2, fun i hi => by
        rw [mksL_len] at hi
        rw [mksL_getD hi, mkAt_len]
        exact R0.out i hi, fun i j hij hj => h.apart i j hij (by rw [← mksL_len]; exact hj), fun i hi => h.off i (by rw [← mksL_len]; exact hi), fun i hi hi2 => absurd hi2 (by omega)⟩
      have HW := Lib.hid W
      have hz3 := HZK.out
      subst hz3
      clear R h hr R0 HZK top2 W
      go_wp2_with fail
      go_ret
      exact ⟨rfl, O, HW.out⟩
set_option maxHeartbeats 2000000 in
theorem heldIntSS_any (v : Value) (ls : List (List Int)) (w : World) (h : IntSS w v (mksL ls)) (hn : ls.length ≤ 1048576) (hm : ∀ i, i < ls.length → (ls.getD i []).length ≤ 1048576) :
    Calls Try.prog 60 #[v, .int .i64 1] w fun e w' => e = .returned (.int .i64 (stAt ls ls.length : Int)) ∧ w = w' := by
  obtain ⟨a, cap, F, rfl, hr, hF⟩ := h
  rw [mksL_len] at hr hF ⊢
  have HM := Lib.hid hm
  have HF := Lib.hid hF
  clear hm hF
  go_enter Try.func60, Try.ntmps60
  go_wp2
  go_loopw [5, 1] (fun i q wr => ∃ (k z : Nat), k ≤ ls.length ∧ i = .int .i64 k ∧ q = .int .i64 (z : Int) ∧ Hid (z = stAt ls k) ∧ wr = w) (fun i _ _ => ls.length - (intOf i).toNat)
  case atStart => exact ⟨0, 1, Nat.zero_le _, rfl, rfl, rfl, rfl⟩
  case round =>
    obtain ⟨k, z, hk, rfl, rfl, HZK, rfl⟩ := hrel
    have hz : z ≤ 1 + k * 1048576 := by rw [HZK.out]; exact stAt_le HM.out k hk
    have hzk : k * 1048576 ≤ 1099511627776 := by omega
    have hzb : z ≤ 1099511627777 := by omega
    clear hz hzk
    by_cases hlt : k < ls.length
    · obtain ⟨r1, r2, r3⟩ := hr
      rcases r3 with r3 | ⟨b, off, rfl, r4, r5⟩
      · omega
      have r6 : wr.cell? ⟨b, off + k, none⟩ = some (F k) := r5 k hlt
      have I1 := HF.out k hlt
      rw [mksL_getD hlt] at I1
      obtain ⟨a1, c1, e1, _⟩ := I1
      have I1 := HF.out k hlt
      rw [mksL_getD hlt] at I1
      rw [e1] at r6 I1
      have hmk := HM.out k hlt
      have e2 := mkAt_len ls k
      unfold mkAt at I1
      rw [← HZK.out] at I1
      have C := heldIntS_any _ (ls.getD k []).length z _ I1 (by omega)
      rw [e2] at r6
      rw [List.length_map, List.length_range] at C
      have HX : Hid (z + (ls.getD k []).length = stAt ls (k + 1)) := by show _ = _; unfold stAt; rw [← HZK.out]
      clear r5 e1 e2 I1
      generalize (ls.getD k []).length = x at *
      have CC := Lib.hid C
      clear C
      have hk1 : (k : Int) < (ls.length : Int) := by omega
      have hng : ¬ ((z : Int) + (x : Int)) < 0 := by omega
      have hng2 : ¬ ((z + x : Nat) : Int) < 0 := by omega
      go_wp2_with fail
      refine CC.out.mono ?_; rintro e w2 ⟨rfl, rfl⟩
      go_wp2_with fail
      exact ⟨⟨k + 1, z + x, by omega, by go_num, by go_num, HX.out, trivial⟩, by simp [intOf]; omega⟩
    · obtain rfl : k = ls.length := by omega
      have hz3 := HZK.out
      subst hz3
      clear hr HF HZK
      go_wp2_with fail
      go_ret
      exact ⟨rfl, rfl⟩
theorem markCnf_any (m : Int) (v : Value) (ls : List (List Int)) (fs : List Value) (base : Nat) (tt : TypeId) (w : World) (h : OwnSS w base tt 3 v ls ls.length fs) (hn : ls.length ≤ 1048576) (hm : ∀ i, i < ls.length → (ls.getD i []).length ≤ 1048576) :
    Calls Try.prog 33 #[.agg #[.int .i64 m, v], .int .i64 1] w fun e w' => e = .returned (.int .i64 (stAt ls ls.length : Int)) ∧ Only (rowOf fs ls.length) w w' ∧ OwnSS w' base tt 3 v (mksL ls) (mksL ls).length fs := by
  have hb := below_self_alloc w (.cells #[.int .i64 m, v] 54)
  have C := Lib.hid (markIntSS_any v ls fs base tt _ (h.below hb) hn hm)
  generalize stAt ls ls.length = q at *
  obtain ⟨a, cap, e0, _⟩ := Row.of_own h.top
  subst e0
  clear h hm
  go_enter Try.func33, Try.ntmps33
  go_wp2_with fail
  refine C.out.mono ?_; rintro e w1 ⟨rfl, O, W⟩
  have HW := Lib.hid W
  clear W
  have O2 : Hid (Only (rowOf fs ls.length) w w1) := ⟨O.os, O.tape, O.output, by have := O.size; simp at this; omega, fun k hk hs => (O.block k (by simp; omega) hs).trans (hb.block k hk)⟩
  clear C O
  go_wp2_with fail
  go_ret
  exact ⟨rfl, O2.out, HW.out⟩
theorem heldCnf_any (m : Int) (v : Value) (ls : List (List Int)) (w : World) (h : IntSS w v (mksL ls)) (hn : ls.length ≤ 1048576) (hm : ∀ i, i < ls.length → (ls.getD i []).length ≤ 1048576) :
    Calls Try.prog 34 #[.agg #[.int .i64 m, v], .int .i64 1] w fun e w' => e = .returned (.int .i64 (stAt ls ls.length : Int)) ∧ Below w.heap.size w w' := by
  have hb := below_self_alloc w (.cells #[.int .i64 m, v] 54)
  have C := Lib.hid (heldIntSS_any v ls _ (h.below hb) hn hm)
  obtain ⟨a, cap, F, rfl, _⟩ := h
  clear hm
  have hq := stAt ls ls.length
  generalize stAt ls ls.length = q at *
  have hq0 : ¬ (q : Int) < 0 := by omega
  go_enter Try.func34, Try.ntmps34
  go_wp2_with fail
  refine C.out.mono ?_; rintro e w1 ⟨rfl, rfl⟩
  clear C
  go_wp2_with fail
  go_ret
  exact ⟨rfl, hb⟩
end Go.Proofs.Yteeaafdgkepaeaa
