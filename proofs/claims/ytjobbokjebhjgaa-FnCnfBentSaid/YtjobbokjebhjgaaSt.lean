/- The statements' own copies, sizes and comparisons of slices of slices of ints and of formulas. The conditions stand in each statement. -/
import Derived.Test.YtjobbokjebhjgaaSs
import Derived.StillTailTactics
namespace Go.Proofs.Ytjobbokjebhjgaa
open Go.RowKit

theorem infoInts : (Try.prog.info? 22).map (fun i => (i.zero, i.size, i.bytes)) = some (some (.slice none 0 0), 1, 24) := by kernel_rfl

theorem szIntS_any (v : Value) (l : List Int) (left : Int) (w : World) (h : Ints w v l) (h0 : 0 ≤ left) (h1 : left ≤ 1048576) :
    Calls Try.prog 62 #[v, .int .i64 left] w fun e w' => e = .returned (.int .i64 (if left < l.length then -1 else left - l.length)) ∧ w = w' := by
  have hl := h.len
  obtain ⟨a, cap, rfl, _⟩ := h
  by_cases hc : left < (l.length : Int)
  · rw [if_pos hc]
    go_enter Try.func62, Try.ntmps62
    go_wp2
    go_ret
    exact ⟨rfl, rfl⟩
  · rw [if_neg hc]
    go_enter Try.func62, Try.ntmps62
    go_wp2
    go_ret
    exact ⟨rfl, rfl⟩

set_option maxHeartbeats 1000000 in
theorem szIntSS_any (v : Value) (ls : List (List Int)) (left : Int) (w : World) (h : IntSS w v ls) (h0 : 0 ≤ left) (h1 : left ≤ 1048576) :
    Calls Try.prog 53 #[v, .int .i64 left] w (DrewRet (.int .i64 (szSS left ls)) w) := by
  have hl := h.len
  obtain ⟨a, cap, F, rfl, ⟨r1, r2, r3⟩, hF⟩ := h
  unfold szSS
  by_cases hc : left < (ls.length : Int)
  · rw [if_pos hc]
    go_enter Try.func53, Try.ntmps53
    go_wp2
    go_ret
    exact ⟨rfl, 0, rfl⟩
  · rw [if_neg hc]
    have Z : Hid (szLeft (left - ls.length) ls = szLeft (left - ls.length) (ls.drop 0)) := rfl
    generalize hz : szLeft (left - ls.length) ls = z at *
    clear hz
    go_enter Try.func53, Try.ntmps53
    go_wp2
    go_loopw [5, 1] (fun i q wr => ∃ (k : Nat) (L : Int), k ≤ ls.length ∧ i = .int .i64 k ∧ q = .int .i64 L ∧ 0 ≤ L ∧ L ≤ 1048576 ∧ Hid (z = szLeft L (ls.drop k)) ∧ ∃ m, wr = w.drewN m) (fun i _ _ => ls.length - (intOf i).toNat)
    case atStart => exact ⟨0, _, Nat.zero_le _, rfl, rfl, by omega, by omega, Z.out, 0, rfl⟩
    case round =>
      obtain ⟨k, L, hk, rfl, rfl, l0, l1, hz, m, rfl⟩ := hrel
      clear Z
      by_cases hlt : k < ls.length
      · rcases r3 with r3 | ⟨b, off, rfl, r4, r5⟩
        · omega
        obtain ⟨a1, c1, e1, R1⟩ := hF k hlt
        have r6 : w.cell? ⟨b, off + k, none⟩ = some (F k) := r5 k hlt
        have I1 : Ints w (F k) (ls.getD k []) := ⟨a1, c1, e1, R1⟩
        rw [e1] at r6 I1
        have hz2 := hz.out
        rw [drop_at [] hlt] at hz2
        clear hF r5 hz R1 e1
        generalize ls.getD k [] = x at *
        have hk0 : (0 : Int) ≤ (k : Int) := by omega
        have hk1 : (k : Int) < (ls.length : Int) := by omega
        unfold szLeft at hz2
        by_cases hx : L < (x.length : Int)
        · rw [if_pos hx] at hz2
          subst hz2
          go_wp2_with fail
          refine (szIntS_any _ x L _ (by exact I1) l0 l1).mono ?_; rintro e w1 ⟨rfl, rfl⟩
          rw [if_pos hx]
          go_wp2_with fail
          go_ret
          exact ⟨rfl, _, rfl⟩
        · rw [if_neg hx] at hz2
          have H := Lib.hid hz2
          clear hz2
          go_wp2_with fail
          refine (szIntS_any _ x L _ (by exact I1) l0 l1).mono ?_; rintro e w1 ⟨rfl, rfl⟩
          rw [if_neg (show ¬ L < (x.length : Int) by omega)]
          go_wp2_with fail
          exact ⟨⟨k + 1, _, by omega, by go_num, rfl, by omega, by omega, H, _, rfl⟩, by simp [intOf]; omega⟩
      · obtain rfl : k = ls.length := by omega
        have hz2 := hz.out
        rw [drop_end] at hz2
        unfold szLeft at hz2
        subst hz2
        clear hF hz
        go_wp2_with fail
        go_ret
        exact ⟨rfl, _, rfl⟩

def NewSS (ls : List (List Int)) (w : World) (e : Ending) (w' : World) : Prop := ∃ v fs, e = .returned v ∧ OwnSS w' w.heap.size 22 3 v ls ls.length fs ∧ Below w.heap.size w w'

set_option maxRecDepth 100000 in
set_option maxHeartbeats 2000000 in
theorem toIntSS_any (v : Value) (ls : List (List Int)) (w : World) (h : IntSS w v ls) (hn : ls.length ≤ 1048576) (hm : ∀ i, i < ls.length → (ls.getD i []).length ≤ 1048576) :
    Calls Try.prog 55 #[v] w (NewSS ls w) := by
  obtain ⟨a, cap, F, rfl, hr, hF⟩ := h
  obtain ⟨i0, hi, hz0, hz1, hz2⟩ := info_parts infoInts
  go_enter Try.func55, Try.ntmps55
  go_wp2_with (refine wpList_make_full _ rfl _ _ 33 rfl w.heap.size 22 i0 (.slice none 0 0) 1 Try.underlying33 hi hz0 hz1 .i64 .i64 ls.length ls.length ls.length (by rfl) (by rfl) rfl rfl (by rw [hz2]; omega) (by unfold maxLen; omega) (Nat.le_refl _) ?_; intro w1 hown hg)
  have hown0 : OwnSS w1 w.heap.size 22 3 _ ls 0 _ := own_start hown
  have B1 := below_grows (Below.refl w.heap.size w) hg (by simp)
  clear hown hg
  go_loopw [4] (fun i wr => ∃ (k : Nat) (fs : List Value), k ≤ ls.length ∧ i = .int .i64 k ∧ OwnSS wr w.heap.size 22 3 (.slice (some ⟨w.heap.size, 0, none⟩) ls.length ls.length) ls k fs ∧ Below w.heap.size w wr) (fun i _ => ls.length - (intOf i).toNat)
  case atStart => exact ⟨0, _, Nat.zero_le _, rfl, hown0, B1⟩
  case round =>
    obtain ⟨k, fs, hk, rfl, hown, B⟩ := hrel
    clear hown0 B1
    by_cases hlt : k < ls.length
    · have I1 : Ints wr (F k) (ls.getD k []) := (hF k hlt).below B
      obtain ⟨r1, r2, r3⟩ := hr.below B
      rcases r3 with r3 | ⟨b, off, rfl, r4, r5⟩
      · omega
      have r6 : wr.cell? ⟨b, off + k, none⟩ = some (F k) := r5 k hlt
      obtain ⟨a1, c1, e1, R1⟩ := hF k hlt
      rw [e1] at r6 I1
      have hmk := hm k hlt
      obtain ⟨n1, hn1⟩ : ∃ n, n = (ls.getD k []).length := ⟨_, rfl⟩
      rw [← hn1] at r6 I1 hmk
      have HN := Lib.hid hn1
      clear hn1
      clear r5 R1 e1
      go_wp2_with fail
      refine (toIntS_any _ (ls.getD k []) _ I1 (by rw [← HN.out]; exact hmk)).mono ?_; rintro e w1 ⟨v1, rfl, o1, b1⟩
      obtain ⟨s1, s2, s3⟩ := hown.step hlt b1 o1 B.size
      have B2 : Below w.heap.size w (w1.setCell ⟨w.heap.size, k, none⟩ v1) := (B.trans (b1.mono B.size)).setCell (p := ⟨w.heap.size, k, none⟩) (Nat.le_refl _) v1
      obtain ⟨a2, c2, e2, _⟩ := Row.of_own o1
      rw [← HN.out] at e2
      subst e2
      have S3 := Lib.hid s3
      clear s3 o1 hown I1 hF hr hm HN hmk
      go_wp2_with fail
      exact ⟨⟨k + 1, _, by omega, by go_num, S3.out, B2⟩, by simp [intOf]; omega⟩
    · have hk2 : k = ls.length := by omega
      subst hk2
      go_wp2
      go_ret
      exact ⟨_, _, rfl, hown, B⟩

set_option maxHeartbeats 2000000 in
theorem eqIntSS_any (v v' : Value) (l l' : List (List Int)) (w : World) (h : IntSS w v l) (h' : IntSS w v' l') :
    Calls Try.prog 57 #[v, v'] w (DrewRet (.bool (decide (l = l'))) w) := by
  have hl := h.len
  have hl' := h'.len
  obtain ⟨a, cap, F, rfl, hr, hF⟩ := h
  obtain ⟨a', cap', F', rfl, hr', hF'⟩ := h'
  by_cases hn : l.length = l'.length
  · obtain ⟨r1, r2, r3⟩ := hr
    obtain ⟨r1', r2', r3'⟩ := hr'
    rw [← hn] at r1' r3' hF'
    have D : Hid (∀ i, i < l.length → (l.getD i [] ≠ l'.getD i [] → decide (l = l') = false)) := fun i _ h => by simpa using list_ne_at [] h
    have E : Hid ((∀ i, i < l.length → l.getD i [] = l'.getD i []) → decide (l = l') = true) := fun h => by simpa using list_eq_of [] hn h
    rw [← hn]
    generalize decide (l = l') = z at *
    clear hn hl'
    go_enter Try.func57, Try.ntmps57
    go_wp2
    go_loopw [5] (fun i wr => ∃ k : Nat, k ≤ l.length ∧ i = .int .i64 k ∧ Hid (∀ i, i < k → l.getD i [] = l'.getD i []) ∧ ∃ m, wr = w.drewN m) (fun i _ => l.length - (intOf i).toNat)
    case atStart => exact ⟨0, Nat.zero_le _, rfl, fun i hi => absurd hi (by omega), 0, rfl⟩
    case round =>
      obtain ⟨k, hk, rfl, hsame, m, rfl⟩ := hrel
      by_cases hlt : k < l.length
      · rcases r3 with r3 | ⟨b, off, rfl, r4, r5⟩
        · omega
        rcases r3' with r3' | ⟨b', off', rfl, r4', r5'⟩
        · omega
        obtain ⟨a1, c1, e1, R1⟩ := hF k hlt
        obtain ⟨a1', c1', e1', R1'⟩ := hF' k hlt
        have I1 : Ints w (F k) (l.getD k []) := ⟨a1, c1, e1, R1⟩
        have I1' : Ints w (F' k) (l'.getD k []) := ⟨a1', c1', e1', R1'⟩
        have r6 : w.cell? ⟨b, off + k, none⟩ = some (F k) := r5 k hlt
        have r6' : w.cell? ⟨b', off' + k, none⟩ = some (F' k) := r5' k hlt
        rw [e1] at r6 I1
        rw [e1'] at r6' I1'
        have S : Hid (l.getD k [] = l'.getD k [] → ∀ i, i < k + 1 → l.getD i [] = l'.getD i []) := fun h i hi => by
          rcases Nat.lt_or_ge i k with h1 | h1
          · exact hsame.out i h1
          · rw [show i = k by omega]; exact h
        have D2 : Hid (l.getD k [] ≠ l'.getD k [] → z = false) := D.out k hlt
        have C1 : ∀ n, Calls Try.prog 18 #[.slice a1 (l.getD k []).length c1, .slice a1' (l'.getD k []).length c1'] (w.drewN n) (DrewRet (.bool (decide (l.getD k [] = l'.getD k []))) (w.drewN n)) := fun n => eqIntS_any _ _ _ _ _ I1 I1'
        clear r5 r5' hsame D E e1 e1' hF hF' R1 R1' I1 I1'
        generalize l.getD k [] = x at *
        generalize l'.getD k [] = y at *
        have hk0 : (0 : Int) ≤ (k : Int) := by omega
        have hk1 : (k : Int) < (l.length : Int) := by omega
        by_cases hxy : x = y
        · rw [decide_eq_true hxy] at C1
          have S2 : Hid (∀ i, i < k + 1 → l.getD i [] = l'.getD i []) := S.out hxy
          have C := Lib.hid C1
          clear S D2 C1 hxy
          go_wp2_with fail
          go_quiet ((go_at_call 18; exact drewRet_at C.out _ _))
          go_wp2_with fail
          exact ⟨⟨k + 1, by omega, by go_num, S2, _, rfl⟩, by simp [intOf]; omega⟩
        · have hz := D2.out hxy
          subst hz
          rw [decide_eq_false hxy] at C1
          have C := Lib.hid C1
          clear S D2 C1 hxy
          go_wp2_with fail
          go_quiet ((go_at_call 18; exact drewRet_at C.out _ _))
          rename_i nq
          go_wp2_with fail
          go_ret
          exact ⟨rfl, m + nq, by simp [World.drewN, Nat.add_assoc]⟩
      · obtain rfl : k = l.length := by omega
        have hz := E.out hsame.out
        subst hz
        clear D E hsame hF hF'
        go_wp2_with fail
        go_ret
        exact ⟨rfl, _, rfl⟩
  · have hz : decide (l = l') = false := by simpa using fun e => hn (by rw [e])
    rw [hz]
    have hn' : ((l.length : Int) != (l'.length : Int)) = true := by simp; omega
    clear hr hr' hz hF hF'
    go_enter Try.func57, Try.ntmps57
    go_wp2
    go_ret
    exact ⟨rfl, 0, rfl⟩
end Go.Proofs.Ytjobbokjebhjgaa
