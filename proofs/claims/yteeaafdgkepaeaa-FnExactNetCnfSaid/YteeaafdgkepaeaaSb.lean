/- The statements' own copies and comparisons of slices of bools. The conditions stand in each statement. -/
import Derived.Test.YteeaafdgkepaeaaSa
import Derived.Test.YteeaafdgkepaeaaGa
import Derived.Deep.DeepCutAuto
namespace Go.Proofs.Yteeaafdgkepaeaa
open Go.RowKit

theorem infoBool : (Try.prog.info? 4).map (fun i => (i.zero, i.size, i.bytes)) = some (some (.bool false), 1, 1) := by kernel_rfl

set_option maxRecDepth 100000 in
set_option maxHeartbeats 1000000 in
theorem toBoolS_any (v : Value) (l : List Bool) (w : World) (h : Bools w v l) (hn : l.length ≤ 1048576) :
    Calls Try.prog 12 #[v] w (NewRow 4 1 l.length (l.map .bool) w) := by
  obtain ⟨a, cap, rfl, hr⟩ := h
  obtain ⟨i0, hi, hz0, hz1, hz2⟩ := info_parts infoBool
  go_enter Try.func12, Try.ntmps12
  go_wp2_with (refine wpList_make_full _ rfl _ _ 22 rfl w.heap.size 4 i0 (.bool false) 1 Try.underlying22 hi hz0 hz1 .i64 .i64 l.length l.length l.length (by rfl) (by rfl) rfl rfl (by rw [hz2]; omega) (by unfold maxLen; omega) (Nat.le_refl _) ?_; intro w1 hown hg)
  have hown0 := own_made (fun i => .bool (l.getD i false)) hown rfl
  have B1 := below_grows (Below.refl w.heap.size w) hg (by simp)
  clear hown hg
  go_loopw [4] (fun i wr => ∃ k : Nat, k ≤ l.length ∧ i = .int .i64 k ∧ wr.ownsRow w.heap.size 4 1 (.slice (some ⟨w.heap.size, 0, none⟩) l.length l.length) l.length (fillTo (.bool false) (fun i => .bool (l.getD i false)) l.length k) ∧ Below w.heap.size w wr) (fun i _ => l.length - (intOf i).toNat)
  case atStart => exact ⟨0, Nat.zero_le _, rfl, hown0, B1⟩
  case round =>
    obtain ⟨k, hk, rfl, hown, B⟩ := hrel
    clear hown0 B1
    by_cases hlt : k < l.length
    · obtain ⟨q1, q2, q3, q4⟩ := fill_step hown hlt
      obtain ⟨r1, r2, r3⟩ := hr.below B
      rcases r3 with r3 | ⟨b, off, rfl, r4, r5⟩
      · omega
      have r6 : wr.cell? ⟨b, off + k, none⟩ = some (.bool (l.getD k false)) := r5 k hlt
      have q5 : (wr.setCell ⟨w.heap.size, k, none⟩ (.bool (l.getD k false))).ownsRow w.heap.size 4 1 (.slice (some ⟨w.heap.size, 0, none⟩) l.length l.length) l.length (fillTo (.bool false) (fun i => .bool (l.getD i false)) l.length (k + 1)) := q3
      have B2 : Below w.heap.size w (wr.setCell ⟨w.heap.size, k, none⟩ (.bool (l.getD k false))) := below_grows B q4 (by simp)
      clear r5 q3 q4 hown hr
      generalize l.getD k false = x at r6 q5 B2
      have H3 := Lib.hid q5
      clear q5
      go_wp2
      exact ⟨⟨k + 1, by omega, by go_num, H3.out, B2⟩, by simp [intOf]; omega⟩
    · have hk2 : k = l.length := by omega
      subst hk2
      rw [fillTo_all, range_getD] at hown
      go_wp2
      go_ret
      exact ⟨_, rfl, hown, B⟩

set_option maxHeartbeats 2000000 in
theorem eqBoolS_any (v v' : Value) (l l' : List Bool) (w : World) (h : Bools w v l) (h' : Bools w v' l') :
    Calls Try.prog 14 #[v, v'] w (DrewRet (.bool (decide (l = l'))) w) := by
  have hl := h.len
  have hl' := h'.len
  obtain ⟨a, cap, rfl, hr⟩ := h
  obtain ⟨a', cap', rfl, hr'⟩ := h'
  by_cases hn : l.length = l'.length
  · obtain ⟨r1, r2, r3⟩ := hr
    obtain ⟨r1', r2', r3'⟩ := hr'
    rw [← hn] at r1' r3'
    have D : Hid (∀ i, i < l.length → (l.getD i false ≠ l'.getD i false → decide (l = l') = false)) := fun i _ h => by simpa using list_ne_at false h
    have E : Hid ((∀ i, i < l.length → l.getD i false = l'.getD i false) → decide (l = l') = true) := fun h => by simpa using list_eq_of false hn h
    rw [← hn]
    generalize decide (l = l') = z at *
    clear hn hl'
    go_enter Try.func14, Try.ntmps14
    go_wp2
    go_loopw [5] (fun i wr => ∃ k : Nat, k ≤ l.length ∧ i = .int .i64 k ∧ Hid (∀ i, i < k → l.getD i false = l'.getD i false) ∧ ∃ m, wr = w.drewN m) (fun i _ => l.length - (intOf i).toNat)
    case atStart => exact ⟨0, Nat.zero_le _, rfl, fun i hi => absurd hi (by omega), 0, rfl⟩
    case round =>
      obtain ⟨k, hk, rfl, hsame, m, rfl⟩ := hrel
      by_cases hlt : k < l.length
      · rcases r3 with r3 | ⟨b, off, rfl, r4, r5⟩
        · omega
        rcases r3' with r3' | ⟨b', off', rfl, r4', r5'⟩
        · omega
        have r6 : w.cell? ⟨b, off + k, none⟩ = some (.bool (l.getD k false)) := r5 k hlt
        have r6' : w.cell? ⟨b', off' + k, none⟩ = some (.bool (l'.getD k false)) := r5' k hlt
        have S : Hid (l.getD k false = l'.getD k false → ∀ i, i < k + 1 → l.getD i false = l'.getD i false) := fun h i hi => by
          rcases Nat.lt_or_ge i k with h1 | h1
          · exact hsame.out i h1
          · rw [show i = k by omega]; exact h
        have D2 : Hid (l.getD k false ≠ l'.getD k false → z = false) := D.out k hlt
        clear r5 r5' hsame D E
        generalize l.getD k false = x at *
        generalize l'.getD k false = y at *
        have hk0 : (0 : Int) ≤ (k : Int) := by omega
        have hk1 : (k : Int) < (l.length : Int) := by omega
        by_cases hxy : x = y
        · subst hxy
          have S2 : Hid (∀ i, i < k + 1 → l.getD i false = l'.getD i false) := S.out rfl
          clear S D2
          go_wp2_with fail
          go_quiet (fail)
          go_wp2_with fail
          exact ⟨⟨k + 1, by omega, by go_num, S2, _, rfl⟩, by simp [intOf]; omega⟩
        · have hz := D2.out hxy
          subst hz
          obtain rfl : x = !y := by cases x <;> cases y <;> simp_all
          clear S D2 hxy
          go_wp2_with fail
          go_quiet (fail)
          rename_i nq
          go_wp2_with fail
          go_ret
          exact ⟨rfl, m + nq, by simp [World.drewN, Nat.add_assoc]⟩
      · obtain rfl : k = l.length := by omega
        have hz := E.out hsame.out
        subst hz
        clear D E hsame
        go_wp2_with fail
        go_ret
        exact ⟨rfl, _, rfl⟩
  · have hz : decide (l = l') = false := by simpa using fun e => hn (by rw [e])
    rw [hz]
    have hn' : ((l.length : Int) != (l'.length : Int)) = true := by simp; omega
    clear hr hr' hz
    go_enter Try.func14, Try.ntmps14
    go_wp2
    go_ret
    exact ⟨rfl, 0, rfl⟩
end Go.Proofs.Yteeaafdgkepaeaa
