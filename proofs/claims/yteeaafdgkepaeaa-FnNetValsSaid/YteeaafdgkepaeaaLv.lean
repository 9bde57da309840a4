/- The reference's l4Vals: the k-th list of truth values. The conditions stand in each statement. -/
import Derived.Test.YteeaafdgkepaeaaSb
namespace Go.Proofs.Yteeaafdgkepaeaa
open Go.RowKit

/-- a row of n cells that is filled from j on -/
def fillFrom (z : Value) (f : Nat → Value) (n j : Nat) : List Value := (List.range n).map fun i => if j ≤ i then f i else z
theorem fillFrom_len (z : Value) (f : Nat → Value) (n j : Nat) : (fillFrom z f n j).length = n := by simp [fillFrom]
theorem fillFrom_none (z : Value) (f : Nat → Value) (n : Nat) : fillFrom z f n n = List.replicate n z := by
  apply List.ext_getElem (by simp [fillFrom])
  intro i h1 h2
  have : ¬ n ≤ i := by simp at h2; omega
  simp [fillFrom, this]
theorem fillFrom_all (z : Value) (f : Nat → Value) (n : Nat) : fillFrom z f n 0 = (List.range n).map f := by
  unfold fillFrom
  exact List.map_congr_left fun i _ => by rw [if_pos (Nat.zero_le _)]
theorem fillFrom_set (z : Value) (f : Nat → Value) (n j : Nat) : (fillFrom z f n (j + 1)).set j (f j) = fillFrom z f n j := by
  apply List.ext_getElem (by simp [fillFrom])
  intro i h1 h2
  rw [List.getElem_set]
  simp only [fillFrom, List.getElem_map, List.getElem_range]
  by_cases h : j = i
  · subst h; simp
  · rw [if_neg h]
    by_cases h3 : j + 1 ≤ i
    · rw [if_pos h3, if_pos (by omega)]
    · rw [if_neg h3, if_neg (by omega)]
theorem own_madeFrom {w : World} {base n : Nat} {e : TypeId} {v z : Value} (f : Nat → Value) (h : w.ownsRow base e 1 v n (madeCells z.cells (n * 1)).toList) (hz : z.cells = #[z]) : w.ownsRow base e 1 v n (fillFrom z f n n) := by
  rw [fillFrom_none, ← made_one, ← hz]; exact h
theorem fillFrom_step {w : World} {base g n k : Nat} {e : TypeId} {z : Value} {f : Nat → Value} (h : w.ownsRow base e 1 (.slice (some ⟨g, 0, none⟩) n n) n (fillFrom z f n (k + 1))) (hk : k < n) :
    w.cell? ⟨g, k, none⟩ = some z ∧ w.frozen? ⟨g, k, none⟩ = false ∧ (w.setCell ⟨g, k, none⟩ (f k)).ownsRow base e 1 (.slice (some ⟨g, 0, none⟩) n n) n (fillFrom z f n k) ∧ w.grownBy (w.setCell ⟨g, k, none⟩ (f k)) (some g) := by
  obtain ⟨s1, s2⟩ := h.stored k (f k)
  refine ⟨?_, h.frozenAt k, by rw [← fillFrom_set]; exact s1, s2⟩
  rw [h.cellAt k (by omega), List.getElem?_eq_getElem (by rw [fillFrom_len]; exact hk)]
  have : ¬ k + 1 ≤ k := by omega
  simp [fillFrom, this]

/-- the bits of k, n of them, the highest first -/
def bitAt (n k i : Nat) : Bool := decide (k / 2 ^ (n - 1 - i) % 2 = 1)
def l4v (n k : Nat) : List Bool := (List.range n).map (bitAt n k)
theorem l4v_len (n k : Nat) : (l4v n k).length = n := by simp [l4v]

set_option maxRecDepth 100000 in
set_option maxHeartbeats 1000000 in
theorem l4Vals_any (n k : Nat) (w : World) (hn : n ≤ 1048576) (hk : k ≤ 9223372036854775807) :
    Calls Try.prog 42 #[.int .i64 n, .int .i64 k] w (NewRow 4 1 n ((l4v n k).map .bool) w) := by
  obtain ⟨i0, hi, hz0, hz1, hz2⟩ := info_parts infoBool
  go_enter Try.func42, Try.ntmps42
  go_wp2_with (refine wpList_make_full _ rfl _ _ 22 rfl w.heap.size 4 i0 (.bool false) 1 Try.underlying22 hi hz0 hz1 .i64 .i64 n n n (by rfl) (by rfl) rfl rfl (by rw [hz2]; omega) (by unfold maxLen; omega) (Nat.le_refl _) ?_; intro w1 hown hg)
  have hown0 := own_madeFrom (fun i => .bool (bitAt n k i)) hown rfl
  have B1 := below_grows (Below.refl w.heap.size w) hg (by simp)
  clear hown hg
  go_loopw [6, 1] (fun i q wr => ∃ j : Nat, j ≤ n ∧ i = .int .i64 ((j : Int) - 1) ∧ q = .int .i64 ((k / 2 ^ (n - j) : Nat) : Int) ∧ wr.ownsRow w.heap.size 4 1 (.slice (some ⟨w.heap.size, 0, none⟩) n n) n (fillFrom (.bool false) (fun i => .bool (bitAt n k i)) n j) ∧ Below w.heap.size w wr) (fun i _ _ => (intOf i + 1).toNat)
  case atStart => exact ⟨n, Nat.le_refl _, rfl, by simp, hown0, B1⟩
  case round =>
    obtain ⟨j, hj, rfl, rfl, hown, B⟩ := hrel
    clear hown0 B1
    have hq : k / 2 ^ (n - j) ≤ k := Nat.div_le_self _ _
    rcases j with _ | j
    · rw [fillFrom_all] at hown
      clear hq
      go_wp2
      go_ret
      refine ⟨_, rfl, ?_, B⟩
      have e : (l4v n k).map Value.bool = (List.range n).map (fun i => .bool (bitAt n k i)) := by simp [l4v]
      rw [e]; exact hown
    · obtain ⟨q1, q2, q3, q4⟩ := fillFrom_step hown (by omega)
      have eb : bitAt n k j = decide (((k / 2 ^ (n - (j + 1)) : Nat) : Int) % 2 = 1) := by
        unfold bitAt
        rw [show n - 1 - j = n - (j + 1) by omega]
        exact decide_eq_decide.2 (by omega)
      have ed : ((k / 2 ^ (n - (j + 1)) : Nat) : Int) / 2 = ((k / 2 ^ (n - j) : Nat) : Int) := by
        have : k / 2 ^ (n - j) = k / 2 ^ (n - (j + 1)) / 2 := by
          rw [Nat.div_div_eq_div_mul, ← Nat.pow_succ, show (n - (j + 1)).succ = n - j by omega]
        rw [this]; rfl
      have q5 : (wr.setCell ⟨w.heap.size, j, none⟩ (.bool (bitAt n k j))).ownsRow w.heap.size 4 1 (.slice (some ⟨w.heap.size, 0, none⟩) n n) n (fillFrom (.bool false) (fun i => .bool (bitAt n k i)) n j) := q3
      have B2 : Below w.heap.size w (wr.setCell ⟨w.heap.size, j, none⟩ (.bool (bitAt n k j))) := below_grows B q4 (by simp)
      rw [eb] at q5 B2
      have H3 := Lib.hid q5
      have ED := Lib.hid ed
      clear q3 q4 q5 hown eb ed
      generalize k / 2 ^ (n - (j + 1)) = x at *
      go_wp2
      exact ⟨⟨j, by omega, by go_num, by rw [ED.out], H3.out, B2⟩, by simp [intOf]⟩
end Go.Proofs.Yteeaafdgkepaeaa
