/- Rows of elements of several cells: what they read as, and rows that a call makes and fills. The conditions stand in each statement. -/
import Derived.Test.YteeaafdgkepaeaaSa
namespace Go.Proofs.Yteeaafdgkepaeaa
open Go.RowKit

/-- the slice (a, n, cap) has n elements of s cells; cell j of the i-th holds f i j -/
def RowS (w : World) (a : Option Addr) (n cap s : Nat) (f : Nat → Nat → Value) : Prop :=
  n ≤ cap ∧ cap ≤ maxLen ∧ (n = 0 ∨ ∃ b off, a = some ⟨b, off, none⟩ ∧ b < w.heap.size ∧ ∀ i, i < n → ∀ j, j < s → w.cell? ⟨b, off + i * s + j, none⟩ = some (f i j))
theorem RowS.below {w w' : World} {a : Option Addr} {n cap s : Nat} {f : Nat → Nat → Value} (h : RowS w a n cap s f) (hb : Below w.heap.size w w') : RowS w' a n cap s f := by
  obtain ⟨h1, h2, h3⟩ := h
  refine ⟨h1, h2, ?_⟩
  rcases h3 with h3 | ⟨b, off, ha, hl, hc⟩
  · exact .inl h3
  · exact .inr ⟨b, off, ha, Nat.lt_of_lt_of_le hl hb.size, fun i hi j hj => (hb.cell (p := ⟨b, off + i * s + j, none⟩) hl).trans (hc i hi j hj)⟩
theorem RowS.congr {w : World} {a : Option Addr} {n cap s : Nat} {f g : Nat → Nat → Value} (h : RowS w a n cap s f) (hfg : ∀ i, i < n → ∀ j, j < s → f i j = g i j) : RowS w a n cap s g := by
  obtain ⟨h1, h2, h3⟩ := h
  refine ⟨h1, h2, ?_⟩
  rcases h3 with h3 | ⟨b, off, ha, hl, hc⟩
  · exact .inl h3
  · exact .inr ⟨b, off, ha, hl, fun i hi j hj => by rw [hc i hi j hj, hfg i hi j hj]⟩

/-- the cells of n elements, of which k are filled -/
def fillS (f : Nat → Nat → Value) (z : Nat → Value) (n s k : Nat) : List Value := (List.range (n * s)).map fun q => if q < k * s then f (q / s) (q % s) else z (q % s)
theorem fillS_len (f : Nat → Nat → Value) (z : Nat → Value) (n s k : Nat) : (fillS f z n s k).length = n * s := by simp [fillS]
theorem fillS_get (f : Nat → Nat → Value) (z : Nat → Value) (n s k : Nat) {q : Nat} (h : q < n * s) : (fillS f z n s k)[q]? = some (if q < k * s then f (q / s) (q % s) else z (q % s)) := by
  simp [fillS, h]
theorem fillS_zero (f : Nat → Nat → Value) (z : Nat → Value) (n s : Nat) (zs : Array Value) (hs : zs.size = s) (hs0 : 0 < s) (hz : ∀ j, j < s → zs[j]? = some (z j)) : (madeCells zs (n * s)).toList = fillS f z n s 0 := by
  subst hs
  apply List.ext_getElem?
  intro q
  by_cases hq : q < n * zs.size
  · rw [fillS_get _ _ _ _ _ hq]
    have hm := Nat.mod_lt q hs0
    have := hz _ hm
    simp [madeCells, hq]
    rw [Array.getElem?_eq_getElem hm] at this
    simpa [Array.getElem!_eq_getD, Array.getD, hm] using this
  · rw [List.getElem?_eq_none (by simp [madeCells]; omega), List.getElem?_eq_none (by rw [fillS_len]; omega)]
theorem RowS.of_own {w : World} {base n s : Nat} {e : TypeId} {v : Value} {f : Nat → Nat → Value} {z : Nat → Value} (hs : 0 < s) (h : w.ownsRow base e s v n (fillS f z n s n)) : ∃ a cap, v = .slice a n cap ∧ RowS w a n cap s f := by
  obtain ⟨hl, h⟩ := h
  rcases h with ⟨rfl, rfl⟩ | ⟨g, cap, cur, rfl, hb, hh, hn, hm, hs2, ht⟩
  · exact ⟨none, 0, rfl, Nat.le_refl _, Nat.zero_le _, .inl rfl⟩
  · refine ⟨_, cap, rfl, hn, hm, .inr ⟨g, 0, rfl, (Array.getElem?_eq_some_iff.1 hh).1, fun i hi j hj => ?_⟩⟩
    have hq : i * s + j < n * s := by
      have : (i + 1) * s ≤ n * s := Nat.mul_le_mul_right s hi
      rw [Nat.succ_mul] at this; omega
    have := World.ownsRow.cellAt (w := w) (g := g) (n := n) (cap := cap) ⟨hl, .inr ⟨g, cap, cur, rfl, hb, hh, hn, hm, hs2, ht⟩⟩ (i * s + j) hq
    rw [Nat.zero_add, this, fillS_get _ _ _ _ _ hq, if_pos hq]
    rw [show (i * s + j) / s = i by rw [Nat.mul_comm, Nat.mul_add_div hs, Nat.div_eq_of_lt hj]; rfl, show (i * s + j) % s = j by rw [Nat.mul_comm, Nat.mul_add_mod, Nat.mod_eq_of_lt hj]]

theorem fillS_set3 (f : Nat → Nat → Value) (z : Nat → Value) (n k : Nat) :
    (((fillS f z n 3 k).set (k * 3) (f k 0)).set (k * 3 + 1) (f k 1)).set (k * 3 + 2) (f k 2) = fillS f z n 3 (k + 1) := by
  apply List.ext_getElem (by simp [fillS])
  intro q h1 h2
  simp only [List.getElem_set]
  simp only [fillS, List.getElem_map, List.getElem_range]
  by_cases e2 : k * 3 + 2 = q
  · rw [if_pos e2, if_pos (by omega), show q / 3 = k by omega, show q % 3 = 2 by omega]
  · rw [if_neg e2]
    by_cases e1 : k * 3 + 1 = q
    · rw [if_pos e1, if_pos (by omega), show q / 3 = k by omega, show q % 3 = 1 by omega]
    · rw [if_neg e1]
      by_cases e0 : k * 3 = q
      · rw [if_pos e0, if_pos (by omega), show q / 3 = k by omega, show q % 3 = 0 by omega]
      · rw [if_neg e0]
        by_cases e : q < k * 3
        · rw [if_pos e, if_pos (by omega)]
        · rw [if_neg e, if_neg (by omega)]
/-- three stores into the row that is being filled -/
theorem fillS_step3 {w : World} {base g n k : Nat} {e : TypeId} {f : Nat → Nat → Value} {z : Nat → Value} (h : w.ownsRow base e 3 (.slice (some ⟨g, 0, none⟩) n n) n (fillS f z n 3 k)) (hk : k < n) :
    (w.cell? ⟨g, k * 3, none⟩ = some (z 0) ∧ w.cell? ⟨g, k * 3 + 1, none⟩ = some (z 1) ∧ w.cell? ⟨g, k * 3 + 2, none⟩ = some (z 2)) ∧
    (w.frozen? ⟨g, k * 3, none⟩ = false ∧ w.frozen? ⟨g, k * 3 + 1, none⟩ = false ∧ w.frozen? ⟨g, k * 3 + 2, none⟩ = false) ∧
    (((w.setCell ⟨g, k * 3, none⟩ (f k 0)).setCell ⟨g, k * 3 + 1, none⟩ (f k 1)).setCell ⟨g, k * 3 + 2, none⟩ (f k 2)).ownsRow base e 3 (.slice (some ⟨g, 0, none⟩) n n) n (fillS f z n 3 (k + 1)) := by
  have c : ∀ j, j < 3 → w.cell? ⟨g, k * 3 + j, none⟩ = some (z j) := fun j hj => by
    rw [h.cellAt _ (by omega), fillS_get _ _ _ _ _ (by omega), if_neg (by omega), show (k * 3 + j) % 3 = j by omega]
  refine ⟨⟨c 0 (by omega), c 1 (by omega), c 2 (by omega)⟩, ⟨h.frozenAt _, h.frozenAt _, h.frozenAt _⟩, ?_⟩
  have := (((h.stored (k * 3) (f k 0)).1.stored (k * 3 + 1) (f k 1)).1.stored (k * 3 + 2) (f k 2)).1
  rw [fillS_set3] at this
  exact this
theorem fillS_set5 (f : Nat → Nat → Value) (z : Nat → Value) (n k : Nat) :
    (((((fillS f z n 5 k).set (k * 5) (f k 0)).set (k * 5 + 1) (f k 1)).set (k * 5 + 2) (f k 2)).set (k * 5 + 3) (f k 3)).set (k * 5 + 4) (f k 4) = fillS f z n 5 (k + 1) := by
  apply List.ext_getElem (by simp [fillS])
  intro q h1 h2
  simp only [List.getElem_set]
  simp only [fillS, List.getElem_map, List.getElem_range]
  by_cases e4 : k * 5 + 4 = q
  · rw [if_pos e4, if_pos (by omega), show q / 5 = k by omega, show q % 5 = 4 by omega]
  · rw [if_neg e4]
    by_cases e3 : k * 5 + 3 = q
    · rw [if_pos e3, if_pos (by omega), show q / 5 = k by omega, show q % 5 = 3 by omega]
    · rw [if_neg e3]
      by_cases e2 : k * 5 + 2 = q
      · rw [if_pos e2, if_pos (by omega), show q / 5 = k by omega, show q % 5 = 2 by omega]
      · rw [if_neg e2]
        by_cases e1 : k * 5 + 1 = q
        · rw [if_pos e1, if_pos (by omega), show q / 5 = k by omega, show q % 5 = 1 by omega]
        · rw [if_neg e1]
          by_cases e0 : k * 5 = q
          · rw [if_pos e0, if_pos (by omega), show q / 5 = k by omega, show q % 5 = 0 by omega]
          · rw [if_neg e0]
            by_cases e : q < k * 5
            · rw [if_pos e, if_pos (by omega)]
            · rw [if_neg e, if_neg (by omega)]
/-- five stores into the row that is being filled -/
theorem fillS_step5 {w : World} {base g n k : Nat} {e : TypeId} {f : Nat → Nat → Value} {z : Nat → Value} (h : w.ownsRow base e 5 (.slice (some ⟨g, 0, none⟩) n n) n (fillS f z n 5 k)) (hk : k < n) :
    (∀ j, j < 5 → w.cell? ⟨g, k * 5 + j, none⟩ = some (z j) ∧ w.frozen? ⟨g, k * 5 + j, none⟩ = false) ∧
    (((((w.setCell ⟨g, k * 5, none⟩ (f k 0)).setCell ⟨g, k * 5 + 1, none⟩ (f k 1)).setCell ⟨g, k * 5 + 2, none⟩ (f k 2)).setCell ⟨g, k * 5 + 3, none⟩ (f k 3)).setCell ⟨g, k * 5 + 4, none⟩ (f k 4)).ownsRow base e 5 (.slice (some ⟨g, 0, none⟩) n n) n (fillS f z n 5 (k + 1)) := by
  have c : ∀ j, j < 5 → w.cell? ⟨g, k * 5 + j, none⟩ = some (z j) := fun j hj => by
    rw [h.cellAt _ (by omega), fillS_get _ _ _ _ _ (by omega), if_neg (by omega), show (k * 5 + j) % 5 = j by omega]
  refine ⟨fun j hj => ⟨c j hj, h.frozenAt _⟩, ?_⟩
  have := (((((h.stored (k * 5) (f k 0)).1.stored (k * 5 + 1) (f k 1)).1.stored (k * 5 + 2) (f k 2)).1.stored (k * 5 + 3) (f k 3)).1.stored (k * 5 + 4) (f k 4)).1
  rw [fillS_set5] at this
  exact this
theorem fillS_congr {f g : Nat → Nat → Value} {z : Nat → Value} {n s k : Nat} (h : ∀ i, i < k → ∀ j, f i j = g i j) : fillS f z n s k = fillS g z n s k := by
  unfold fillS
  refine List.map_congr_left fun q _ => ?_
  by_cases hq : q < k * s
  · rw [if_pos hq, if_pos hq, h (q / s) (Nat.div_lt_of_lt_mul (by rw [Nat.mul_comm]; exact hq))]
  · rw [if_neg hq, if_neg hq]
theorem own_keep1 {w w' : World} {base size n : Nat} {e : TypeId} {v : Value} {xs : List Value} (h : w.ownsRow base e size v n xs) (hb : Below w.heap.size w w') : w'.ownsRow base e size v n xs :=
  h.kept (row := none) ⟨hb.os, hb.tape, hb.output, hb.size, fun k hk _ => hb.block k hk⟩ (by cases hv : v.ownBlock <;> simp)
end Go.Proofs.Yteeaafdgkepaeaa
