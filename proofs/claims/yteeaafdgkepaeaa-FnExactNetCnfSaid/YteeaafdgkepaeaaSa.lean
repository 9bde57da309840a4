/- Slices as lists: what a slice reads as, and rows that a call makes and fills. The conditions stand in each statement. -/
import Derived.Test.YteeaafdgkepaeaaGa
import Derived.OwnWalk
import Derived.Laws.OwnMore
import Derived.Deep.RegionHeld3
namespace Go.Proofs.Yteeaafdgkepaeaa
open Go.RowKit

/-- the slice (a, n, cap) has n elements of one cell, the i-th holds f i -/
def Row (w : World) (a : Option Addr) (n cap : Nat) (f : Nat → Value) : Prop :=
  n ≤ cap ∧ cap ≤ maxLen ∧ (n = 0 ∨ ∃ b off, a = some ⟨b, off, none⟩ ∧ b < w.heap.size ∧ ∀ i, i < n → w.cell? ⟨b, off + i, none⟩ = some (f i))
theorem Row.below {w w' : World} {a : Option Addr} {n cap : Nat} {f : Nat → Value} (h : Row w a n cap f) (hb : Below w.heap.size w w') : Row w' a n cap f := by
  obtain ⟨h1, h2, h3⟩ := h
  refine ⟨h1, h2, ?_⟩
  rcases h3 with h3 | ⟨b, off, ha, hl, hc⟩
  · exact .inl h3
  · exact .inr ⟨b, off, ha, Nat.lt_of_lt_of_le hl hb.size, fun i hi => (hb.cell (p := ⟨b, off + i, none⟩) hl).trans (hc i hi)⟩
theorem Row.grown {w w' : World} {a : Option Addr} {n cap g : Nat} {f : Nat → Value} (h : Row w a n cap f) (hg : w.grownBy w' (some g)) (hne : ∀ b off, a = some ⟨b, off, none⟩ → 1 ≤ n → b ≠ g) : Row w' a n cap f := by
  obtain ⟨h1, h2, h3⟩ := h
  refine ⟨h1, h2, ?_⟩
  rcases h3 with h3 | ⟨b, off, ha, hl, hc⟩
  · exact .inl h3
  · rcases Nat.eq_zero_or_pos n with hz | hz
    · exact .inl hz
    · exact .inr ⟨b, off, ha, Nat.lt_of_lt_of_le hl hg.size, fun i hi => hg.cell (hc i hi) (by simpa using hne b off ha hz)⟩
theorem Row.congr {w : World} {a : Option Addr} {n cap : Nat} {f g : Nat → Value} (h : Row w a n cap f) (hfg : ∀ i, i < n → f i = g i) : Row w a n cap g := by
  obtain ⟨h1, h2, h3⟩ := h
  refine ⟨h1, h2, ?_⟩
  rcases h3 with h3 | ⟨b, off, ha, hl, hc⟩
  · exact .inl h3
  · exact .inr ⟨b, off, ha, hl, fun i hi => by rw [hc i hi, hfg i hi]⟩
theorem Row.of_own {w : World} {base n : Nat} {e : TypeId} {v : Value} {xs : List Value} (h : w.ownsRow base e 1 v n xs) : ∃ a cap, v = .slice a n cap ∧ Row w a n cap (fun i => xs.getD i undef) := by
  obtain ⟨hl, h⟩ := h
  rcases h with ⟨rfl, rfl⟩ | ⟨g, cap, cur, rfl, hb, hh, hn, hm, hs, ht⟩
  · exact ⟨none, 0, rfl, Nat.le_refl _, Nat.zero_le _, .inl rfl⟩
  · refine ⟨_, cap, rfl, hn, hm, .inr ⟨g, 0, rfl, (Array.getElem?_eq_some_iff.1 hh).1, fun i hi => ?_⟩⟩
    have := World.ownsRow.cellAt (w := w) (g := g) (n := n) (cap := cap) (xs := xs) ⟨hl, .inr ⟨g, cap, cur, rfl, hb, hh, hn, hm, hs, ht⟩⟩ i (by omega)
    rw [Nat.zero_add, this]
    show _ = some (xs.getD i undef)
    rw [List.getD_eq_getElem?_getD, List.getElem?_eq_getElem (by omega)]
    rfl

/-- what a slice of bools, of ints reads as -/
def Bools (w : World) (v : Value) (l : List Bool) : Prop := ∃ a cap, v = .slice a l.length cap ∧ Row w a l.length cap (fun i => .bool (l.getD i false))
def Ints (w : World) (v : Value) (l : List Int) : Prop := ∃ a cap, v = .slice a l.length cap ∧ Row w a l.length cap (fun i => .int .i64 (l.getD i 0))
theorem Bools.below {w w' : World} {v : Value} {l : List Bool} (h : Bools w v l) (hb : Below w.heap.size w w') : Bools w' v l := by
  obtain ⟨a, cap, rfl, h⟩ := h; exact ⟨a, cap, rfl, h.below hb⟩
theorem Ints.below {w w' : World} {v : Value} {l : List Int} (h : Ints w v l) (hb : Below w.heap.size w w') : Ints w' v l := by
  obtain ⟨a, cap, rfl, h⟩ := h; exact ⟨a, cap, rfl, h.below hb⟩
theorem Bools.drew {w : World} {v : Value} {l : List Bool} (h : Bools w v l) : Bools w.drew v l := h
theorem Ints.drew {w : World} {v : Value} {l : List Int} (h : Ints w v l) : Ints w.drew v l := h
theorem Bools.len {w : World} {v : Value} {l : List Bool} (h : Bools w v l) : l.length ≤ 9223372036854775807 := by
  obtain ⟨a, cap, rfl, h1, h2, _⟩ := h; unfold maxLen at h2; omega
theorem Ints.len {w : World} {v : Value} {l : List Int} (h : Ints w v l) : l.length ≤ 9223372036854775807 := by
  obtain ⟨a, cap, rfl, h1, h2, _⟩ := h; unfold maxLen at h2; omega
theorem Bools.of_own {w : World} {base n : Nat} {e : TypeId} {v : Value} {l : List Bool} (h : w.ownsRow base e 1 v n (l.map .bool)) : Bools w v l := by
  have hn : n = l.length := by have := h.1; simp at this; omega
  subst hn
  obtain ⟨a, cap, rfl, hr⟩ := Row.of_own h
  refine ⟨a, cap, rfl, hr.congr fun i hi => ?_⟩
  simp [List.getD_eq_getElem?_getD, List.getElem?_eq_getElem hi]
theorem Ints.of_own {w : World} {base n : Nat} {e : TypeId} {v : Value} {l : List Int} (h : w.ownsRow base e 1 v n (l.map (.int .i64))) : Ints w v l := by
  have hn : n = l.length := by have := h.1; simp at this; omega
  subst hn
  obtain ⟨a, cap, rfl, hr⟩ := Row.of_own h
  refine ⟨a, cap, rfl, hr.congr fun i hi => ?_⟩
  simp [List.getD_eq_getElem?_getD, List.getElem?_eq_getElem hi]

/-- a call gave a row of its own with these cells, and kept what was there -/
def NewRow (e : TypeId) (size : Nat) (n : Nat) (xs : List Value) (w : World) (en : Ending) (w' : World) : Prop :=
  ∃ v, en = .returned v ∧ w'.ownsRow w.heap.size e size v n xs ∧ Below w.heap.size w w'

/-- a call gave v, and left the world but for draws -/
def DrewRet (v : Value) (w : World) (e : Ending) (w' : World) : Prop := e = .returned v ∧ ∃ n, w' = w.drewN n
theorem DrewRet.below {v : Value} {w : World} {e : Ending} {w' : World} (h : DrewRet v w e w') : e = .returned v ∧ Below w.heap.size w w' := by
  obtain ⟨h, n, rfl⟩ := h; exact ⟨h, below_drewN (Below.refl _ _) n⟩
/-- a call that only draws, met in a quiet region behind m draws -/
theorem drewRet_at {P : Program} {f : FuncId} {args : Array Value} {w : World} {v : Value} (C : ∀ j, Calls P f args (w.drewN j) (DrewRet v (w.drewN j))) (m x : Nat) :
    Calls P f args (w.drewN (m + x)) fun e w'' => e = .returned v ∧ ∃ n, w'' = w.drewN (m + n) :=
  (C (m + x)).mono fun _ _ ⟨he, k, hk⟩ => ⟨he, x + k, by rw [hk, World.drewN_drewN, Nat.add_assoc]⟩
/-- two lists of one length that differ somewhere, or do not -/
theorem list_ne_at {α : Type} {l l' : List α} (d : α) {k : Nat} (h : l.getD k d ≠ l'.getD k d) : l ≠ l' := fun e => h (by rw [e])
theorem list_eq_of {α : Type} {l l' : List α} (d : α) (hn : l.length = l'.length) (h : ∀ i, i < l.length → l.getD i d = l'.getD i d) : l = l' := by
  apply List.ext_getElem hn
  intro i h1 h2
  have := h i h1
  simpa [List.getD_eq_getElem?_getD, List.getElem?_eq_getElem h1, List.getElem?_eq_getElem h2] using this

/-- a row of n cells that is filled up to k -/
def fillTo (z : Value) (f : Nat → Value) (n k : Nat) : List Value := (List.range n).map fun i => if i < k then f i else z
theorem fillTo_len (z : Value) (f : Nat → Value) (n k : Nat) : (fillTo z f n k).length = n := by simp [fillTo]
theorem fillTo_zero (z : Value) (f : Nat → Value) (n : Nat) : fillTo z f n 0 = List.replicate n z := by
  apply List.ext_getElem (by simp [fillTo])
  intro i h1 h2
  simp [fillTo]
theorem fillTo_all (z : Value) (f : Nat → Value) (n : Nat) : fillTo z f n n = (List.range n).map f := by
  unfold fillTo
  exact List.map_congr_left fun i hi => by rw [if_pos (by simpa using hi)]
theorem fillTo_set (z : Value) (f : Nat → Value) (n k : Nat) : (fillTo z f n k).set k (f k) = fillTo z f n (k + 1) := by
  apply List.ext_getElem (by simp [fillTo])
  intro i h1 h2
  rw [List.getElem_set]
  simp only [fillTo, List.getElem_map, List.getElem_range]
  by_cases h : k = i
  · subst h; simp
  · rw [if_neg h]
    by_cases h3 : i < k
    · rw [if_pos h3, if_pos (by omega)]
    · rw [if_neg h3, if_neg (by omega)]
theorem made_one (z : Value) (n : Nat) : (madeCells #[z] (n * 1)).toList = List.replicate n z := by rw [Nat.mul_one, toList_madeCells_one]
theorem range_getD {α : Type} (l : List α) (d : α) (f : α → Value) : (List.range l.length).map (fun i => f (l.getD i d)) = l.map f := by
  apply List.ext_getElem (by simp)
  intro i h1 h2
  simp at h2
  simp [List.getD_eq_getElem?_getD, List.getElem?_eq_getElem h2]
theorem own_made {w : World} {base n : Nat} {e : TypeId} {v z : Value} (f : Nat → Value) (h : w.ownsRow base e 1 v n (madeCells z.cells (n * 1)).toList) (hz : z.cells = #[z]) : w.ownsRow base e 1 v n (fillTo z f n 0) := by
  rw [fillTo_zero, ← made_one, ← hz]; exact h
theorem below_grows {a w w' : World} {row : Option Nat} (h : Below a.heap.size a w) (hg : w.grownBy w' row) (hr : ∀ k, row = some k → a.heap.size ≤ k) : Below a.heap.size a w' := h.grown hg h.size hr
/-- the row that is being filled: what it holds at k, that it may be written there; and behind the store -/
theorem fill_step {w : World} {base g n k : Nat} {e : TypeId} {z : Value} {f : Nat → Value} (h : w.ownsRow base e 1 (.slice (some ⟨g, 0, none⟩) n n) n (fillTo z f n k)) (hk : k < n) :
    w.cell? ⟨g, k, none⟩ = some z ∧ w.frozen? ⟨g, k, none⟩ = false ∧ (w.setCell ⟨g, k, none⟩ (f k)).ownsRow base e 1 (.slice (some ⟨g, 0, none⟩) n n) n (fillTo z f n (k + 1)) ∧ w.grownBy (w.setCell ⟨g, k, none⟩ (f k)) (some g) := by
  obtain ⟨s1, s2⟩ := h.stored k (f k)
  refine ⟨?_, h.frozenAt k, by rw [← fillTo_set]; exact s1, s2⟩
  rw [h.cellAt k (by omega), List.getElem?_eq_getElem (by rw [fillTo_len]; exact hk)]
  simp [fillTo]
end Go.Proofs.Yteeaafdgkepaeaa
