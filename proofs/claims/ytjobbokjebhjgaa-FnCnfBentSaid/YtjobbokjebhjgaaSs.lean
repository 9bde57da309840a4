/- Slices of slices of ints: what they read as, the statements' own copies, sizes and comparisons of them. The conditions stand in each statement. -/
import Derived.Test.YtjobbokjebhjgaaSi
import Derived.OneCell
import Derived.Lib.SmallJoins
namespace Go.Proofs.Ytjobbokjebhjgaa
open Go.RowKit

theorem drop_at {α : Type} {l : List α} (d : α) {k : Nat} (hk : k < l.length) : l.drop k = l.getD k d :: l.drop (k + 1) := by
  rw [List.drop_eq_getElem_cons hk, List.getD_eq_getElem?_getD, List.getElem?_eq_getElem hk]; rfl
theorem drop_end {α : Type} (l : List α) : l.drop l.length = [] := by simp

def IntSS (w : World) (v : Value) (ls : List (List Int)) : Prop :=
  ∃ a cap f, v = .slice a ls.length cap ∧ Row w a ls.length cap f ∧ ∀ i, i < ls.length → Ints w (f i) (ls.getD i [])
theorem IntSS.below {w w' : World} {v : Value} {l : List (List Int)} (h : IntSS w v l) (hb : Below w.heap.size w w') : IntSS w' v l := by
  obtain ⟨a, cap, f, rfl, h, hi⟩ := h; exact ⟨a, cap, f, rfl, h.below hb, fun i h => (hi i h).below hb⟩
theorem IntSS.drew {w : World} {v : Value} {l : List (List Int)} (h : IntSS w v l) : IntSS w.drew v l := h
theorem IntSS.len {w : World} {v : Value} {l : List (List Int)} (h : IntSS w v l) : l.length ≤ 9223372036854775807 := by
  obtain ⟨a, cap, f, rfl, ⟨h1, h2, _⟩, _⟩ := h; unfold maxLen at h2; omega

theorem grown_of_below {w w' : World} (h : Below w.heap.size w w') : w.grownBy w' none := ⟨h.os, h.tape, h.output, h.size, fun k hk _ => h.block k hk⟩
theorem own_keep {w w' : World} {base size n : Nat} {e : TypeId} {v : Value} {xs : List Value} (h : w.ownsRow base e size v n xs) (hb : Below w.heap.size w w') : w'.ownsRow base e size v n xs :=
  h.kept (grown_of_below hb) (by cases hv : v.ownBlock <;> simp)

/-- an outer row of its own, whose first k elements are rows of their own, apart from one another -/
structure OwnSS (w : World) (base : Nat) (tt ti : TypeId) (v : Value) (ls : List (List Int)) (k : Nat) (fs : List Value) : Prop where
  top : w.ownsRow base tt 1 v ls.length fs
  row : ∀ i, i < k → w.ownsRow base ti 1 (fs.getD i undef) (ls.getD i []).length ((ls.getD i []).map (.int .i64))
  apart : ∀ i j, i < j → j < k → ∀ g, (fs.getD i undef).ownBlock = some g → (fs.getD j undef).ownBlock ≠ some g
  off : ∀ i, i < k → ∀ g, (fs.getD i undef).ownBlock = some g → v.ownBlock ≠ some g
  rest : ∀ i, k ≤ i → i < ls.length → fs.getD i undef = .slice none 0 0
theorem OwnSS.below {w w' : World} {base : Nat} {tt ti : TypeId} {v : Value} {ls : List (List Int)} {k : Nat} {fs : List Value} (h : OwnSS w base tt ti v ls k fs) (hb : Below w.heap.size w w') : OwnSS w' base tt ti v ls k fs :=
  ⟨own_keep h.top hb, fun i hi => own_keep (h.row i hi) hb, h.apart, h.off, h.rest⟩
theorem OwnSS.ints {w : World} {base : Nat} {tt ti : TypeId} {v : Value} {ls : List (List Int)} {fs : List Value} (h : OwnSS w base tt ti v ls ls.length fs) : IntSS w v ls := by
  obtain ⟨a, cap, rfl, hr⟩ := Row.of_own h.top
  exact ⟨a, cap, _, rfl, hr, fun i hi => Ints.of_own (h.row i hi)⟩
theorem own_start {w : World} {base : Nat} {tt ti : TypeId} {v : Value} {ls : List (List Int)} (h : w.ownsRow base tt 1 v ls.length (madeCells (Value.slice none 0 0).cells (ls.length * 1)).toList) : OwnSS w base tt ti v ls 0 (List.replicate ls.length (.slice none 0 0)) := by
  have h' : w.ownsRow base tt 1 v ls.length (List.replicate ls.length (.slice none 0 0)) := by rw [← made_one]; exact h
  refine ⟨h', fun i hi => absurd hi (by omega), fun i j _ hj => absurd hj (by omega), fun i hi => absurd hi (by omega), fun i _ hi => ?_⟩
  simp [List.getD_eq_getElem?_getD, hi]
theorem getD_set_self {α : Type} {l : List α} {d x : α} {k : Nat} (h : k < l.length) : (l.set k x).getD k d = x := by
  simp [List.getD_eq_getElem?_getD, h]
theorem getD_set_ne {α : Type} {l : List α} {d x : α} {k i : Nat} (h : k ≠ i) : (l.set k x).getD i d = l.getD i d := by
  simp [List.getD_eq_getElem?_getD, h]
theorem OwnSS.step {w w1 : World} {base : Nat} {tt ti : TypeId} {G : Nat} {ls : List (List Int)} {k : Nat} {fs : List Value} {v1 : Value} (h : OwnSS w base tt ti (.slice (some ⟨G, 0, none⟩) ls.length ls.length) ls k fs) (hk : k < ls.length)
    (hb : Below w.heap.size w w1) (h1 : w1.ownsRow w.heap.size ti 1 v1 (ls.getD k []).length ((ls.getD k []).map (.int .i64))) (hbase : base ≤ w.heap.size) :
    w1.cell? ⟨G, k, none⟩ = some (.slice none 0 0) ∧ w1.frozen? ⟨G, k, none⟩ = false ∧ OwnSS (w1.setCell ⟨G, k, none⟩ v1) base tt ti (.slice (some ⟨G, 0, none⟩) ls.length ls.length) ls (k + 1) (fs.set k v1) := by
  have hfl : fs.length = ls.length := by have := h.top.1; omega
  have t1 := own_keep h.top hb
  have hG : G < w.heap.size := (h.top.lt G rfl).2
  have lt1 : ∀ g, v1.ownBlock = some g → w.heap.size ≤ g := fun g hg => (h1.lt g hg).1
  have ltr : ∀ i, i < k → ∀ g, (fs.getD i undef).ownBlock = some g → g < w.heap.size := fun i hi g hg => ((h.row i hi).lt g hg).2
  have hc : w1.cell? ⟨G, k, none⟩ = some (.slice none 0 0) := by
    rw [t1.cellAt k (by omega), List.getElem?_eq_getElem (by omega)]
    have := h.rest k (Nat.le_refl _) hk
    rw [List.getD_eq_getElem?_getD, List.getElem?_eq_getElem (by omega)] at this
    simpa using this
  refine ⟨hc, t1.frozenAt k, (t1.stored k v1).1, fun i hi => ?_, fun i j hij hj g hg => ?_, fun i hi g hg => ?_, fun i hi hi2 => ?_⟩
  · by_cases e : k = i
    · subst e
      rw [getD_set_self (by omega)]
      exact ownsRow_setCell_other (Go.Joins.ownsRow_le h1 hbase) (fun e => by have := lt1 _ e; simp at this; omega) _
    · rw [getD_set_ne e]
      refine ownsRow_setCell_other (own_keep (h.row i (by omega)) hb) (fun e2 => ?_) _
      exact h.off i (by omega) _ e2 rfl
  · have e : k ≠ i := by omega
    rw [getD_set_ne e] at hg
    by_cases e2 : k = j
    · subst e2
      rw [getD_set_self (by omega)]
      intro e3
      have := lt1 _ e3
      have := ltr i (by omega) _ hg
      omega
    · rw [getD_set_ne e2]
      exact h.apart i j hij (by omega) g hg
  · by_cases e : k = i
    · subst e
      rw [getD_set_self (by omega)] at hg
      have := lt1 _ hg
      intro e3
      simp [Value.ownBlock] at e3
      omega
    · rw [getD_set_ne e] at hg
      exact h.off i (by omega) g hg
  · rw [getD_set_ne (by omega)]
    exact h.rest i (by omega) hi2

/-- what remains of a size -/
def szLeft (left : Int) : List (List Int) → Int
  | [] => left
  | l :: r => if left < l.length then -1 else szLeft (left - l.length) r
def szSS (left : Int) (ls : List (List Int)) : Int := if left < ls.length then -1 else szLeft (left - ls.length) ls
theorem szLeft_le : ∀ (ls : List (List Int)) (left : Int), 0 ≤ left → -1 ≤ szLeft left ls ∧ szLeft left ls ≤ left ∧ (0 ≤ szLeft left ls → ∀ l ∈ ls, (l.length : Int) ≤ left)
  | [], left, h => ⟨by simp [szLeft]; omega, by simp [szLeft], fun _ => by simp⟩
  | l :: r, left, h => by
    unfold szLeft
    by_cases h1 : left < l.length
    · rw [if_pos h1]; exact ⟨by omega, by omega, fun h => by omega⟩
    · rw [if_neg h1]
      obtain ⟨i1, i2, i3⟩ := szLeft_le r (left - l.length) (by omega)
      refine ⟨i1, by omega, fun h x hx => ?_⟩
      rcases List.mem_cons.1 hx with rfl | hx
      · omega
      · have := i3 h x hx; omega
theorem szSS_le (ls : List (List Int)) (left : Int) (h : 0 ≤ left) : -1 ≤ szSS left ls ∧ szSS left ls ≤ left ∧ (0 ≤ szSS left ls → (ls.length : Int) ≤ left ∧ ∀ i, i < ls.length → ((ls.getD i []).length : Int) ≤ left) := by
  unfold szSS
  by_cases h1 : left < ls.length
  · rw [if_pos h1]; exact ⟨by omega, by omega, fun h => by omega⟩
  · rw [if_neg h1]
    obtain ⟨i1, i2, i3⟩ := szLeft_le ls (left - ls.length) (by omega)
    refine ⟨i1, by omega, fun h => ⟨by omega, fun i hi => ?_⟩⟩
    have := i3 h (ls.getD i []) (by rw [List.getD_eq_getElem?_getD, List.getElem?_eq_getElem hi]; exact List.getElem_mem _)
    omega
end Go.Proofs.Ytjobbokjebhjgaa
