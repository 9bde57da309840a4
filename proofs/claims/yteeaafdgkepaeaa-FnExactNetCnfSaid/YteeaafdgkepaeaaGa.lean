/- Small lemmas for all walks: blocks, worlds below one another, endings. The conditions stand in each statement. -/
import Derived.Test.YteeaafdgkepaeaaProg
import Derived.WalkKit
import Derived.WalkSpells
import Derived.WalkLawsBesides
import Derived.Deep.QuietTactic
import Derived.BigQuiet
import Derived.Lib.Hide
import Derived.Lib.OthersKept
import Derived.StillTailTactics
import Derived.RegionTactic
import Derived.Deep.RegionHeld3
import Derived.Laws.BitsAllLaws
import Derived.Laws.BitsLemmas
namespace Go.Proofs.Yteeaafdgkepaeaa
open Go.RowKit

/-- 2 to the power of n. -/
def two (n : Nat) : Int := ((2 ^ n : Nat) : Int)
theorem two_succ (n : Nat) : two (n + 1) = two n * 2 := by unfold two; rw [Nat.pow_succ]; omega
theorem two_pos (n : Nat) : 1 ≤ two n := by have := Nat.two_pow_pos n; unfold two; omega
theorem two_le {m n : Nat} (h : m ≤ n) : two m ≤ two n := by have := Nat.pow_le_pow_right (n := 2) (by decide) h; unfold two; omega
theorem bcell {W w1 : World} (hb : Below W.heap.size W w1) : (∀ b o, b < W.heap.size → w1.cell? ⟨b, o, none⟩ = W.cell? ⟨b, o, none⟩) ∧ (∀ b o, b < W.heap.size → w1.frozen? ⟨b, o, none⟩ = W.frozen? ⟨b, o, none⟩) :=
  ⟨fun b o h => hb.cell (p := ⟨b, o, none⟩) h, fun b o h => hb.frozen (p := ⟨b, o, none⟩) h⟩
theorem below_drewN {B : Nat} {a w : World} (h : Below B a w) (n : Nat) : Below B a (w.drewN n) := ⟨h.os, h.tape, h.output, h.size, h.block⟩
theorem below_self_alloc (w : World) (o : Obj) : Below w.heap.size w (w.alloc o) := (Below.refl _ _).alloc (Nat.le_refl _) o
/-- one step more: blocks made above the old ones -/
theorem below_step {a w : World} (h : Below a.heap.size a w) (o : Obj) : Below a.heap.size a (w.alloc o) := h.alloc h.size o
theorem ret_int {k : IntKind} {a b : Int} (h : a = b) : Ending.returned (.int k a) = .returned (.int k b) := by rw [h]
theorem ret_bool {a b : Bool} (h : a = b) : Ending.returned (.bool a) = .returned (.bool b) := by rw [h]
theorem two_eq (n : Nat) : (2 : Int) ^ n = two n := by unfold two; simp
theorem wrap_small {n : Int} (h0 : 0 ≤ n) (h1 : n ≤ 1000000) : IntKind.i64.wrap n = n := IntWalk.i64_in _ (by omega)
/-- a struct of two fields in a new block, behind a call that leaves what was there -/
theorem box2 {w w1 : World} {x y : Value} {t : TypeId} (hb : Below (w.alloc (.cells #[x, y] t)).heap.size (w.alloc (.cells #[x, y] t)) w1) :
    w1.cell? ⟨w.heap.size, 0, none⟩ = some x ∧ w1.cell? ⟨w.heap.size, 1, none⟩ = some y ∧ w.heap.size < w1.heap.size := by
  refine ⟨?_, ?_, ?_⟩
  · rw [hb.cell (by simp)]; simp [World.cell?_alloc_new]
  · rw [hb.cell (by simp)]; simp [World.cell?_alloc_new]
  · have := hb.size; simp at this; omega
theorem box2_below {w w1 : World} {o : Obj} (hb : Below (w.alloc o).heap.size (w.alloc o) w1) : Below w.heap.size w w1 :=
  (below_self_alloc _ _).trans (hb.mono (by simp))
theorem below_two {a w w1 : World} (h : Below a.heap.size a w) (hb : Below w.heap.size w w1) : Below a.heap.size a w1 := h.trans (hb.mono h.size)
/-- a struct of two fields in block g: kept over a call that leaves what was there -/
theorem keep2 {g : Nat} {x y : Value} {W W2 : World} (hb : Below W.heap.size W W2) (h : W.cell? ⟨g, 0, none⟩ = some x ∧ W.cell? ⟨g, 1, none⟩ = some y ∧ g < W.heap.size) :
    W2.cell? ⟨g, 0, none⟩ = some x ∧ W2.cell? ⟨g, 1, none⟩ = some y ∧ g < W2.heap.size :=
  ⟨(hb.cell (p := ⟨g, 0, none⟩) h.2.2).trans h.1, (hb.cell (p := ⟨g, 1, none⟩) h.2.2).trans h.2.1, Nat.lt_of_lt_of_le h.2.2 hb.size⟩
/-! ### a block of two cells, as a whole -/
def Blk (w : World) (g : Nat) (x y : Value) (t : TypeId) : Prop := w.heap[g]? = some (.cells #[x, y] t (0, 0))
theorem Blk.lt {w : World} {g : Nat} {x y : Value} {t : TypeId} (h : Blk w g x y t) : g < w.heap.size := by
  unfold Blk at h; exact (Array.getElem?_eq_some_iff.1 h).1
theorem Blk.cells {w : World} {g : Nat} {x y : Value} {t : TypeId} (h : Blk w g x y t) :
    w.cell? ⟨g, 0, none⟩ = some x ∧ w.cell? ⟨g, 1, none⟩ = some y ∧ g < w.heap.size := by
  have := h.lt; unfold Blk at h
  exact ⟨by simp [World.cell?, h], by simp [World.cell?, h], this⟩
theorem Blk.frozen {w : World} {g : Nat} {x y : Value} {t : TypeId} (h : Blk w g x y t) :
    w.frozen? ⟨g, 0, none⟩ = false ∧ w.frozen? ⟨g, 1, none⟩ = false := by
  unfold Blk at h
  exact ⟨by simp [World.frozen?, h], by simp [World.frozen?, h]⟩
theorem Blk.keep {w w1 : World} {g : Nat} {x y : Value} {t : TypeId} (h : Blk w g x y t) (hb : Below w.heap.size w w1) : Blk w1 g x y t := by
  have := h.lt; unfold Blk at *; rw [hb.block _ this]; exact h
theorem blk_new (w : World) (x y : Value) (t : TypeId) : Blk (w.alloc (.cells #[x, y] t)) w.heap.size x y t := by
  show (w.heap.push _)[w.heap.size]? = _
  simp
theorem blk_new1 (w : World) (o : Obj) (x y : Value) (t : TypeId) : Blk ((w.alloc o).alloc (.cells #[x, y] t)) (w.heap.size + 1) x y t := by
  have := blk_new (w.alloc o) x y t
  simpa using this
theorem blk_new2 (w : World) (o o' : Obj) (x y : Value) (t : TypeId) : Blk (((w.alloc o).alloc o').alloc (.cells #[x, y] t)) (w.heap.size + 2) x y t := by
  have := blk_new1 (w.alloc o) o' x y t
  simpa using this
theorem Blk.alloc {w : World} {g : Nat} {x y : Value} {t : TypeId} (h : Blk w g x y t) (o : Obj) : Blk (w.alloc o) g x y t :=
  h.keep (below_self_alloc _ _)
theorem Blk.drew {w : World} {g : Nat} {x y : Value} {t : TypeId} (h : Blk w g x y t) : Blk w.drew g x y t := h
theorem below_res {w w1 : World} {o o' : Obj} (hb : Below ((w.alloc o).alloc o').heap.size ((w.alloc o).alloc o') w1) : Below w.heap.size w w1 := box2_below (box2_below hb)
theorem below_res3 {w w1 : World} {o o' o'' : Obj} (hb : Below (((w.alloc o).alloc o').alloc o'').heap.size (((w.alloc o).alloc o').alloc o'') w1) : Below w.heap.size w w1 := box2_below (box2_below (box2_below hb))
/-- two stores into a block above -/
theorem below_set2 {a w : World} (h : Below a.heap.size a w) {g : Nat} (hg : a.heap.size ≤ g) (x y : Value) : Below a.heap.size a ((w.setCell ⟨g, 0, none⟩ x).setCell ⟨g, 1, none⟩ y) :=
  (h.setCell (p := ⟨g, 0, none⟩) hg x).setCell (p := ⟨g, 1, none⟩) hg y
theorem Blk.drewN {w : World} {g : Nat} {x y : Value} {t : TypeId} (h : Blk w g x y t) (n : Nat) : Blk (w.drewN n) g x y t := h
theorem Blk.set1 {w : World} {g : Nat} {x y : Value} {t : TypeId} (h : Blk w g x y t) (z : Value) : Blk (w.setCell ⟨g, 1, none⟩ z) g x z t := by
  unfold Blk at *; simp [World.setCell, Array.getElem?_modify, h]
theorem Blk.set0 {w : World} {g : Nat} {x y : Value} {t : TypeId} (h : Blk w g x y t) (z : Value) : Blk (w.setCell ⟨g, 0, none⟩ z) g z y t := by
  unfold Blk at *; simp [World.setCell, Array.getElem?_modify, h]
theorem Blk.set_other {w : World} {g : Nat} {x y : Value} {t : TypeId} (h : Blk w g x y t) {p : Addr} {z : Value} (hne : g ≠ p.block) : Blk (w.setCell p z) g x y t := by
  unfold Blk at *; rw [Below.heap_setCell _ _ _ _ hne]; exact h
end Go.Proofs.Yteeaafdgkepaeaa
