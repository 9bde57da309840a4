/- Blocks of three, four and five cells, as wholes. -/
import Derived.Test.YteeaafdgkepaeaaGa
namespace Go.Proofs.Yteeaafdgkepaeaa
open Go.RowKit

def Blk1 (w : World) (g : Nat) (x0 : Value) (t : TypeId) : Prop := w.heap[g]? = some (.cells #[x0] t (0, 0))
theorem Blk1.lt {w : World} {g : Nat} {x0 : Value} {t : TypeId} (h : Blk1 w g x0 t) : g < w.heap.size := by
  unfold Blk1 at h; exact (Array.getElem?_eq_some_iff.1 h).1
theorem Blk1.cells {w : World} {g : Nat} {x0 : Value} {t : TypeId} (h : Blk1 w g x0 t) :
    w.cell? ⟨g, 0, none⟩ = some x0 ∧ g < w.heap.size := by
  have := h.lt; unfold Blk1 at h
  exact ⟨by simp [World.cell?, h], this⟩
theorem Blk1.frozen {w : World} {g : Nat} {x0 : Value} {t : TypeId} (h : Blk1 w g x0 t) :
    w.frozen? ⟨g, 0, none⟩ = false := by
  unfold Blk1 at h
  exact by simp [World.frozen?, h]
theorem Blk1.keep {w1 : World} {w : World} {g : Nat} {x0 : Value} {t : TypeId} (h : Blk1 w g x0 t) (hb : Below w.heap.size w w1) : Blk1 w1 g x0 t := by
  have := h.lt; unfold Blk1 at *; rw [hb.block _ this]; exact h
theorem blk1_new (w : World) (x0 : Value) (t : TypeId) : Blk1 (w.alloc (.cells #[x0] t)) w.heap.size x0 t := by
  show (w.heap.push _)[w.heap.size]? = _
  simp
theorem blk1_new1 (w : World) (o : Obj) (x0 : Value) (t : TypeId) : Blk1 ((w.alloc o).alloc (.cells #[x0] t)) (w.heap.size + 1) x0 t := by
  have := blk1_new (w.alloc o) x0 t
  simpa using this
theorem blk1_new2 (w : World) (o o' : Obj) (x0 : Value) (t : TypeId) : Blk1 (((w.alloc o).alloc o').alloc (.cells #[x0] t)) (w.heap.size + 2) x0 t := by
  have := blk1_new1 (w.alloc o) o' x0 t
  simpa using this
theorem Blk1.alloc {w : World} {g : Nat} {x0 : Value} {t : TypeId} (h : Blk1 w g x0 t) (o : Obj) : Blk1 (w.alloc o) g x0 t := h.keep (below_self_alloc _ _)
theorem Blk1.drew {w : World} {g : Nat} {x0 : Value} {t : TypeId} (h : Blk1 w g x0 t) : Blk1 w.drew g x0 t := h
theorem Blk1.drewN {w : World} {g : Nat} {x0 : Value} {t : TypeId} (h : Blk1 w g x0 t) (n : Nat) : Blk1 (w.drewN n) g x0 t := h
theorem Blk1.set0 {w : World} {g : Nat} {x0 : Value} {t : TypeId} (h : Blk1 w g x0 t) (z : Value) : Blk1 (w.setCell ⟨g, 0, none⟩ z) g z t := by
  unfold Blk1 at *; simp [World.setCell, Array.getElem?_modify, h]
theorem Blk1.set_other {w : World} {g : Nat} {x0 : Value} {t : TypeId} (h : Blk1 w g x0 t) {p : Addr} {z : Value} (hne : g ≠ p.block) : Blk1 (w.setCell p z) g x0 t := by
  unfold Blk1 at *; rw [Below.heap_setCell _ _ _ _ hne]; exact h

def Blk3 (w : World) (g : Nat) (x0 x1 x2 : Value) (t : TypeId) : Prop := w.heap[g]? = some (.cells #[x0, x1, x2] t (0, 0))
theorem Blk3.lt {w : World} {g : Nat} {x0 x1 x2 : Value} {t : TypeId} (h : Blk3 w g x0 x1 x2 t) : g < w.heap.size := by
  unfold Blk3 at h; exact (Array.getElem?_eq_some_iff.1 h).1
theorem Blk3.cells {w : World} {g : Nat} {x0 x1 x2 : Value} {t : TypeId} (h : Blk3 w g x0 x1 x2 t) :
    w.cell? ⟨g, 0, none⟩ = some x0 ∧ w.cell? ⟨g, 1, none⟩ = some x1 ∧ w.cell? ⟨g, 2, none⟩ = some x2 ∧ g < w.heap.size := by
  have := h.lt; unfold Blk3 at h
  exact ⟨by simp [World.cell?, h], by simp [World.cell?, h], by simp [World.cell?, h], this⟩
theorem Blk3.frozen {w : World} {g : Nat} {x0 x1 x2 : Value} {t : TypeId} (h : Blk3 w g x0 x1 x2 t) :
    w.frozen? ⟨g, 0, none⟩ = false ∧ w.frozen? ⟨g, 1, none⟩ = false ∧ w.frozen? ⟨g, 2, none⟩ = false := by
  unfold Blk3 at h
  exact ⟨by simp [World.frozen?, h], by simp [World.frozen?, h], by simp [World.frozen?, h]⟩
theorem Blk3.keep {w1 : World} {w : World} {g : Nat} {x0 x1 x2 : Value} {t : TypeId} (h : Blk3 w g x0 x1 x2 t) (hb : Below w.heap.size w w1) : Blk3 w1 g x0 x1 x2 t := by
  have := h.lt; unfold Blk3 at *; rw [hb.block _ this]; exact h
theorem blk3_new (w : World) (x0 x1 x2 : Value) (t : TypeId) : Blk3 (w.alloc (.cells #[x0, x1, x2] t)) w.heap.size x0 x1 x2 t := by
  show (w.heap.push _)[w.heap.size]? = _
  simp
theorem blk3_new1 (w : World) (o : Obj) (x0 x1 x2 : Value) (t : TypeId) : Blk3 ((w.alloc o).alloc (.cells #[x0, x1, x2] t)) (w.heap.size + 1) x0 x1 x2 t := by
  have := blk3_new (w.alloc o) x0 x1 x2 t
  simpa using this
theorem blk3_new2 (w : World) (o o' : Obj) (x0 x1 x2 : Value) (t : TypeId) : Blk3 (((w.alloc o).alloc o').alloc (.cells #[x0, x1, x2] t)) (w.heap.size + 2) x0 x1 x2 t := by
  have := blk3_new1 (w.alloc o) o' x0 x1 x2 t
  simpa using this
theorem Blk3.alloc {w : World} {g : Nat} {x0 x1 x2 : Value} {t : TypeId} (h : Blk3 w g x0 x1 x2 t) (o : Obj) : Blk3 (w.alloc o) g x0 x1 x2 t := h.keep (below_self_alloc _ _)
theorem Blk3.drew {w : World} {g : Nat} {x0 x1 x2 : Value} {t : TypeId} (h : Blk3 w g x0 x1 x2 t) : Blk3 w.drew g x0 x1 x2 t := h
theorem Blk3.drewN {w : World} {g : Nat} {x0 x1 x2 : Value} {t : TypeId} (h : Blk3 w g x0 x1 x2 t) (n : Nat) : Blk3 (w.drewN n) g x0 x1 x2 t := h
theorem Blk3.set0 {w : World} {g : Nat} {x0 x1 x2 : Value} {t : TypeId} (h : Blk3 w g x0 x1 x2 t) (z : Value) : Blk3 (w.setCell ⟨g, 0, none⟩ z) g z x1 x2 t := by
  unfold Blk3 at *; simp [World.setCell, Array.getElem?_modify, h]
theorem Blk3.set1 {w : World} {g : Nat} {x0 x1 x2 : Value} {t : TypeId} (h : Blk3 w g x0 x1 x2 t) (z : Value) : Blk3 (w.setCell ⟨g, 1, none⟩ z) g x0 z x2 t := by
  unfold Blk3 at *; simp [World.setCell, Array.getElem?_modify, h]
theorem Blk3.set2 {w : World} {g : Nat} {x0 x1 x2 : Value} {t : TypeId} (h : Blk3 w g x0 x1 x2 t) (z : Value) : Blk3 (w.setCell ⟨g, 2, none⟩ z) g x0 x1 z t := by
  unfold Blk3 at *; simp [World.setCell, Array.getElem?_modify, h]
theorem Blk3.set_other {w : World} {g : Nat} {x0 x1 x2 : Value} {t : TypeId} (h : Blk3 w g x0 x1 x2 t) {p : Addr} {z : Value} (hne : g ≠ p.block) : Blk3 (w.setCell p z) g x0 x1 x2 t := by
  unfold Blk3 at *; rw [Below.heap_setCell _ _ _ _ hne]; exact h

def Blk4 (w : World) (g : Nat) (x0 x1 x2 x3 : Value) (t : TypeId) : Prop := w.heap[g]? = some (.cells #[x0, x1, x2, x3] t (0, 0))
theorem Blk4.lt {w : World} {g : Nat} {x0 x1 x2 x3 : Value} {t : TypeId} (h : Blk4 w g x0 x1 x2 x3 t) : g < w.heap.size := by
  unfold Blk4 at h; exact (Array.getElem?_eq_some_iff.1 h).1
theorem Blk4.cells {w : World} {g : Nat} {x0 x1 x2 x3 : Value} {t : TypeId} (h : Blk4 w g x0 x1 x2 x3 t) :
    w.cell? ⟨g, 0, none⟩ = some x0 ∧ w.cell? ⟨g, 1, none⟩ = some x1 ∧ w.cell? ⟨g, 2, none⟩ = some x2 ∧ w.cell? ⟨g, 3, none⟩ = some x3 ∧ g < w.heap.size := by
  have := h.lt; unfold Blk4 at h
  exact ⟨by simp [World.cell?, h], by simp [World.cell?, h], by simp [World.cell?, h], by simp [World.cell?, h], this⟩
theorem Blk4.frozen {w : World} {g : Nat} {x0 x1 x2 x3 : Value} {t : TypeId} (h : Blk4 w g x0 x1 x2 x3 t) :
    w.frozen? ⟨g, 0, none⟩ = false ∧ w.frozen? ⟨g, 1, none⟩ = false ∧ w.frozen? ⟨g, 2, none⟩ = false ∧ w.frozen? ⟨g, 3, none⟩ = false := by
  unfold Blk4 at h
  exact ⟨by simp [World.frozen?, h], by simp [World.frozen?, h], by simp [World.frozen?, h], by simp [World.frozen?, h]⟩
theorem Blk4.keep {w1 : World} {w : World} {g : Nat} {x0 x1 x2 x3 : Value} {t : TypeId} (h : Blk4 w g x0 x1 x2 x3 t) (hb : Below w.heap.size w w1) : Blk4 w1 g x0 x1 x2 x3 t := by
  have := h.lt; unfold Blk4 at *; rw [hb.block _ this]; exact h
theorem blk4_new (w : World) (x0 x1 x2 x3 : Value) (t : TypeId) : Blk4 (w.alloc (.cells #[x0, x1, x2, x3] t)) w.heap.size x0 x1 x2 x3 t := by
  show (w.heap.push _)[w.heap.size]? = _
  simp
theorem blk4_new1 (w : World) (o : Obj) (x0 x1 x2 x3 : Value) (t : TypeId) : Blk4 ((w.alloc o).alloc (.cells #[x0, x1, x2, x3] t)) (w.heap.size + 1) x0 x1 x2 x3 t := by
  have := blk4_new (w.alloc o) x0 x1 x2 x3 t
  simpa using this
theorem blk4_new2 (w : World) (o o' : Obj) (x0 x1 x2 x3 : Value) (t : TypeId) : Blk4 (((w.alloc o).alloc o').alloc (.cells #[x0, x1, x2, x3] t)) (w.heap.size + 2) x0 x1 x2 x3 t := by
  have := blk4_new1 (w.alloc o) o' x0 x1 x2 x3 t
  simpa using this
theorem Blk4.alloc {w : World} {g : Nat} {x0 x1 x2 x3 : Value} {t : TypeId} (h : Blk4 w g x0 x1 x2 x3 t) (o : Obj) : Blk4 (w.alloc o) g x0 x1 x2 x3 t := h.keep (below_self_alloc _ _)
theorem Blk4.drew {w : World} {g : Nat} {x0 x1 x2 x3 : Value} {t : TypeId} (h : Blk4 w g x0 x1 x2 x3 t) : Blk4 w.drew g x0 x1 x2 x3 t := h
theorem Blk4.drewN {w : World} {g : Nat} {x0 x1 x2 x3 : Value} {t : TypeId} (h : Blk4 w g x0 x1 x2 x3 t) (n : Nat) : Blk4 (w.drewN n) g x0 x1 x2 x3 t := h
theorem Blk4.set0 {w : World} {g : Nat} {x0 x1 x2 x3 : Value} {t : TypeId} (h : Blk4 w g x0 x1 x2 x3 t) (z : Value) : Blk4 (w.setCell ⟨g, 0, none⟩ z) g z x1 x2 x3 t := by
  unfold Blk4 at *; simp [World.setCell, Array.getElem?_modify, h]
theorem Blk4.set1 {w : World} {g : Nat} {x0 x1 x2 x3 : Value} {t : TypeId} (h : Blk4 w g x0 x1 x2 x3 t) (z : Value) : Blk4 (w.setCell ⟨g, 1, none⟩ z) g x0 z x2 x3 t := by
  unfold Blk4 at *; simp [World.setCell, Array.getElem?_modify, h]
theorem Blk4.set2 {w : World} {g : Nat} {x0 x1 x2 x3 : Value} {t : TypeId} (h : Blk4 w g x0 x1 x2 x3 t) (z : Value) : Blk4 (w.setCell ⟨g, 2, none⟩ z) g x0 x1 z x3 t := by
  unfold Blk4 at *; simp [World.setCell, Array.getElem?_modify, h]
theorem Blk4.set3 {w : World} {g : Nat} {x0 x1 x2 x3 : Value} {t : TypeId} (h : Blk4 w g x0 x1 x2 x3 t) (z : Value) : Blk4 (w.setCell ⟨g, 3, none⟩ z) g x0 x1 x2 z t := by
  unfold Blk4 at *; simp [World.setCell, Array.getElem?_modify, h]
theorem Blk4.set_other {w : World} {g : Nat} {x0 x1 x2 x3 : Value} {t : TypeId} (h : Blk4 w g x0 x1 x2 x3 t) {p : Addr} {z : Value} (hne : g ≠ p.block) : Blk4 (w.setCell p z) g x0 x1 x2 x3 t := by
  unfold Blk4 at *; rw [Below.heap_setCell _ _ _ _ hne]; exact h

def Blk5 (w : World) (g : Nat) (x0 x1 x2 x3 x4 : Value) (t : TypeId) : Prop := w.heap[g]? = some (.cells #[x0, x1, x2, x3, x4] t (0, 0))
theorem Blk5.lt {w : World} {g : Nat} {x0 x1 x2 x3 x4 : Value} {t : TypeId} (h : Blk5 w g x0 x1 x2 x3 x4 t) : g < w.heap.size := by
  unfold Blk5 at h; exact (Array.getElem?_eq_some_iff.1 h).1
theorem Blk5.cells {w : World} {g : Nat} {x0 x1 x2 x3 x4 : Value} {t : TypeId} (h : Blk5 w g x0 x1 x2 x3 x4 t) :
    w.cell? ⟨g, 0, none⟩ = some x0 ∧ w.cell? ⟨g, 1, none⟩ = some x1 ∧ w.cell? ⟨g, 2, none⟩ = some x2 ∧ w.cell? ⟨g, 3, none⟩ = some x3 ∧ w.cell? ⟨g, 4, none⟩ = some x4 ∧ g < w.heap.size := by
  have := h.lt; unfold Blk5 at h
  exact ⟨by simp [World.cell?, h], by simp [World.cell?, h], by simp [World.cell?, h], by simp [World.cell?, h], by simp [World.cell?, h], this⟩
theorem Blk5.frozen {w : World} {g : Nat} {x0 x1 x2 x3 x4 : Value} {t : TypeId} (h : Blk5 w g x0 x1 x2 x3 x4 t) :
    w.frozen? ⟨g, 0, none⟩ = false ∧ w.frozen? ⟨g, 1, none⟩ = false ∧ w.frozen? ⟨g, 2, none⟩ = false ∧ w.frozen? ⟨g, 3, none⟩ = false ∧ w.frozen? ⟨g, 4, none⟩ = false := by
  unfold Blk5 at h
  exact ⟨by simp [World.frozen?, h], by simp [World.frozen?, h], by simp [World.frozen?, h], by simp [World.frozen?, h], by simp [World.frozen?, h]⟩
theorem Blk5.keep {w1 : World} {w : World} {g : Nat} {x0 x1 x2 x3 x4 : Value} {t : TypeId} (h : Blk5 w g x0 x1 x2 x3 x4 t) (hb : Below w.heap.size w w1) : Blk5 w1 g x0 x1 x2 x3 x4 t := by
  have := h.lt; unfold Blk5 at *; rw [hb.block _ this]; exact h
theorem blk5_new (w : World) (x0 x1 x2 x3 x4 : Value) (t : TypeId) : Blk5 (w.alloc (.cells #[x0, x1, x2, x3, x4] t)) w.heap.size x0 x1 x2 x3 x4 t := by
  show (w.heap.push _)[w.heap.size]? = _
  simp
theorem blk5_new1 (w : World) (o : Obj) (x0 x1 x2 x3 x4 : Value) (t : TypeId) : Blk5 ((w.alloc o).alloc (.cells #[x0, x1, x2, x3, x4] t)) (w.heap.size + 1) x0 x1 x2 x3 x4 t := by
  have := blk5_new (w.alloc o) x0 x1 x2 x3 x4 t
  simpa using this
theorem blk5_new2 (w : World) (o o' : Obj) (x0 x1 x2 x3 x4 : Value) (t : TypeId) : Blk5 (((w.alloc o).alloc o').alloc (.cells #[x0, x1, x2, x3, x4] t)) (w.heap.size + 2) x0 x1 x2 x3 x4 t := by
  have := blk5_new1 (w.alloc o) o' x0 x1 x2 x3 x4 t
  simpa using this
theorem Blk5.alloc {w : World} {g : Nat} {x0 x1 x2 x3 x4 : Value} {t : TypeId} (h : Blk5 w g x0 x1 x2 x3 x4 t) (o : Obj) : Blk5 (w.alloc o) g x0 x1 x2 x3 x4 t := h.keep (below_self_alloc _ _)
theorem Blk5.drew {w : World} {g : Nat} {x0 x1 x2 x3 x4 : Value} {t : TypeId} (h : Blk5 w g x0 x1 x2 x3 x4 t) : Blk5 w.drew g x0 x1 x2 x3 x4 t := h
theorem Blk5.drewN {w : World} {g : Nat} {x0 x1 x2 x3 x4 : Value} {t : TypeId} (h : Blk5 w g x0 x1 x2 x3 x4 t) (n : Nat) : Blk5 (w.drewN n) g x0 x1 x2 x3 x4 t := h
theorem Blk5.set0 {w : World} {g : Nat} {x0 x1 x2 x3 x4 : Value} {t : TypeId} (h : Blk5 w g x0 x1 x2 x3 x4 t) (z : Value) : Blk5 (w.setCell ⟨g, 0, none⟩ z) g z x1 x2 x3 x4 t := by
  unfold Blk5 at *; simp [World.setCell, Array.getElem?_modify, h]
theorem Blk5.set1 {w : World} {g : Nat} {x0 x1 x2 x3 x4 : Value} {t : TypeId} (h : Blk5 w g x0 x1 x2 x3 x4 t) (z : Value) : Blk5 (w.setCell ⟨g, 1, none⟩ z) g x0 z x2 x3 x4 t := by
  unfold Blk5 at *; simp [World.setCell, Array.getElem?_modify, h]
theorem Blk5.set2 {w : World} {g : Nat} {x0 x1 x2 x3 x4 : Value} {t : TypeId} (h : Blk5 w g x0 x1 x2 x3 x4 t) (z : Value) : Blk5 (w.setCell ⟨g, 2, none⟩ z) g x0 x1 z x3 x4 t := by
  unfold Blk5 at *; simp [World.setCell, Array.getElem?_modify, h]
theorem Blk5.set3 {w : World} {g : Nat} {x0 x1 x2 x3 x4 : Value} {t : TypeId} (h : Blk5 w g x0 x1 x2 x3 x4 t) (z : Value) : Blk5 (w.setCell ⟨g, 3, none⟩ z) g x0 x1 x2 z x4 t := by
  unfold Blk5 at *; simp [World.setCell, Array.getElem?_modify, h]
theorem Blk5.set4 {w : World} {g : Nat} {x0 x1 x2 x3 x4 : Value} {t : TypeId} (h : Blk5 w g x0 x1 x2 x3 x4 t) (z : Value) : Blk5 (w.setCell ⟨g, 4, none⟩ z) g x0 x1 x2 x3 z t := by
  unfold Blk5 at *; simp [World.setCell, Array.getElem?_modify, h]
theorem Blk5.set_other {w : World} {g : Nat} {x0 x1 x2 x3 x4 : Value} {t : TypeId} (h : Blk5 w g x0 x1 x2 x3 x4 t) {p : Addr} {z : Value} (hne : g ≠ p.block) : Blk5 (w.setCell p z) g x0 x1 x2 x3 x4 t := by
  unfold Blk5 at *; rw [Below.heap_setCell _ _ _ _ hne]; exact h

end Go.Proofs.Yteeaafdgkepaeaa
