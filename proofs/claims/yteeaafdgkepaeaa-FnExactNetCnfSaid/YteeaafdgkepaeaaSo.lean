/- Arguments that are slices of bools and of ints, opened: the lists that they read as. -/
import Derived.Test.YteeaafdgkepaeaaSa
import Derived.ChangeSlices
import Derived.WideShapes
import Derived.Deep.Grids
namespace Go.Proofs.Yteeaafdgkepaeaa
open Go.ChangeShapes Go.WideShapes Go.Deep

theorem lt_of_cells {w : World} {b i : Nat} {x : Value} (h : w.cell? ⟨b, i, none⟩ = some x) : b < w.heap.size := by
  rcases Nat.lt_or_ge b w.heap.size with h1 | h1
  · exact h1
  · simp [World.cell?, Array.getElem?_eq_none h1] at h
/-- a row out of cells at an address of whatever kind -/
theorem Row.mk_add {w : World} {p : Addr} {n cap : Nat} {f : Nat → Value} (h1 : n ≤ cap) (h2 : cap ≤ maxLen) (h : ∀ i, i < n → w.cell? (p.add i) = some (f i)) : Row w (some p) n cap f := by
  refine ⟨h1, h2, ?_⟩
  rcases Nat.eq_zero_or_pos n with hz | hz
  · exact .inl hz
  · obtain ⟨b, off, spot⟩ := p
    have hc0 := h 0 hz
    have hspot : spot = none := by simpa [Addr.add] using World.cell?_spot hc0
    subst hspot
    refine .inr ⟨b, off, rfl, lt_of_cells (by simpa [Addr.add] using hc0), fun i hi => ?_⟩
    have ea : (Addr.mk b off none).add i = ⟨b, off + i, none⟩ := by simp only [Addr.add]; split <;> simp_all
    rw [← ea]; exact h i hi
theorem Row.none {w : World} (f : Nat → Value) : Row w none 0 0 f := ⟨Nat.le_refl _, Nat.zero_le _, .inl rfl⟩

set_option maxRecDepth 100000 in
theorem bools_open {H : Type} {enc : TypeId × Value → H} {W : World} {base : Nat} {t e : TypeId} {v : Value} {x : DataW H} {ps : List MemPlace}
    (ht : Try.prog.underlying t = some (.slice e)) (he : Try.prog.underlying e = some .bool) (hc : Try.prog.cellsOf e = 1)
    (hval : Value.okWide Try.prog W .any base t v) (h : DataW.Trod enc Try.prog W 0 (fun _ => true) true t v x ps) : ∃ l, Bools W v l := by
  obtain ⟨a, len, cap, rfl⟩ := okWide_slice ht hval
  obtain ⟨fuel, hf⟩ := h
  rcases open_bools ht he hc hf with ⟨hcs, _⟩ | ⟨p, l, c, B, hcs, _, hl, hm, _, hcell⟩
  · simp [Value.cells] at hcs
    obtain ⟨rfl, rfl, rfl⟩ := hcs
    exact ⟨[], none, 0, rfl, Row.none _⟩
  · simp [Value.cells] at hcs
    obtain ⟨rfl, rfl, rfl⟩ := hcs
    have e1 : ((List.range len).map B).length = len := by simp
    refine ⟨(List.range len).map B, some p, cap, by rw [e1], ?_⟩
    rw [e1]
    refine (Row.mk_add hl hm fun i hi => hcell i (by omega)).congr fun i hi => ?_
    simp [List.getD_eq_getElem?_getD, hi]
set_option maxRecDepth 100000 in
theorem ints_open {H : Type} {enc : TypeId × Value → H} {W : World} {base : Nat} {t e : TypeId} {v : Value} {x : DataW H} {ps : List MemPlace}
    (ht : Try.prog.underlying t = some (.slice e)) (he : Try.prog.underlying e = some (.int .i64)) (hc : Try.prog.cellsOf e = 1)
    (hval : Value.okWide Try.prog W .any base t v) (h : DataW.Trod enc Try.prog W 0 (fun _ => true) true t v x ps) : ∃ l, Ints W v l ∧ ∀ x ∈ l, (Lit.int .i64 x).wf = true := by
  obtain ⟨a, len, cap, rfl⟩ := okWide_slice ht hval
  obtain ⟨fuel, hf⟩ := h
  rcases open_ints ht he hc hf with ⟨hcs, _⟩ | ⟨p, l, c, zs, hcs, _, hl, hm, hz, _, hcell, hwz⟩
  · simp [Value.cells] at hcs
    obtain ⟨rfl, rfl, rfl⟩ := hcs
    exact ⟨[], ⟨none, 0, rfl, Row.none _⟩, by simp⟩
  · simp [Value.cells] at hcs
    obtain ⟨rfl, rfl, rfl⟩ := hcs
    simp at hz
    have e1 : (zs.take len).length = len := by simp; omega
    refine ⟨zs.take len, ⟨some p, cap, by rw [e1], ?_⟩, fun x hx => hwz x (List.mem_of_mem_take hx)⟩
    rw [e1]
    refine (Row.mk_add hl hm fun i hi => hcell i (by omega)).congr fun i hi => ?_
    simp [List.getD_eq_getElem?_getD, hi]
end Go.Proofs.Yteeaafdgkepaeaa
