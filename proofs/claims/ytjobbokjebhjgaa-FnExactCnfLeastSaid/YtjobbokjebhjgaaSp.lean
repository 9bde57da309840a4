/- Arguments that are slices of slices of ints, opened: the lists that they read as. -/
import Derived.Test.YtjobbokjebhjgaaSo
import Derived.Test.YtjobbokjebhjgaaSs
import Derived.Deep.Matrix
namespace Go.Proofs.Ytjobbokjebhjgaa
open Go.ChangeShapes Go.WideShapes Go.Deep

theorem Row.of_cells {w : World} {a : Option Addr} {n cap : Nat} {f : Nat → Value} (h1 : n ≤ cap) (h2 : cap ≤ maxLen) (h0 : a = Option.none → cap = 0) (h : ∀ p, a = some p → ∀ i, i < n → w.cell? (p.add i) = some (f i)) : Row w a n cap f := by
  cases a with
  | none => exact ⟨h1, h2, .inl (by have := h0 rfl; omega)⟩
  | some p => exact Row.mk_add h1 h2 (h p rfl)

set_option maxRecDepth 100000 in
theorem intss_open {H : Type} {enc : TypeId × Value → H} {W : World} {t e q : TypeId} {fuel : Nat} {v : Value} {x : DataW H × List MemPlace}
    (ht : Try.prog.underlying t = some (.slice e)) (he : Try.prog.underlying e = some (.slice q)) (hq : Try.prog.underlying q = some (.int .i64)) (ce : Try.prog.cellsOf e = 1) (cq : Try.prog.cellsOf q = 1)
    (h : DataW.trod enc Try.prog W 0 (fun _ => true) true fuel t [v] = some x) : ∃ ls : List (List Int), IntSS W v ls ∧ ∀ i, i < ls.length → ∀ x ∈ ls.getD i [], (Lit.int .i64 x).wf = true := by
  rcases open_int_rows ht he hq ce cq h with ⟨hcs, _⟩ | ⟨a, len, cap, A, L, C, Z, hcs, _, hl, hm, _, hrow⟩
  · obtain rfl : v = .slice none 0 0 := by simpa using hcs
    exact ⟨[], ⟨none, 0, fun _ => undef, rfl, Row.none _, fun i hi => absurd hi (Nat.not_lt_zero _)⟩, fun i hi => absurd hi (Nat.not_lt_zero _)⟩
  · obtain rfl : v = .slice (some a) len cap := by simpa using hcs
    have e1 : ((List.range len).map fun r => (Z r).take (L r)).length = len := by simp
    have e2 : ∀ i, i < len → ((List.range len).map fun r => (Z r).take (L r)).getD i [] = (Z i).take (L i) := fun i hi => by simp [List.getD_eq_getElem?_getD, hi]
    refine ⟨(List.range len).map fun r => (Z r).take (L r), ⟨some a, cap, fun r => .slice (A r) (L r) (C r), by rw [e1], ?_, fun i hi => ?_⟩, fun i hi x hx => ?_⟩
    · rw [e1]
      exact Row.mk_add hl hm fun i hi => (hrow i (by omega)).1
    · rw [e1] at hi
      rw [e2 i hi]
      obtain ⟨_, h2, h3, h4, _, h6, h7⟩ := hrow i (by omega)
      have e3 : ((Z i).take (L i)).length = L i := by simp; omega
      refine ⟨A i, C i, by rw [e3], ?_⟩
      rw [e3]
      refine (Row.of_cells h2 h3 h6 fun p hp j hj => (h7 p hp).2 j (by omega)).congr fun j hj => ?_
      simp [List.getD_eq_getElem?_getD, hj]
    · rw [e1] at hi
      rw [e2 i hi] at hx
      exact (hrow i (by omega)).2.2.2.2.1 x (List.mem_of_mem_take hx)
set_option maxRecDepth 100000 in
theorem ints_open1 {H : Type} {enc : TypeId × Value → H} {W : World} {t e : TypeId} {fuel : Nat} {v : Value} {x : DataW H × List MemPlace}
    (ht : Try.prog.underlying t = some (.slice e)) (he : Try.prog.underlying e = some (.int .i64)) (hc : Try.prog.cellsOf e = 1)
    (h : DataW.trod enc Try.prog W 0 (fun _ => true) true fuel t [v] = some x) : ∃ l, Ints W v l ∧ ∀ x ∈ l, (Lit.int .i64 x).wf = true := by
  rcases open_ints ht he hc h with ⟨hcs, _⟩ | ⟨p, len, cap, zs, hcs, _, hl, hm, hz, _, hcell, hwz⟩
  · obtain rfl : v = .slice none 0 0 := by simpa using hcs
    exact ⟨[], ⟨none, 0, rfl, Row.none _⟩, by simp⟩
  · obtain rfl : v = .slice (some p) len cap := by simpa using hcs
    simp at hz
    have e1 : (zs.take len).length = len := by simp; omega
    refine ⟨zs.take len, ⟨some p, cap, by rw [e1], ?_⟩, fun x hx => hwz x (List.mem_of_mem_take hx)⟩
    rw [e1]
    refine (Row.mk_add hl hm fun i hi => hcell i (by omega)).congr fun i hi => ?_
    simp [List.getD_eq_getElem?_getD, hi]
end Go.Proofs.Ytjobbokjebhjgaa
