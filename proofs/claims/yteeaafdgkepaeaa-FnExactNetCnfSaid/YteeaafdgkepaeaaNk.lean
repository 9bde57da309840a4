/- A map whose keys are gates: what a gate reads as. The conditions stand in each statement. -/
import Derived.Test.YteeaafdgkepaeaaNo
import Derived.Maps.OwnSet
import Derived.DeepKeys4
namespace Go.Proofs.Yteeaafdgkepaeaa
open Go.RowKit

theorem gate_keyed : Maps.Keyed Try.prog 47 :=
  Maps.Keyed.of_law (deep_law_laid (by kernel_rfl) (m := 4) (by decide) (of_decide_eq_true (by kernel_rfl)) (by kernel_rfl) (by kernel_rfl))
def gk (g : Gt) : Lit := .string (keyBytes [.bool g.1, .int .i64 g.2.1, .int .i64 g.2.2])
theorem keyOf_gate {g : Gt} (h : gtWf g) : keyOf Try.prog 47 (gv g) = some (gk g) := by
  obtain ⟨x, a, b⟩ := g
  obtain ⟨wa, wb⟩ := h
  dsimp only at wa wb
  have hkt : Try.prog.keyType 47 = true := by kernel_rfl
  have hc : Try.prog.cellsOf 47 = 3 := by kernel_rfl
  obtain ⟨m, hm⟩ : ∃ m, Try.prog.types.size = m + 1 := Nat.exists_eq_succ_of_ne_zero (of_decide_eq_true (by kernel_rfl))
  obtain ⟨m, rfl⟩ : ∃ n, m = n + 1 := Nat.exists_eq_succ_of_ne_zero (by
    have h2 : Try.prog.types.size ≠ 1 := of_decide_eq_true (by kernel_rfl)
    rintro rfl; exact h2 hm)
  have hcb : Try.prog.cellsOf 4 = 1 := by kernel_rfl
  have hci : Try.prog.cellsOf 3 = 1 := by kernel_rfl
  unfold keyOf gv gk
  simp only [Try.underlying47]
  rw [if_pos (by simp [hkt, Value.formed, Try.underlying47, hc]), hm]
  unfold Program.keyLits
  simp only [Try.underlying47, Value.cells]
  rw [if_pos (by rw [hc]; exact ⟨rfl, by kernel_rfl⟩)]
  rw [List.mapM_cons, List.mapM_cons, List.mapM_cons, List.mapM_nil]
  simp [Program.keyLits, Try.underlying4, Try.underlying3, hcb, hci, wa, wb]
theorem gk_inj {g g' : Gt} (h : gtWf g) (h' : gtWf g') (e : gk g = gk g') : g = g' := by
  have := gate_keyed.inj (keyOf_gate h) (by rw [e]; exact keyOf_gate h')
  obtain ⟨x, a, b⟩ := g
  obtain ⟨x', a', b'⟩ := g'
  simpa [gv] using this
end Go.Proofs.Yteeaafdgkepaeaa
