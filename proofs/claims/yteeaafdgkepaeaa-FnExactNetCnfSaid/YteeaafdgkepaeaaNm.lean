/- What a mark says. The conditions stand in each statement. -/
import Derived.Test.YteeaafdgkepaeaaSb
namespace Go.Proofs.Yteeaafdgkepaeaa
open Go.RowKit

/-- what a mark says -/
def nlit (l : List Bool) (m : Int) : Bool :=
  if 0 < m then (if m ≤ l.length then l.getD (m.toNat - 1) false else false) else if m < 0 ∧ -(l.length : Int) ≤ m then !l.getD ((-m).toNat - 1) false else false

/-- a mark without its turn -/
def mabs (m : Int) : Int := if m < 0 then -m else m
/-- the five kinds of marks -/
theorem nlit_cases (l : List Bool) (m : Int) :
    (0 < m ∧ m ≤ l.length ∧ nlit l m = l.getD (m.toNat - 1) false) ∨ (m < 0 ∧ -(l.length : Int) ≤ m ∧ nlit l m = !l.getD ((-m).toNat - 1) false) ∨ (((l.length : Int) < m ∨ m < -(l.length : Int) ∨ m = 0) ∧ nlit l m = false) := by
  unfold nlit
  by_cases h1 : 0 < m
  · rw [if_pos h1]
    by_cases h2 : m ≤ l.length
    · exact .inl ⟨h1, h2, by rw [if_pos h2]⟩
    · exact .inr (.inr ⟨.inl (by omega), by rw [if_neg h2]⟩)
  · rw [if_neg h1]
    by_cases h2 : m < 0 ∧ -(l.length : Int) ≤ m
    · exact .inr (.inl ⟨h2.1, h2.2, by rw [if_pos h2]⟩)
    · exact .inr (.inr ⟨by omega, by rw [if_neg h2]⟩)

end Go.Proofs.Yteeaafdgkepaeaa
