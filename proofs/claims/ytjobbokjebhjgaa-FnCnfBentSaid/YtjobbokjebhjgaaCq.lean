/- Counting up truth values, and the least that hold: the plain law. The conditions stand in each statement. -/
import Derived.Test.YtjobbokjebhjgaaCo
import Derived.Test.YtjobbokjebhjgaaLv
namespace Go.Proofs.Ytjobbokjebhjgaa
open Go.RowKit

/-! ### the plain law: counting up -/
def flipFrom : Nat → List Bool → List Bool × Bool
  | 0, l => (l, false)
  | j + 1, l => if l.getD j false then flipFrom j (l.set j false) else (l.set j true, true)
def upOk (n k : Nat) : Bool := if k < 2 ^ n then decide (flipFrom n (l4v n k) = if k + 1 < 2 ^ n then (l4v n (k + 1), true) else (l4v n 0, false)) else true
theorem up_all : ∀ n, n < 11 → ∀ k, k < 1024 → upOk n k = true := by decide +kernel
theorem up_next {n k : Nat} (hn : n ≤ 10) (hk : k < 2 ^ n) : flipFrom n (l4v n k) = if k + 1 < 2 ^ n then (l4v n (k + 1), true) else (l4v n 0, false) := by
  have h2 : 2 ^ n ≤ 2 ^ 10 := Nat.pow_le_pow_right (by decide) hn
  have := up_all n (by omega) k (by omega)
  unfold upOk at this
  rw [if_pos hk] at this
  exact of_decide_eq_true this
def leastFrom (n : Nat) (p : List Bool → Bool) : Nat → Nat → List Bool × Bool
  | 0, _ => ([], false)
  | f + 1, k => if p (l4v n k) then (l4v n k, true) else leastFrom n p f (k + 1)
def holdsL (ls : List (List Int)) (l : List Bool) : Bool := ls.all fun c => c.any (nlit l)
def leastL (m : Int) (ls : List (List Int)) : List Bool × Bool := if cnfOkL m ls = true ∧ m ≤ 10 then leastFrom m.toNat (holdsL ls) (2 ^ m.toNat) 0 else ([], false)
theorem leastFrom_step {n : Nat} {p : List Bool → Bool} {k : Nat} {z : List Bool × Bool} (hk : k < 2 ^ n) (h : z = leastFrom n p (2 ^ n - k) k) : (p (l4v n k) = true ∧ z = (l4v n k, true)) ∨ (p (l4v n k) = false ∧ z = leastFrom n p (2 ^ n - (k + 1)) (k + 1)) := by
  rw [show 2 ^ n - k = (2 ^ n - (k + 1)) + 1 by omega] at h
  unfold leastFrom at h
  cases hp : p (l4v n k)
  · rw [hp] at h; exact .inr ⟨rfl, h⟩
  · rw [hp] at h; exact .inl ⟨rfl, h⟩
theorem leastFrom_end {n : Nat} {p : List Bool → Bool} : leastFrom n p (2 ^ n - 2 ^ n) (2 ^ n) = ([], false) := by
  rw [Nat.sub_self]; rfl
theorem l4v_zero (n : Nat) : l4v n 0 = List.replicate n false := by
  apply List.ext_getElem (by simp [l4v])
  intro i h1 h2
  simp [l4v, bitAt]
theorem cnfOkL_m {m : Int} {ls : List (List Int)} (h : cnfOkL m ls = true) : 0 ≤ m ∧ m ≤ 700 ∧ (ls.length : Int) ≤ 2500 := by
  unfold cnfOkL at h
  rw [Bool.and_eq_true] at h
  exact of_decide_eq_true h.1
theorem cnfHasL_of {m : Int} {ls : List (List Int)} {l : List Bool} (h : cnfOkL m ls = true) (hl : (l.length : Int) = m) : cnfHasL m ls l = holdsL ls l := by
  unfold cnfHasL holdsL
  rw [h, decide_eq_true hl, Bool.true_and, Bool.true_and]

end Go.Proofs.Ytjobbokjebhjgaa
