/- Texts of bit vectors are read back: the plain law. No condition but what stands in each statement. -/
import Derived.Test.YtpnpjdebmakamaaWq
namespace Go.Proofs.Ytpnpjdebmakamaa
open Go.RowKit

theorem text_read_nat : ∀ m : Nat, m < 5 → ∀ n : Nat, n < 16 → (!vokB m n || (rdOk (vtxt m n) && decide (rdW (vtxt m n) = m) && decide (rdN (vtxt m n) = n))) = true := by decide +kernel
theorem text_read {a b : Int} : rdOk (vtxt a b) = vokB a b ∧ (vokB a b = true → rdW (vtxt a b) = a ∧ rdN (vtxt a b) = b) := by
  cases h : vokB a b
  · have e : vtxt a b = ⟨#[]⟩ := by simp [vtxt, h]
    rw [e]
    exact ⟨by decide, fun h => by cases h⟩
  · obtain ⟨m, n, rfl, rfl, q1, q2, q3⟩ := vok_natq h
    have := text_read_nat m q2 n q3
    simp only [h, Bool.not_true, Bool.false_or, Bool.and_eq_true, decide_eq_true_eq] at this
    exact ⟨this.1.1, fun _ => ⟨this.1.2, this.2⟩⟩
theorem u8_eq {c : UInt8} {n : Nat} (h : c.toNat = n) : c = UInt8.ofNat n := by
  rw [← h, UInt8.ofNat_toNat]
theorem read_text {s : ByteArray} (h : rdOk s = true) : vtxt (rdW s) (rdN s) = s ∧ vokB (rdW s) (rdN s) = true := by
  obtain ⟨⟨l⟩⟩ := s
  simp only [rdOk, decide_eq_true_eq] at h
  obtain ⟨h1, h2, h3, h4⟩ := h
  have hs : (ByteArray.mk ⟨l⟩).size = l.length := rfl
  rw [hs] at h1 h2 h4
  have c : ∀ i, i < l.length → 1 ≤ i → l.getD i 0 = 48 ∨ l.getD i 0 = 49 := fun i hi h1 => by
    rcases h4 i hi h1 with h | h
    · exact .inl (u8_eq h)
    · exact .inr (u8_eq h)
  have c0 : l.getD 0 0 = 35 := u8_eq h3
  clear h3 h4 hs
  match l, h1, h2 with
  | [a0, a1], _, _ =>
    have x0 : a0 = 35 := c0
    have x1 : a1 = 48 ∨ a1 = 49 := c 1 (by simp) (by decide)
    subst x0
    rcases x1 with rfl | rfl <;> exact ⟨by kernel_rfl, by kernel_rfl⟩
  | [a0, a1, a2], _, _ =>
    have x0 : a0 = 35 := c0
    have x1 : a1 = 48 ∨ a1 = 49 := c 1 (by simp) (by decide)
    have x2 : a2 = 48 ∨ a2 = 49 := c 2 (by simp) (by decide)
    subst x0
    rcases x1 with rfl | rfl <;> rcases x2 with rfl | rfl <;> exact ⟨by kernel_rfl, by kernel_rfl⟩
  | [a0, a1, a2, a3], _, _ =>
    have x0 : a0 = 35 := c0
    have x1 : a1 = 48 ∨ a1 = 49 := c 1 (by simp) (by decide)
    have x2 : a2 = 48 ∨ a2 = 49 := c 2 (by simp) (by decide)
    have x3 : a3 = 48 ∨ a3 = 49 := c 3 (by simp) (by decide)
    subst x0
    rcases x1 with rfl | rfl <;> rcases x2 with rfl | rfl <;> rcases x3 with rfl | rfl <;> exact ⟨by kernel_rfl, by kernel_rfl⟩
  | [a0, a1, a2, a3, a4], _, _ =>
    have x0 : a0 = 35 := c0
    have x1 : a1 = 48 ∨ a1 = 49 := c 1 (by simp) (by decide)
    have x2 : a2 = 48 ∨ a2 = 49 := c 2 (by simp) (by decide)
    have x3 : a3 = 48 ∨ a3 = 49 := c 3 (by simp) (by decide)
    have x4 : a4 = 48 ∨ a4 = 49 := c 4 (by simp) (by decide)
    subst x0
    rcases x1 with rfl | rfl <;> rcases x2 with rfl | rfl <;> rcases x3 with rfl | rfl <;> rcases x4 with rfl | rfl <;> exact ⟨by kernel_rfl, by kernel_rfl⟩
  | [], h1, _ => exact absurd h1 (by simp)
  | [_], h1, _ => exact absurd h1 (by simp)
  | _ :: _ :: _ :: _ :: _ :: _ :: _, _, h2 => exact absurd h2 (by simp)
end Go.Proofs.Ytpnpjdebmakamaa
