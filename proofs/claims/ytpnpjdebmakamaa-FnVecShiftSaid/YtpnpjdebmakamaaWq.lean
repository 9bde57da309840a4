/- Plain laws of the operations on bit vectors: the results are right again, and of as many bits. The conditions stand in each statement. -/
import Derived.Test.YtpnpjdebmakamaaWp
import Derived.Test.YtpnpjdebmakamaaVj
namespace Go.Proofs.Ytpnpjdebmakamaa
open Go.RowKit

/-- a right number as natural numbers -/
theorem vok_natq {a b : Int} (h : vokB a b = true) : ∃ m n : Nat, a = m ∧ b = n ∧ 1 ≤ m ∧ m < 5 ∧ n < 16 := by
  obtain ⟨h1, h2, h3, h4⟩ := vokB_bd h
  have := vok_two h
  exact ⟨a.toNat, b.toNat, by omega, by omega, by omega, by omega, by omega⟩
theorem vok_mk {a b : Int} (h1 : 1 ≤ a) (h2 : a ≤ 4) (h3 : 0 ≤ b) (h4 : b < two a.toNat) : vokB a b = true := by
  simp only [vokB, decide_eq_true_eq]; exact ⟨h1, h2, h3, h4⟩
theorem bin_ok {op a b d : Int} (h1 : 3 ≤ op) (h2 : op ≤ 13) (h : vokB a b = true) (h' : vokB a d = true) : binW op a b a d = a ∧ vokB a (binN op a b a d) = true ∧ binN op a b a d = binR op a b d % two a.toNat := by
  have hb : binB op a b a d = true := by
    have : ¬ op = 14 := by omega
    simp [binB, h, h', this, h1, h2]
  have h14 : ¬ op = 14 := by omega
  have e : binN op a b a d = binR op a b d % two a.toNat := by simp [binN, hb, h14]
  obtain ⟨q1, q2, q3, q4⟩ := vokB_bd h
  have := two_pos a.toNat
  exact ⟨by simp [binW, hb, h14], by rw [e]; exact vok_mk q1 q2 (Int.emod_nonneg _ (by omega)) (Int.emod_lt_of_pos _ (by omega)), e⟩
theorem un_ok {op a b : Int} (h1 : op = 1 ∨ op = 2) (h : vokB a b = true) : unW op a b = a ∧ vokB a (unN op a b) = true := by
  obtain ⟨q1, q2, q3, q4⟩ := vokB_bd h
  have := two_pos a.toNat
  have hb : unB op a b = true := by rcases h1 with rfl | rfl <;> simp [unB, h]
  refine ⟨by simp [unW, hb], ?_⟩
  rcases h1 with rfl | rfl
  · simp only [unN, hb, if_true]; exact vok_mk q1 q2 (by omega) (by omega)
  · simp only [unN, hb, if_true]; exact vok_mk q1 q2 (Int.emod_nonneg _ (by omega)) (Int.emod_lt_of_pos _ (by omega))
end Go.Proofs.Ytpnpjdebmakamaa
