/- Environments by number: the digits, how one is followed by the next, and what they add up to. Plain law, no program. The conditions stand in each statement. -/
import Derived.Test.YtklbdfjmhbiheaaDoorEv
namespace Go.Proofs.YtklbdfjmhbiheaaDoor
open Go.RowKit

theorem nat_next_div {k p : Nat} (hp : 0 < p) (h : (k + 1) % p = 0) : (k + 1) / p = k / p + 1 := by
  have h1 := Nat.div_add_mod (k + 1) p
  have h2 := Nat.div_add_mod k p
  have h3 := Nat.mod_lt k hp
  rw [h, Nat.add_zero] at h1
  generalize (k + 1) / p = a at *
  generalize k / p = b at *
  generalize k % p = r at *
  have h4 : p * a = p * b + (r + 1) := by omega
  rcases Nat.lt_trichotomy a (b + 1) with h5 | h5 | h5
  · have : p * a ≤ p * b := Nat.mul_le_mul_left p (by omega)
    omega
  · exact h5
  · have : p * (b + 2) ≤ p * a := Nat.mul_le_mul_left p (by omega)
    rw [Nat.mul_add] at this
    omega
theorem nat_same_div {k p : Nat} (hp : 0 < p) (h : (k + 1) % p ≠ 0) : (k + 1) / p = k / p := by
  have h1 := Nat.div_add_mod (k + 1) p
  have h2 := Nat.div_add_mod k p
  have h3 := Nat.mod_lt k hp
  have h6 := Nat.mod_lt (k + 1) hp
  generalize (k + 1) / p = a at *
  generalize k / p = b at *
  generalize (k + 1) % p = s at *
  generalize k % p = r at *
  rcases Nat.lt_trichotomy a b with h5 | h5 | h5
  · have : p * (a + 1) ≤ p * b := Nat.mul_le_mul_left p (by omega)
    rw [Nat.mul_add] at this
    omega
  · exact h5
  · have : p * (b + 1) ≤ p * a := Nat.mul_le_mul_left p (by omega)
    rw [Nat.mul_add] at this
    omega
theorem mod_pow_le {x s t : Nat} (h : s ≤ t) (h0 : x % 2 ^ t = 0) : x % 2 ^ s = 0 := by
  have : 2 ^ s ∣ x := Nat.dvd_trans (Nat.pow_dvd_pow 2 h) (Nat.dvd_of_mod_eq_zero h0)
  exact Nat.mod_eq_zero_of_dvd this

def wd (ds : List Dc) (i : Nat) : Nat := (ds.getD i dz).2.toNat
def suf (ds : List Dc) (i : Nat) : Nat := (bitsTo ds ds.length - bitsTo ds i).toNat
theorem suf_end (ds : List Dc) : suf ds ds.length = 0 := by unfold suf; omega
theorem suf_step {ds : List Dc} (hok : ∀ k, k < ds.length → OkAt ds k) {i : Nat} (hi : i < ds.length) : suf ds i = suf ds (i + 1) + wd ds i := by
  have h1 := bitsTo_mono hok (Nat.succ_le_of_lt hi)
  obtain ⟨_, h2, _⟩ := hok i hi
  have h3 : bitsTo ds (i + 1) = bitsTo ds i + (ds.getD i dz).2 := rfl
  unfold suf wd
  simp only [Nat.succ_eq_add_one] at h1
  omega
theorem suf_le {ds : List Dc} (hok : ∀ k, k < ds.length → OkAt ds k) {i j : Nat} (hij : i ≤ j) (hj : j ≤ ds.length) : suf ds j ≤ suf ds i := by
  have h1 := bitsTo_mono (ds := ds) (k := i) (n := j) (fun k hk => hok k (by omega)) hij
  unfold suf; omega
theorem suf_zero (ds : List Dc) : suf ds 0 = (bitsTo ds ds.length).toNat := by unfold suf; simp [bitsTo]
def dig (ds : List Dc) (k i : Nat) : Nat := (k / 2 ^ suf ds (i + 1)) % 2 ^ wd ds i
theorem dig_lt (ds : List Dc) (k i : Nat) : dig ds k i < 2 ^ wd ds i := Nat.mod_lt _ (Nat.pow_pos (by omega))
theorem dig_zero (ds : List Dc) (i : Nat) : dig ds 0 i = 0 := by unfold dig; simp
theorem q_step {ds : List Dc} (hok : ∀ k, k < ds.length → OkAt ds k) {i : Nat} (hi : i < ds.length) (k : Nat) : k / 2 ^ suf ds (i + 1) / 2 ^ wd ds i = k / 2 ^ suf ds i := by
  rw [Nat.div_div_eq_div_mul, ← Nat.pow_add, ← suf_step hok hi]
/-- one place on: no carry -/
theorem dig_inc {ds : List Dc} {k i : Nat} (h : (k + 1) % 2 ^ suf ds (i + 1) = 0) (hl : dig ds k i + 1 < 2 ^ wd ds i) : dig ds (k + 1) i = dig ds k i + 1 := by
  unfold dig at *
  rw [nat_next_div (Nat.pow_pos (by omega)) h, Nat.add_mod]
  have h1 : 1 % 2 ^ wd ds i = 1 := Nat.mod_eq_of_lt (by omega)
  rw [h1]
  exact Nat.mod_eq_of_lt hl
theorem dig_carry {ds : List Dc} (hok : ∀ k, k < ds.length → OkAt ds k) {k i : Nat} (hi : i < ds.length) (h : (k + 1) % 2 ^ suf ds (i + 1) = 0) (hl : ¬ dig ds k i + 1 < 2 ^ wd ds i) :
    dig ds (k + 1) i = 0 ∧ (k + 1) % 2 ^ suf ds i = 0 := by
  have h0 := dig_lt ds k i
  have e : dig ds k i + 1 = 2 ^ wd ds i := by omega
  have hn := nat_next_div (k := k) (p := 2 ^ suf ds (i + 1)) (Nat.pow_pos (by omega)) h
  have hz : (k + 1) / 2 ^ suf ds (i + 1) % 2 ^ wd ds i = 0 := by
    rw [hn]
    unfold dig at e
    have h2 := Nat.div_add_mod (k / 2 ^ suf ds (i + 1)) (2 ^ wd ds i)
    rw [show k / 2 ^ suf ds (i + 1) + 1 = 2 ^ wd ds i * (k / 2 ^ suf ds (i + 1) / 2 ^ wd ds i + 1) by rw [Nat.mul_add]; omega]
    exact Nat.mul_mod_right _ _
  refine ⟨hz, ?_⟩
  rw [suf_step hok hi, Nat.pow_add]
  have h3 := Nat.div_add_mod (k + 1) (2 ^ suf ds (i + 1))
  rw [h, Nat.add_zero] at h3
  have h4 := Nat.div_add_mod ((k + 1) / 2 ^ suf ds (i + 1)) (2 ^ wd ds i)
  rw [hz, Nat.add_zero] at h4
  rw [← h3, ← h4, ← Nat.mul_assoc]
  exact Nat.mul_mod_right _ _
theorem carry_not {ds : List Dc} (hok : ∀ k, k < ds.length → OkAt ds k) {k i : Nat} (hi : i < ds.length) (h : (k + 1) % 2 ^ suf ds (i + 1) = 0) (hl : dig ds k i + 1 < 2 ^ wd ds i) : (k + 1) % 2 ^ suf ds i ≠ 0 := by
  intro h0
  have hd := dig_inc h hl
  have : dig ds (k + 1) i = 0 := by
    unfold dig
    have h1 := Nat.div_add_mod (k + 1) (2 ^ suf ds i)
    rw [h0, Nat.add_zero, suf_step hok hi, Nat.pow_add, Nat.mul_assoc] at h1
    rw [← h1, Nat.mul_div_cancel_left _ (Nat.pow_pos (by omega))]
    exact Nat.mul_mod_right _ _
  omega
/-- the places ahead stay -/
theorem dig_same {ds : List Dc} (hok : ∀ k, k < ds.length → OkAt ds k) {k i j : Nat} (hi : i < ds.length) (hj : j < i) (h : (k + 1) % 2 ^ suf ds i ≠ 0) : dig ds (k + 1) j = dig ds k j := by
  unfold dig
  rw [nat_same_div (Nat.pow_pos (by omega)) (fun h2 => h (mod_pow_le (suf_le hok (by omega) (by omega)) h2))]
theorem last_one {ds : List Dc} {k : Nat} (hk : k < 2 ^ suf ds 0) (h : (k + 1) % 2 ^ suf ds 0 = 0) : k + 1 = 2 ^ suf ds 0 := by
  have h1 := Nat.div_add_mod (k + 1) (2 ^ suf ds 0)
  rw [h, Nat.add_zero] at h1
  generalize 2 ^ suf ds 0 = p at *
  generalize (k + 1) / p = a at *
  rcases Nat.lt_trichotomy a 1 with h5 | h5 | h5
  · obtain rfl : a = 0 := by omega
    simp at h1
  · subst h5; omega
  · have : p * 2 ≤ p * a := Nat.mul_le_mul_left p (by omega)
    omega
/-- the environment of a number -/
def digs (ds : List Dc) (k : Nat) : List Int := (List.range ds.length).map fun i => (dig ds k i : Int)
theorem digs_len (ds : List Dc) (k : Nat) : (digs ds k).length = ds.length := by simp [digs]
theorem digs_get (ds : List Dc) (k : Nat) {i : Nat} (hi : i < ds.length) : (digs ds k).getD i 0 = (dig ds k i : Int) := by
  simp [digs, List.getD_eq_getElem?_getD, hi]
theorem digs_in {ds : List Dc} (h : DeclsOk ds) (k : Nat) : EnvIn ds (digs ds k) := by
  refine ⟨h, digs_len ds k, fun i hi => ?_⟩
  rw [digs_get ds k hi]
  obtain ⟨_, h1, h4, _⟩ := h.2.1 i hi
  have := dig_lt ds k i
  unfold vokB
  refine decide_eq_true ⟨h1, h4, by omega, ?_⟩
  unfold two
  unfold wd at this
  omega
/-- what the digits ahead of place i add up to -/
theorem back_step {ds : List Dc} (hok : ∀ k, k < ds.length → OkAt ds k) {i : Nat} (hi : i < ds.length) (k : Nat) : k / 2 ^ suf ds i * 2 ^ wd ds i + dig ds k i = k / 2 ^ suf ds (i + 1) := by
  rw [← q_step hok hi]
  unfold dig
  have := Nat.div_add_mod (k / 2 ^ suf ds (i + 1)) (2 ^ wd ds i)
  rw [Nat.mul_comm] at this
  exact this
theorem back_start {ds : List Dc} {k : Nat} (hk : k < 2 ^ suf ds 0) : k / 2 ^ suf ds 0 = 0 := Nat.div_eq_of_lt hk
theorem back_end (ds : List Dc) (k : Nat) : k / 2 ^ suf ds ds.length = k := by rw [suf_end]; simp
theorem manyV_ok {ds : List Dc} (h : DeclsOk ds) : manyV ds = ((2 ^ suf ds 0 : Nat) : Int) := by
  unfold manyV; rw [if_pos (declV_true.2 h), suf_zero]; rfl
theorem many_le {ds : List Dc} (h : DeclsOk ds) : 2 ^ suf ds 0 ≤ 256 := by
  rw [suf_zero]
  have := h.2.2
  have h8 : (bitsTo ds ds.length).toNat ≤ 8 := by omega
  exact Nat.pow_le_pow_right (by omega) h8
/-- the number that a row of digits writes -/
def rowVal (ds : List Dc) (g : Nat) (w : World) : Nat → Nat
  | 0 => 0
  | i + 1 => rowVal ds g w i * 2 ^ wd ds i + (match w.cell? ⟨g, i, none⟩ with | some (.int _ v) => v.toNat | _ => 0)
theorem rowVal_of {ds : List Dc} (hok : ∀ k, k < ds.length → OkAt ds k) {g k : Nat} {w : World} (hk : k < 2 ^ suf ds 0) (hc : ∀ i, i < ds.length → w.cell? ⟨g, i, none⟩ = some (.int .i64 (dig ds k i : Int))) : ∀ i, i ≤ ds.length → rowVal ds g w i = k / 2 ^ suf ds i
  | 0, _ => (back_start hk).symm
  | i + 1, hi => by
    show rowVal ds g w i * 2 ^ wd ds i + _ = _
    rw [rowVal_of hok hk hc i (by omega), hc i (by omega)]
    exact back_step hok (by omega) k
theorem rowVal_all {ds : List Dc} (hok : ∀ k, k < ds.length → OkAt ds k) {g k : Nat} {w : World} (hk : k < 2 ^ suf ds 0) (hc : ∀ i, i < ds.length → w.cell? ⟨g, i, none⟩ = some (.int .i64 (dig ds k i : Int))) : rowVal ds g w ds.length = k := by
  rw [rowVal_of hok hk hc _ (Nat.le_refl _), back_end]
end Go.Proofs.YtklbdfjmhbiheaaDoor
