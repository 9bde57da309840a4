/- Right names and right declarations, in plain Lean: no program in sight. -/
import Derived.Test.YtfkanemjedndgaaGreatDoorEd
import Derived.Lib.SlTrimSet
namespace Go.Proofs.YtfkanemjedndgaaGreatDoor

def lower (b : UInt8) : Bool := decide (97 ≤ b.toNat) && decide (b.toNat ≤ 122)
def az : List UInt8 := [97, 98, 99, 100, 101, 102, 103, 104, 105, 106, 107, 108, 109, 110, 111, 112, 113, 114, 115, 116, 117, 118, 119, 120, 121, 122]
theorem az_nat : ∀ n : Fin 256, az.contains (UInt8.ofNat n.val) = (decide (97 ≤ n.val) && decide (n.val ≤ 122)) := by decide +kernel
theorem az_lower (b : UInt8) : az.contains b = lower b := by
  have := az_nat ⟨b.toNat, b.toNat_lt⟩
  simpa [lower] using this
def trueB : ByteArray := ⟨#[116, 114, 117, 101]⟩
def NameOk (nm : ByteArray) : Prop := (∀ b ∈ nm.data.toList, lower b = true) ∧ 1 ≤ nm.size ∧ nm.size ≤ 4 ∧ nm ≠ trueB
open Classical in
noncomputable def nameV (nm : ByteArray) : Bool := decide (NameOk nm)
theorem nameV_true {nm : ByteArray} : nameV nm = true ↔ NameOk nm := by unfold nameV; simp
theorem nameV_false {nm : ByteArray} : nameV nm = false ↔ ¬ NameOk nm := by unfold nameV; simp

theorem dropWhile_nil {α : Type} {p : α → Bool} {l : List α} : l.dropWhile p = [] ↔ ∀ x ∈ l, p x = true := by
  induction l with
  | nil => simp
  | cons a l ih =>
    rw [List.dropWhile_cons]
    by_cases h : p a = true
    · rw [if_pos h, ih]; simp [h]
    · rw [if_neg h]; simp; intro hp; exact absurd hp h
theorem dropWhile_all {α : Type} {p : α → Bool} {l : List α} (h : ∀ x ∈ l.dropWhile p, p x = true) : l.dropWhile p = [] := by
  induction l with
  | nil => rfl
  | cons a l ih =>
    rw [List.dropWhile_cons] at h ⊢
    by_cases hp : p a = true
    · rw [if_pos hp] at h ⊢; exact ih h
    · rw [if_neg hp] at h; exact absurd (h a (by simp)) hp
theorem trimS_nil {l cs : List UInt8} : Go.Lib.trimS l cs = [] ↔ ∀ b ∈ l, cs.contains b = true := by
  unfold Go.Lib.trimS Go.Lib.trimLeftS Go.Lib.trimRightS
  rw [dropWhile_nil]
  constructor
  · intro h
    have h2 : l.reverse.dropWhile (cs.contains ·) = [] := dropWhile_all fun x hx => h x (List.mem_reverse.2 hx)
    exact fun b hb => dropWhile_nil.1 h2 b (List.mem_reverse.2 hb)
  · intro h
    have h2 : l.reverse.dropWhile (cs.contains ·) = [] := dropWhile_nil.2 fun x hx => h x (List.mem_reverse.1 hx)
    rw [h2]
    intro x hx
    simp at hx
theorem trim_az {nm : ByteArray} : Go.Lib.trimS nm.data.toList az = [] ↔ ∀ b ∈ nm.data.toList, lower b = true := by
  rw [trimS_nil]
  exact ⟨fun h b hb => by rw [← az_lower]; exact h b hb, fun h b hb => by rw [az_lower]; exact h b hb⟩

/-- the k-th declaration is right, of those that stand ahead of it too -/
def Fresh (ds : List Dc) (k : Nat) : Prop := ∀ j, j < k → (ds.getD j dz).1 ≠ (ds.getD k dz).1
def OkAt (ds : List Dc) (k : Nat) : Prop := NameOk (ds.getD k dz).1 ∧ 1 ≤ (ds.getD k dz).2 ∧ (ds.getD k dz).2 ≤ 4 ∧ Fresh ds k
def bitsTo (ds : List Dc) : Nat → Int
  | 0 => 0
  | k + 1 => bitsTo ds k + (ds.getD k dz).2
def DeclsOk (ds : List Dc) : Prop := ds.length ≤ 4 ∧ (∀ k, k < ds.length → OkAt ds k) ∧ bitsTo ds ds.length ≤ 8
open Classical in
noncomputable def declV (ds : List Dc) : Bool := decide (DeclsOk ds)
theorem declV_true {ds : List Dc} : declV ds = true ↔ DeclsOk ds := by unfold declV; simp
theorem declV_false {ds : List Dc} : declV ds = false ↔ ¬ DeclsOk ds := by unfold declV; simp
theorem bitsTo_bound {ds : List Dc} {k : Nat} (h : ∀ i, i < k → OkAt ds i) : (k : Int) ≤ bitsTo ds k ∧ bitsTo ds k ≤ 4 * k := by
  induction k with
  | zero => exact ⟨Int.le_refl _, Int.le_refl _⟩
  | succ k ih =>
    have h1 := ih (fun i hi => h i (by omega))
    obtain ⟨_, h2, h3, _⟩ := h k (by omega)
    show _ ≤ bitsTo ds k + _ ∧ bitsTo ds k + _ ≤ _
    omega
end Go.Proofs.YtfkanemjedndgaaGreatDoor
