/- Marks that the statements write into rows of ints, and whether they are held. The conditions stand in each statement. -/
import Derived.Test.YtjobbokjebhjgaaDoorYi
import Derived.OneCell
namespace Go.Proofs.YtjobbokjebhjgaaDoor
open Go.RowKit

/-- the first j cells overwritten -/
def setN (f : Nat → Value) (xs : List Value) : Nat → List Value
  | 0 => xs
  | j + 1 => (setN f xs j).set j (f j)
theorem setN_len (f : Nat → Value) (xs : List Value) : ∀ j, (setN f xs j).length = xs.length
  | 0 => rfl
  | j + 1 => by unfold setN; rw [List.length_set, setN_len f xs j]
theorem setN_get (f : Nat → Value) (xs : List Value) : ∀ (j i : Nat), i < xs.length → (setN f xs j)[i]? = if i < j then some (f i) else xs[i]?
  | 0, i, _ => by unfold setN; rw [if_neg (by omega)]
  | j + 1, i, h => by
    unfold setN
    rw [List.getElem?_set]
    by_cases e : j = i
    · subst e
      rw [if_pos rfl, if_pos (by rw [setN_len]; exact h), if_pos (by omega)]
    · rw [if_neg e, setN_get f xs j i h]
      by_cases h2 : i < j
      · rw [if_pos h2, if_pos (by omega)]
      · rw [if_neg h2, if_neg (by omega)]
theorem setN_all (f : Nat → Value) (xs : List Value) (n : Nat) (h : xs.length = n) : setN f xs n = (List.range n).map f := by
  apply List.ext_getElem?
  intro i
  by_cases hi : i < n
  · rw [setN_get f xs n i (by omega), if_pos hi]; simp [hi]
  · rw [List.getElem?_eq_none (by rw [setN_len]; omega), List.getElem?_eq_none (by simp; omega)]
theorem own_setN {w : World} {base g n cap j : Nat} {e : TypeId} {f : Nat → Value} {xs : List Value} (h : w.ownsRow base e 1 (.slice (some ⟨g, 0, none⟩) n cap) n (setN f xs j)) (hx : xs.length = n) (hj : j < n) :
    (∃ x, w.cell? ⟨g, j, none⟩ = some x) ∧ w.frozen? ⟨g, j, none⟩ = false ∧ (w.setCell ⟨g, j, none⟩ (f j)).ownsRow base e 1 (.slice (some ⟨g, 0, none⟩) n cap) n (setN f xs (j + 1)) ∧ w.grownBy (w.setCell ⟨g, j, none⟩ (f j)) (some g) := by
  obtain ⟨s1, s2⟩ := h.stored j (f j)
  refine ⟨⟨(setN f xs j)[j]'(by rw [setN_len]; omega), ?_⟩, h.frozenAt j, s1, s2⟩
  rw [h.cellAt j (by omega), List.getElem?_eq_getElem]
theorem grown_trans {a w w1 : World} {row : Option Nat} (h : a.grownBy w row) (k : w.grownBy w1 row) : a.grownBy w1 row :=
  ⟨k.os.trans h.os, k.tape.trans h.tape, k.output.trans h.output, Nat.le_trans h.size k.size, fun i hi hne => (k.block i (Nat.lt_of_lt_of_le hi h.size) hne).trans (h.block i hi hne)⟩
def intMark (k i : Nat) : Value := .int .i64 ((k + i : Nat) : Int)
/-- a call wrote marks into a row, and counted on -/
def Marked (v : Value) (base n : Nat) (t : TypeId) (k : Nat) (f : Nat → Value) (w : World) (e : Ending) (w' : World) : Prop :=
  e = .returned (.int .i64 ((k + n : Nat) : Int)) ∧ w'.ownsRow base t 1 v n ((List.range n).map f) ∧ w.grownBy w' v.ownBlock
set_option maxHeartbeats 2000000 in
theorem markIntS_any (v : Value) (base n k : Nat) (xs : List Value) (w : World) (h : w.ownsRow base 3 1 v n xs) (hk : k + n ≤ 1000000000000000000) :
    Calls Tryd.prog 11 #[v, .int .i64 k] w (Marked v base n 3 k (intMark k) w) := by
  have hxl : xs.length = n := by have := h.1; omega
  rcases h.2 with ⟨rfl, rfl⟩ | ⟨g, cap, cur, rfl, _⟩
  · obtain rfl : xs = [] := List.length_eq_zero_iff.1 hxl
    go_enter Tryd.func11, Tryd.ntmps11
    go_wp2
    go_loopw [5, 1] (fun i q wr => i = .int .i64 0 ∧ q = .int .i64 k ∧ wr = w) (fun i _ _ => 0)
    case atStart => exact ⟨rfl, rfl, rfl⟩
    case round =>
      obtain ⟨rfl, rfl, rfl⟩ := hrel
      go_wp2
      go_ret
      exact ⟨by simp, h, World.grownBy.refl _ _⟩
  · have own0 : w.ownsRow base 3 1 (.slice (some ⟨g, 0, none⟩) n cap) n (setN (intMark k) xs 0) := h
    have G0 := World.grownBy.refl w (some g)
    clear h
    go_enter Tryd.func11, Tryd.ntmps11
    go_wp2
    go_loopw [5, 1] (fun i q wr => ∃ j : Nat, j ≤ n ∧ i = .int .i64 j ∧ q = .int .i64 ((k + j : Nat) : Int) ∧ wr.ownsRow base 3 1 (.slice (some ⟨g, 0, none⟩) n cap) n (setN (intMark k) xs j) ∧ w.grownBy wr (some g)) (fun i _ _ => n - (intOf i).toNat)
    case atStart => exact ⟨0, Nat.zero_le _, rfl, rfl, own0, G0⟩
    case round =>
      obtain ⟨j, hj, rfl, rfl, own, G⟩ := hrel
      clear own0 G0
      by_cases hlt : j < n
      · obtain ⟨⟨x, c1⟩, f1, o1, g1⟩ := own_setN own hxl hlt
        have o2 : (wr.setCell ⟨g, j, none⟩ (.int .i64 ((k + j : Nat) : Int))).ownsRow base 3 1 (.slice (some ⟨g, 0, none⟩) n cap) n (setN (intMark k) xs (j + 1)) := o1
        have g2 : w.grownBy (wr.setCell ⟨g, j, none⟩ (.int .i64 ((k + j : Nat) : Int))) (some g) := grown_trans G g1
        have hj0 : (0 : Int) ≤ (j : Int) := by omega
        have hj1 : (j : Int) < (n : Int) := by omega
        obtain ⟨q, hq⟩ : ∃ q : Nat, q = k + j := ⟨_, rfl⟩
        rw [← hq] at o2 g2 ⊢
        have HQ := Lib.hid hq
        have hq1 : q ≤ 1000000000000000000 := by omega
        have O := Lib.hid o2
        have GG := Lib.hid g2
        clear own o1 g1 G o2 g2 hq
        go_wp2
        exact ⟨⟨j + 1, by omega, by go_num, by rw [HQ.out]; congr 1, O.out, GG.out⟩, by simp [intOf]; omega⟩
      · obtain rfl : j = n := by omega
        rw [setN_all _ _ _ hxl] at own
        go_wp2
        go_ret
        exact ⟨rfl, own, G⟩
set_option maxHeartbeats 2000000 in
theorem heldIntS_any (v : Value) (n k : Nat) (w : World) (h : Ints w v ((List.range n).map (fun i => ((k + i : Nat) : Int)))) (hk : k + n ≤ 1000000000000000000) :
    Calls Tryd.prog 12 #[v, .int .i64 k] w fun e w' => e = .returned (.int .i64 ((k + n : Nat) : Int)) ∧ w = w' := by
  have hl : ((List.range n).map (fun i => ((k + i : Nat) : Int))).length = n := by simp
  obtain ⟨a, cap, rfl, r1, r2, r3⟩ := h
  rw [hl] at r1 r3 ⊢
  go_enter Tryd.func12, Tryd.ntmps12
  go_wp2
  go_loop [5, 1] (fun i q => ∃ j : Nat, j ≤ n ∧ i = .int .i64 j ∧ q = .int .i64 ((k + j : Nat) : Int)) (fun i _ => n - (intOf i).toNat)
  case atStart => exact ⟨0, Nat.zero_le _, rfl, rfl⟩
  case round =>
    obtain ⟨j, hj, rfl, rfl⟩ := hrel
    by_cases hlt : j < n
    · rcases r3 with r3 | ⟨b, off, rfl, r4, r5⟩
      · omega
      have r6 : w.cell? ⟨b, off + j, none⟩ = some (.int .i64 (((List.range n).map (fun i => ((k + i : Nat) : Int))).getD j 0)) := r5 j hlt
      have e1 : ((List.range n).map (fun i => ((k + i : Nat) : Int))).getD j 0 = ((k + j : Nat) : Int) := by
        simp [List.getD_eq_getElem?_getD, hlt]
      rw [e1] at r6
      have hj0 : (0 : Int) ≤ (j : Int) := by omega
      have hj1 : (j : Int) < (n : Int) := by omega
      obtain ⟨q, hq⟩ : ∃ q : Nat, q = k + j := ⟨_, rfl⟩
      rw [← hq] at r6 ⊢
      have HQ := Lib.hid hq
      have hq1 : q ≤ 1000000000000000000 := by omega
      clear r5 e1 hq hl
      have h4 : ((q : Int) != (q : Int)) = false := by simp
      go_wp2
      exact ⟨⟨j + 1, by omega, by go_num, by rw [HQ.out]; congr 1⟩, by simp [intOf]; omega⟩
    · obtain rfl : j = n := by omega
      clear r3
      go_wp2
      go_ret
      exact ⟨rfl, rfl⟩
theorem readV_len (s : List UInt8) : (readV s).1.length ≤ 700 := by
  unfold readV
  cases h : rdI [] s with
  | none => simp
  | some c =>
    simp only
    split
    · rename_i hc; exact ok_short hc.1
    · simp
end Go.Proofs.YtjobbokjebhjgaaDoor
namespace Go
open Go.RowKit
theorem World.ownsRow.below {w w' : World} {base size n : Nat} {e : TypeId} {v : Value} {xs : List Value} (h : w.ownsRow base e size v n xs) (hb : Below w.heap.size w w') : w'.ownsRow base e size v n xs := Go.Proofs.YtjobbokjebhjgaaDoor.own_keep2 h hb
end Go
namespace Go.Proofs.YtjobbokjebhjgaaDoor
open Go.RowKit
theorem own_other {w w' : World} {base size n : Nat} {e : TypeId} {v v2 : Value} {xs : List Value} (h : w.ownsRow base e size v n xs) (hg : w.grownBy w' v2.ownBlock) (hne : ∀ k, v.ownBlock = some k → v2.ownBlock ≠ some k) : w'.ownsRow base e size v n xs :=
  h.kept hg (by
    cases hv : v.ownBlock with
    | none => exact .inl rfl
    | some k => exact .inr (fun e => hne k hv e.symm))
/-- what a reading gave -/
def GaveRead (l : List Int) (b : Bool) (w : World) (e : Ending) (w' : World) : Prop :=
  ∃ v, e = .returned (.tuple #[v, .bool b]) ∧ w'.ownsRow w.heap.size 3 1 v l.length (l.map (.int .i64)) ∧ Below w.heap.size w w'
end Go.Proofs.YtjobbokjebhjgaaDoor
