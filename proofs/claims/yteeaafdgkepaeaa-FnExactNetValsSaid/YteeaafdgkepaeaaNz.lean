/- Marks that the statements write into gates of their own. The conditions stand in each statement. -/
import Derived.Test.YteeaafdgkepaeaaNx
import Derived.Test.YteeaafdgkepaeaaCm
namespace Go.Proofs.Yteeaafdgkepaeaa
open Go.RowKit

/-- marks were written into the row of v, and the count went on -/
def MarkedG (v : Value) (n k : Nat) (w : World) (e : Ending) (w' : World) : Prop :=
  e = .returned (.int .i64 ((k + 3 * n : Nat) : Int)) ∧ w.grownBy w' v.ownBlock

set_option maxHeartbeats 2000000 in
theorem markGateS_any (v : Value) (base n k : Nat) (xs : List Value) (w : World) (h : w.ownsRow base 47 3 v n xs) (hk : k + 3 * n ≤ 100000000000000000) :
    Calls Try.prog 55 #[v, .int .i64 k] w (MarkedG v n k w) := by
  rcases h.2 with ⟨rfl, rfl⟩ | ⟨g, cap, cur, rfl, _⟩
  · go_enter Try.func55, Try.ntmps55
    go_wp2
    go_loopw [5, 1] (fun i q wr => i = .int .i64 0 ∧ q = .int .i64 k ∧ wr = w) (fun i _ _ => 0)
    case atStart => exact ⟨rfl, rfl, rfl⟩
    case round =>
      obtain ⟨rfl, rfl, rfl⟩ := hrel
      go_wp2
      go_ret
      exact ⟨by simp, World.grownBy.refl _ _⟩
  · have G0 := World.grownBy.refl w (some g)
    have own0 : ∃ ys, w.ownsRow base 47 3 (.slice (some ⟨g, 0, none⟩) n cap) n ys := ⟨_, h⟩
    clear h
    go_enter Try.func55, Try.ntmps55
    go_wp2
    go_loopw [5, 1] (fun i q wr => ∃ j : Nat, j ≤ n ∧ i = .int .i64 j ∧ q = .int .i64 ((k + 3 * j : Nat) : Int) ∧ (∃ ys, wr.ownsRow base 47 3 (.slice (some ⟨g, 0, none⟩) n cap) n ys) ∧ w.grownBy wr (some g)) (fun i _ _ => n - (intOf i).toNat)
    case atStart => exact ⟨0, Nat.zero_le _, rfl, rfl, own0, G0⟩
    case round =>
      obtain ⟨j, hj, rfl, rfl, ⟨ys, own⟩, G⟩ := hrel
      clear own0 G0
      by_cases hlt : j < n
      · have hlen : ys.length = n * 3 := by have := own.1; omega
        have c : ∀ i, i < 3 → ∃ x, wr.cell? ⟨g, j * 3 + i, none⟩ = some x := fun i hi => ⟨ys[j * 3 + i]'(by omega), by rw [own.cellAt (j * 3 + i) (by omega), List.getElem?_eq_getElem]⟩
        obtain ⟨y0, c0⟩ := c 0 (by omega)
        obtain ⟨y1, c1⟩ := c 1 (by omega)
        obtain ⟨y2, c2⟩ := c 2 (by omega)
        rw [Nat.add_zero] at c0
        have f0 := own.frozenAt (j * 3)
        have f1 := own.frozenAt (j * 3 + 1)
        have f2 := own.frozenAt (j * 3 + 2)
        have hj0 : (0 : Int) ≤ (j : Int) := by omega
        have hj1 : (j : Int) < (n : Int) := by omega
        obtain ⟨q, hq⟩ : ∃ q : Nat, q = k + 3 * j := ⟨_, rfl⟩
        rw [← hq]
        have HQ := Lib.hid hq
        have hq1 : q ≤ 100000000000000000 := by omega
        have OW := Lib.hid own
        have GG := Lib.hid G
        clear own c hlen hq G
        go_wp2
        refine ⟨⟨j + 1, by omega, by go_num, by rw [show k + 3 * (j + 1) = q + 3 by have := HQ.out; omega]; go_num, ⟨_, (((OW.out.stored (j * 3) _).1.stored (j * 3 + 1) _).1.stored (j * 3 + 2) _).1⟩, ?_⟩, by simp [intOf]; omega⟩
        exact grown_trans (grown_trans (grown_trans GG.out (OW.out.stored (j * 3) _).2) ((OW.out.stored (j * 3) _).1.stored (j * 3 + 1) _).2) (((OW.out.stored (j * 3) _).1.stored (j * 3 + 1) _).1.stored (j * 3 + 2) _).2
      · obtain rfl : j = n := by omega
        clear own
        go_wp2
        go_ret
        exact ⟨rfl, G⟩
theorem grown_none_trans {a w w1 : World} {row : Option Nat} (h : a.grownBy w none) (k : w.grownBy w1 row) : a.grownBy w1 row :=
  ⟨k.os.trans h.os, k.tape.trans h.tape, k.output.trans h.output, Nat.le_trans h.size k.size, fun i hi hne => (k.block i (Nat.lt_of_lt_of_le hi h.size) hne).trans (h.block i hi (by simp))⟩
end Go.Proofs.Yteeaafdgkepaeaa
namespace Go
open Go.RowKit
theorem World.ownsRow.below {w w' : World} {base size n : Nat} {e : TypeId} {v : Value} {xs : List Value} (h : w.ownsRow base e size v n xs) (hb : Below w.heap.size w w') : w'.ownsRow base e size v n xs := Go.Proofs.Yteeaafdgkepaeaa.own_keep1 h hb
end Go
namespace Go.Proofs.Yteeaafdgkepaeaa
open Go.RowKit
theorem own_other {w w' : World} {base size n : Nat} {e : TypeId} {v v2 : Value} {xs : List Value} (h : w.ownsRow base e size v n xs) (hg : w.grownBy w' v2.ownBlock) (hne : ∀ k, v.ownBlock = some k → v2.ownBlock ≠ some k) : w'.ownsRow base e size v n xs :=
  h.kept hg (by
    cases hv : v.ownBlock with
    | none => exact .inl rfl
    | some k => exact .inr (fun e => hne k hv e.symm))
theorem markNet_any (m : Int) (v : Value) (base n : Nat) (xs : List Value) (w : World) (h : w.ownsRow base 47 3 v n xs) (hk : n ≤ 10000000) :
    Calls Try.prog 27 #[.agg #[.int .i64 m, v], .int .i64 1] w fun e w' => ∃ q : Nat, e = .returned (.int .i64 q) ∧ q ≤ 100000000 ∧ w.grownBy w' v.ownBlock := by
  have h1 := h.alloc (.cells #[.int .i64 m, v] 39)
  have hg : w.grownBy (w.alloc (.cells #[.int .i64 m, v] 39)) none := World.grownBy_alloc _ _ _
  obtain ⟨a, len, cap, rfl⟩ : ∃ a len cap, v = .slice a len cap := by
    rcases h.2 with ⟨rfl, _⟩ | ⟨g, cap, cur, rfl, _⟩ <;> exact ⟨_, _, _, rfl⟩
  have T := Lib.hid (markGateS_any _ base n 1 xs _ h1 (by omega))
  obtain ⟨q, hq⟩ : ∃ q, q = 1 + 3 * n := ⟨_, rfl⟩
  have T2 : Hid (Calls Try.prog 55 #[.slice a len cap, .int .i64 1] (w.alloc (.cells #[.int .i64 m, .slice a len cap] 39)) fun e w' => e = .returned (.int .i64 (q : Nat)) ∧ (w.alloc (.cells #[.int .i64 m, .slice a len cap] 39)).grownBy w' (Value.slice a len cap).ownBlock) := by
    rw [hq]; exact T.out
  clear h h1 T
  have hq2 : q ≤ 100000000 := by omega
  clear hq
  go_enter Try.func27, Try.ntmps27
  go_wp2_with fail
  refine T2.out.mono ?_; rintro e w2 ⟨rfl, hg2⟩
  go_wp2_with fail
  go_ret
  exact ⟨q, rfl, hq2, grown_none_trans hg hg2⟩
theorem netVals_len (m : Int) (gs : List Gt) (l : List Bool) : (netVals m gs l).length ≤ 100000 := by
  unfold netVals
  split
  · rename_i h
    obtain ⟨⟨m0, m8, h6⟩, _⟩ := netV_true.1 h.1
    rw [valsTo_len]; omega
  · simp
end Go.Proofs.Yteeaafdgkepaeaa
