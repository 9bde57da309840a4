/- The reader of codes of the reference (l12Rd): opening it, num, and what l1Vec draws. The conditions stand in each statement. -/
import Derived.Test.YtklbdfjmhbiheaaDoorRa
import Derived.Test.YtklbdfjmhbiheaaDoorGa
namespace Go.Proofs.YtklbdfjmhbiheaaDoor
open Go.RowKit

/-- a []byte that came in -/
def BytesIn (w : World) (v : Value) : Prop :=
  (∃ a c, v = .slice a 0 c) ∨ ∃ b off len cap, v = .slice (some ⟨b, off, none⟩) len cap ∧ 1 ≤ len ∧ len ≤ cap ∧ cap ≤ 9223372036854775807 ∧ b < w.heap.size ∧ ∀ i, i < len → ∃ u : Nat, u ≤ 255 ∧ w.cell? ⟨b, off + i, none⟩ = some (.int .u8 u)
/-- a new reader at its beginning -/
def Opened (w : World) (e : Ending) (w' : World) : Prop :=
  ∃ g v, e = .returned (.pointer (some ⟨g, 0, none⟩)) ∧ w.heap.size ≤ g ∧ Below w.heap.size w w' ∧ RdOk w' g v 0

theorem opened_of {w : World} {v : Value} (h : CodeIn w w.heap.size v) :
    Opened w (.returned (.pointer (some ⟨w.heap.size, 0, none⟩))) (w.alloc (.cells #[v, .int .i64 0] 81)) :=
  ⟨w.heap.size, v, rfl, Nat.le_refl _, below_self_alloc _ _, 0, Nat.le_refl _, blk_new _ _ _ _, h.grown (World.grownBy_alloc _ _ _)⟩

set_option maxHeartbeats 1000000 in
theorem l12Open_any (v : Value) (w : World) (h : BytesIn w v) :
    Calls Tryd.prog 39 #[v] w (Opened w) := by
  rcases h with ⟨a, c, rfl⟩ | ⟨b, off, len, cap, rfl, l1, l2, l3, hb, hc⟩
  · have G := Lib.hid (opened_of (w := w) (v := .slice a 0 c) (.inl ⟨a, c, rfl⟩))
    go_enter Tryd.func39, Tryd.ntmps39
    go_wp2_with fail
    go_ret
    exact G.out
  · by_cases hl : (2000 : Int) < (len : Int)
    · have G := Lib.hid (opened_of (w := w) (v := .slice (some ⟨b, off, none⟩) 2000 cap) (.inr ⟨b, off, 2000, cap, rfl, by omega, by omega, by omega, hb, fun i hi => hc i (by omega)⟩))
      have hcap : (2000 : Int) ≤ (cap : Int) := by omega
      clear hc
      go_enter Tryd.func39, Tryd.ntmps39
      go_wp2_with fail
      go_ret
      exact G.out
    · have G := Lib.hid (opened_of (w := w) (v := .slice (some ⟨b, off, none⟩) len cap) (.inr ⟨b, off, len, cap, rfl, by omega, by omega, by omega, hb, hc⟩))
      clear hc
      go_enter Tryd.func39, Tryd.ntmps39
      go_wp2_with fail
      go_ret
      exact G.out

/-- what a drawing function leaves: an answer as Q says, only block g turned, the reader not beyond P -/
def Drawn (g : Nat) (v : Value) (P : Nat) (Q : Value → Prop) (w : World) (e : Ending) (w' : World) : Prop :=
  ∃ x, e = .returned x ∧ Q x ∧ w.grownBy w' (some g) ∧ RdOk w' g v P
theorem RdOk.mono {w : World} {g : Nat} {v : Value} {P Q : Nat} (h : RdOk w g v P) (hq : P ≤ Q) : RdOk w g v Q := by
  obtain ⟨p, h1, h2⟩ := h; exact ⟨p, by omega, h2⟩
theorem RdOk.lt {w : World} {g : Nat} {v : Value} {P : Nat} (h : RdOk w g v P) : g < w.heap.size := by
  obtain ⟨p, h1, h2, h3⟩ := h; exact (Array.getElem?_eq_some_iff.1 h2).1
theorem CodeIn.below {w w' : World} {g : Nat} {v : Value} (h : CodeIn w g v) (hb : Below w.heap.size w w') : CodeIn w' g v :=
  h.grown ⟨hb.os, hb.tape, hb.output, hb.size, fun i hi _ => hb.block i hi⟩
theorem RdOk.below {w w' : World} {g : Nat} {v : Value} {P : Nat} (h : RdOk w g v P) (hb : Below w.heap.size w w') : RdOk w' g v P := by
  have hl := h.lt
  obtain ⟨p, h1, h2, h3⟩ := h
  exact ⟨p, h1, (hb.block g hl).trans h2, h3.below hb⟩
theorem RdOk.alloc {w : World} {g : Nat} {v : Value} {P : Nat} (h : RdOk w g v P) (o : Obj) : RdOk (w.alloc o) g v P := h.below (below_self_alloc _ _)
theorem RdOk.drew {w : World} {g : Nat} {v : Value} {P : Nat} (h : RdOk w g v P) : RdOk w.drew g v P := h
theorem RdOk.set {w : World} {g : Nat} {v : Value} {P : Nat} (h : RdOk w g v P) {q : Addr} {x : Value} (hq : g ≠ q.block) (hv : ∀ b off len cap, v = .slice (some ⟨b, off, none⟩) len cap → b ≠ q.block) : RdOk (w.setCell q x) g v P := by
  obtain ⟨p, h1, h2, h3⟩ := h
  refine ⟨p, h1, (Below.heap_setCell _ _ _ _ hq).trans h2, ?_⟩
  rcases h3 with h3 | ⟨b, off, len, cap, rfl, a1, a2, a3, a4, a5⟩
  · exact .inl h3
  · refine .inr ⟨b, off, len, cap, rfl, a1, a2, a3, by simpa [World.setCell] using a4, fun i hi => ?_⟩
    obtain ⟨u, hu, hc⟩ := a5 i hi
    exact ⟨u, hu, (World.cell?_of_block (Below.heap_setCell _ _ _ _ (hv b off len cap rfl))).trans hc⟩
theorem grown_two {a w w1 : World} {g : Nat} (h : a.grownBy w (some g)) (k : w.grownBy w1 (some g)) : a.grownBy w1 (some g) :=
  ⟨k.os.trans h.os, k.tape.trans h.tape, k.output.trans h.output, Nat.le_trans h.size k.size, fun i hi hne => (k.block i (Nat.lt_of_lt_of_le hi h.size) hne).trans (h.block i hi hne)⟩
theorem grown_below {a w w1 : World} {g : Nat} (h : a.grownBy w (some g)) (k : Below w.heap.size w w1) : a.grownBy w1 (some g) :=
  grown_two h ⟨k.os, k.tape, k.output, k.size, fun i hi _ => k.block i hi⟩
theorem grown_alloc {a w : World} {g : Nat} (h : a.grownBy w (some g)) (o : Obj) : a.grownBy (w.alloc o) (some g) := grown_below h (below_self_alloc _ _)
theorem grown_drew {a w : World} {g : Nat} (h : a.grownBy w (some g)) : a.grownBy w.drew (some g) := ⟨h.os, h.tape, h.output, h.size, h.block⟩
theorem grown_set {a w : World} {g : Nat} (h : a.grownBy w (some g)) {p : Addr} (hp : a.heap.size ≤ p.block) (u : Value) : a.grownBy (w.setCell p u) (some g) :=
  ⟨h.os, h.tape, h.output, by simpa [World.setCell] using h.size, fun i hi hne => (Below.heap_setCell w p u i (by omega)).trans (h.block i hi hne)⟩
theorem Blk.keepG {w w1 : World} {k g : Nat} {x y : Value} {t : TypeId} (h : Blk w k x y t) (hg : w.grownBy w1 (some g)) (hne : k ≠ g) : Blk w1 k x y t := by
  have := h.lt; unfold Blk at *; rw [hg.block _ this (by simpa using hne)]; exact h
theorem below_of_grown {a w w1 : World} {g : Nat} (h : Below a.heap.size a w) (hg : w.grownBy w1 (some g)) (hr : a.heap.size ≤ g) : Below a.heap.size a w1 :=
  h.grown hg h.size (fun k hk => by cases hk; exact hr)

def IsI (x : Value) : Prop := ∃ n : Int, x = .int .i64 n
def IsV (x : Value) : Prop := ∃ a b : Int, x = .agg #[.int .i64 a, .int .i64 b]

set_option maxHeartbeats 1000000 in
theorem num_any (g P : Nat) (v : Value) (h n cap : Nat) (w : World) (hr : RdOk w g v P) (hP : P ≤ 1000000) (hn : 1 ≤ n) (hm : n ≤ 1000) (hne : h ≠ g)
    (hc : ∀ i, i < n → ∃ x : Int, w.cell? ⟨h, i, none⟩ = some (.int .i64 x)) :
    Calls Tryd.prog 43 #[.pointer (some ⟨g, 0, none⟩), .slice (some ⟨h, 0, none⟩) n cap] w (Drawn g v (P + 1) IsI w) := by
  have hn' : (1 : Int) ≤ (n : Int) := by omega
  go_enter Tryd.func43, Tryd.ntmps43
  go_wp2_with fail
  refine (pick_any g P v n _ hr hP).mono ?_
  rintro e w1 ⟨k, rfl, k0, k1, _, hg1, hr1⟩
  have k2 := k1 hn'
  obtain ⟨j, rfl⟩ := Int.eq_ofNat_of_zero_le k0
  obtain ⟨x, hx⟩ := hc j (by omega)
  have hx1 : w1.cell? ⟨h, j, none⟩ = some (.int .i64 x) := hg1.cell hx (by simpa using hne)
  have G : Hid (Drawn g v (P + 1) IsI w (.returned (.int .i64 x)) w1) := ⟨_, rfl, ⟨x, rfl⟩, hg1, hr1⟩
  clear hc hx k1 hr hr1 hg1
  go_wp2_with fail
  go_ret
  exact G.out
end Go.Proofs.YtklbdfjmhbiheaaDoor
