/- Readers of codes, for all draws: small lemmas, and num with what its numbers have in common. The conditions stand in each statement. -/
import Derived.Test.YtklbdfjmhbiheaaDoorRb
namespace Go.Proofs.YtklbdfjmhbiheaaDoor
open Go.RowKit

theorem new_ints (W : World) (l : List Int) (t : TypeId) : ∀ i, i < l.length → ∃ x : Int, (W.alloc (.cells (l.map (Value.int .i64)).toArray t)).cell? ⟨W.heap.size, i, none⟩ = some (.int .i64 x) := by
  intro i hi
  refine ⟨l[i], ?_⟩
  rw [World.cell?_alloc_new]
  simp [hi]
theorem below_of_row {w w1 : World} {g : Nat} (h : w.grownBy w1 (some g)) : w.heap.size ≤ w1.heap.size := h.size
theorem rd_code_ne {w : World} {g : Nat} {v : Value} {P : Nat} (h : RdOk w g v P) {q : Nat} (hq : w.heap.size ≤ q) : ∀ b off len cap, v = .slice (some ⟨b, off, none⟩) len cap → 1 ≤ len → b ≠ q := by
  obtain ⟨p, h1, h2, h3⟩ := h
  intro b off len cap hv hl
  rcases h3 with ⟨a, c, hv'⟩ | ⟨b', off', len', cap', hv', _, _, _, hlt, _⟩
  · rw [hv'] at hv; cases hv; omega
  · rw [hv'] at hv; cases hv; omega
/-- a store into a block that was not there when the reader was seen to be well -/
theorem RdOk.setNew {w : World} {g : Nat} {v : Value} {P P0 : Nat} (h : RdOk w g v P) {q : Addr} {x : Value} {w0 : World} (h0 : RdOk w0 g v P0) (hq : w0.heap.size ≤ q.block) : RdOk (w.setCell q x) g v P := by
  have hl := h0.lt
  have hb := rd_code_ne h0 hq
  obtain ⟨p, h1, h2, h3⟩ := h
  refine ⟨p, h1, (Below.heap_setCell _ _ _ _ (by omega)).trans h2, ?_⟩
  rcases h3 with h3 | ⟨b, off, len, cap, rfl, a1, a2, a3, a4, a5⟩
  · exact .inl h3
  · refine .inr ⟨b, off, len, cap, rfl, a1, a2, a3, by simpa [World.setCell] using a4, fun i hi => ?_⟩
    obtain ⟨u, hu, hc⟩ := a5 i hi
    exact ⟨u, hu, (World.cell?_of_block (Below.heap_setCell _ _ _ _ (hb b off len cap rfl a1))).trans hc⟩

theorem BytesIn.below {w w' : World} {v : Value} (h : BytesIn w v) (hb : Below w.heap.size w w') : BytesIn w' v := by
  rcases h with h | ⟨b, off, len, cap, hv, h1, h2, h3, h4, h5⟩
  · exact .inl h
  · refine .inr ⟨b, off, len, cap, hv, h1, h2, h3, Nat.lt_of_lt_of_le h4 hb.size, fun i hi => ?_⟩
    obtain ⟨u, hu, hc⟩ := h5 i hi
    exact ⟨u, hu, (hb.cell (p := ⟨b, off + i, none⟩) h4).trans hc⟩
theorem BytesIn.alloc {w : World} {v : Value} (h : BytesIn w v) (o : Obj) : BytesIn (w.alloc o) v := h.below (below_self_alloc _ _)

def IsIn (R : Int → Prop) (x : Value) : Prop := ∃ n : Int, x = .int .i64 n ∧ R n
theorem new_ints_in (W : World) (R : Int → Prop) (l : List Int) (t : TypeId) (hl : ∀ x ∈ l, R x) : ∀ i, i < l.length → ∃ x : Int, (W.alloc (.cells (l.map (Value.int .i64)).toArray t)).cell? ⟨W.heap.size, i, none⟩ = some (.int .i64 x) ∧ R x := by
  intro i hi
  refine ⟨l[i], ?_, hl _ (List.getElem_mem _)⟩
  rw [World.cell?_alloc_new]
  simp [hi]

set_option maxHeartbeats 1000000 in
theorem num_in (R : Int → Prop) (g P : Nat) (v : Value) (h n cap : Nat) (w : World) (hr : RdOk w g v P) (hP : P ≤ 1000000) (hn : 1 ≤ n) (hm : n ≤ 1000) (hne : h ≠ g)
    (hc : ∀ i, i < n → ∃ x : Int, w.cell? ⟨h, i, none⟩ = some (.int .i64 x) ∧ R x) :
    Calls Tryd.prog 43 #[.pointer (some ⟨g, 0, none⟩), .slice (some ⟨h, 0, none⟩) n cap] w (Drawn g v (P + 1) (IsIn R) w) := by
  have hn' : (1 : Int) ≤ (n : Int) := by omega
  go_enter Tryd.func43, Tryd.ntmps43
  go_wp2_with fail
  refine (pick_any g P v n _ hr hP).mono ?_
  rintro e w1 ⟨k, rfl, k0, k1, _, hg1, hr1⟩
  have k2 := k1 hn'
  obtain ⟨j, rfl⟩ := Int.eq_ofNat_of_zero_le k0
  obtain ⟨x, hx, hR⟩ := hc j (by omega)
  have hx1 : w1.cell? ⟨h, j, none⟩ = some (.int .i64 x) := hg1.cell hx (by simpa using hne)
  have G : Hid (Drawn g v (P + 1) (IsIn R) w (.returned (.int .i64 x)) w1) := ⟨_, rfl, ⟨x, rfl, hR⟩, hg1, hr1⟩
  clear hc hx hR k1 hr hr1 hg1
  go_wp2_with fail
  go_ret
  exact G.out
end Go.Proofs.YtklbdfjmhbiheaaDoor
