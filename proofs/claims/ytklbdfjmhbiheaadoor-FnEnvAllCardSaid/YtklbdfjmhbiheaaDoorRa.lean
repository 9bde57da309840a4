/- The reader of codes of the reference (l12Rd): what pick does to it. The conditions stand in each statement. -/
import Derived.Test.YtklbdfjmhbiheaaDoorGa
import Derived.Deep.RegionHeld3
import Derived.Laws.BitsAllLaws
import Derived.Laws.BitsLemmas
namespace Go.Proofs.YtklbdfjmhbiheaaDoor
open Go.RowKit

/-- the value is a slice of bytes that lies in memory away from block g -/
def CodeIn (w : World) (g : Nat) (v : Value) : Prop :=
  (∃ a c, v = .slice a 0 c) ∨ ∃ b off len cap, v = .slice (some ⟨b, off, none⟩) len cap ∧ 1 ≤ len ∧ len ≤ 2000 ∧ b ≠ g ∧ b < w.heap.size ∧ ∀ i, i < len → ∃ u : Nat, u ≤ 255 ∧ w.cell? ⟨b, off + i, none⟩ = some (.int .u8 u)
/-- block g is a reader that has read at most P bytes -/
def RdOk (w : World) (g : Nat) (v : Value) (P : Nat) : Prop :=
  ∃ p : Nat, p ≤ P ∧ w.heap[g]? = some (.cells #[v, .int .i64 p] 81 (0, 0)) ∧ CodeIn w g v

theorem CodeIn.grown {w w' : World} {g : Nat} {v : Value} (h : CodeIn w g v) (hg : w.grownBy w' (some g)) : CodeIn w' g v := by
  rcases h with h | ⟨b, off, len, cap, hv, h1, h2, h3, h4, h5⟩
  · exact .inl h
  · refine .inr ⟨b, off, len, cap, hv, h1, h2, h3, Nat.lt_of_lt_of_le h4 hg.size, fun i hi => ?_⟩
    obtain ⟨u, hu, hc⟩ := h5 i hi
    exact ⟨u, hu, hg.cell hc (by simpa using h3)⟩

/-- what a reader's step leaves: the answer, only block g turned, the reader one on -/
def Picked (g : Nat) (v : Value) (P : Nat) (n : Int) (w : World) (e : Ending) (w' : World) : Prop :=
  ∃ k : Int, e = .returned (.int .i64 k) ∧ 0 ≤ k ∧ (1 ≤ n → k < n) ∧ (n < 1 → k = 0) ∧ w.grownBy w' (some g) ∧ RdOk w' g v (P + 1)

theorem rd_set {w : World} {g : Nat} {v : Value} {t : TypeId} {u : Value} (h : w.heap[g]? = some (.cells #[v, u] t (0, 0))) (x : Value) (n : Nat) :
    ((w.setCell ⟨g, 1, none⟩ x).drewN n).heap[g]? = some (.cells #[v, x] t (0, 0)) := by
  show (w.setCell ⟨g, 1, none⟩ x).heap[g]? = _
  simp [World.setCell, Array.getElem?_modify, h]
theorem only_set (w : World) (g : Nat) (x : Value) (n : Nat) : w.grownBy ((w.setCell ⟨g, 1, none⟩ x).drewN n) (some g) :=
  ⟨rfl, rfl, rfl, by show _ ≤ (w.setCell _ _).heap.size; simp [World.setCell], fun i hi hne => Below.heap_setCell _ _ _ _ (by rintro rfl; exact hne rfl)⟩

theorem i64_xor_nat (a b : Nat) (ha : a < 9223372036854775808) (hb : b < 9223372036854775808) : bits .xor .i64 (a : Int) (b : Int) = ((a ^^^ b : Nat) : Int) := by
  have hx : a ^^^ b < 2 ^ 63 := Nat.xor_lt_two_pow (by omega) (by omega)
  have oi : ∀ a : Nat, a < 9223372036854775808 → (BitVec.ofInt 64 (a : Int)).toNat = a := fun a ha => by
    rw [BitVec.ofInt_natCast, BitVec.toNat_ofNat]; exact Nat.mod_eq_of_lt (by omega)
  show IntKind.i64.wrap ((BitVec.ofInt 64 (a : Int) ^^^ BitVec.ofInt 64 (b : Int)).toNat : Int) = _
  rw [BitVec.toNat_xor, oi a ha, oi b hb, IntKind.wrap_i64]
  omega
theorem xor_small (X : Nat) (h : X ≤ 100000000) : ∃ Y : Nat, Y ≤ 200000000 ∧ bits BinOp.xor IntKind.i64 (X : Int) ((X : Int) / 64) = Y := by
  refine ⟨X ^^^ X / 64, ?_, ?_⟩
  · have := @Nat.xor_lt_two_pow X (X / 64) 27 (by omega) (by omega); omega
  · exact i64_xor_nat X (X / 64) (by omega) (by omega)

set_option maxHeartbeats 2000000 in
theorem pick_any (g P : Nat) (v : Value) (n : Int) (w : World) (h : RdOk w g v P) (hP : P ≤ 1000000) :
    Calls Tryd.prog 44 #[.pointer (some ⟨g, 0, none⟩), .int .i64 n] w (Picked g v P n w) := by
  obtain ⟨p, hp, hh, hc⟩ := h
  have c0 : w.cell? ⟨g, 0, none⟩ = some v := by simp [World.cell?, hh]
  have c1 : w.cell? ⟨g, 1, none⟩ = some (.int .i64 p) := by simp [World.cell?, hh]
  have f1 : w.frozen? ⟨g, 1, none⟩ = false := by simp [World.frozen?, hh]
  have hfin : ∀ (k : Int) (q : Nat), 0 ≤ k → (1 ≤ n → k < n) → (n < 1 → k = 0) → Picked g v P n w (.returned (.int .i64 k)) ((w.setCell ⟨g, 1, none⟩ (.int .i64 ((p : Int) + 1))).drewN q) := by
    intro k q h1 h2 h3
    exact ⟨k, rfl, h1, h2, h3, only_set w g _ q, p + 1, by omega, rd_set hh _ q, hc.grown (only_set w g _ q)⟩
  have F := Lib.hid hfin
  clear hfin hh
  have hp1 : (p : Int) + 1 ≤ 1000001 := by omega
  by_cases hn : n < 1
  · have G := Lib.hid (F.out 0 0 (by omega) (by omega) (by omega))
    clear hc F
    go_enter Tryd.func44, Tryd.ntmps44
    go_wp2_with fail
    go_ret
    exact G.out
  · rcases hc with ⟨a, c, rfl⟩ | ⟨b, off, len, cap, rfl, l1, l2, hb, hbl, hcell⟩
    · have G := Lib.hid (F.out 0 0 (by omega) (by omega) (by omega))
      clear F
      go_enter Tryd.func44, Tryd.ntmps44
      go_wp2_with fail
      go_ret
      exact G.out
    · have hl0 : ((len : Int) == 0) = false := by simp; omega
      by_cases hk : p < len
      · obtain ⟨u, hu, hcu⟩ := hcell p hk
        have hk' : (p : Int) < (len : Int) := by omega
        have hbg : ¬ b = g := hb
        have m0 := Int.emod_nonneg (u : Int) (b := n) (by omega)
        have m1 := Int.emod_lt_of_pos (u : Int) (b := n) (by omega)
        have G := Lib.hid (F.out ((u : Int) % n) 0 m0 (fun _ => m1) (by omega))
        clear F hcell m0 m1
        go_enter Tryd.func44, Tryd.ntmps44
        go_wp2_with fail
        go_ret
        exact G.out
      · have hk' : ¬ (p : Int) < (len : Int) := by omega
        obtain ⟨u, hu, hcu⟩ := hcell (p % len) (Nat.mod_lt _ (by omega))
        obtain ⟨x, hx, hcx⟩ := hcell ((p * 7 + 3) % len) (Nat.mod_lt _ (by omega))
        have hbg : ¬ b = g := hb
        clear hcell
        have hi1 : (p : Int).tmod (len : Int) = ((p % len : Nat) : Int) := by rw [Int.tmod_eq_emod_of_nonneg (by omega)]; rfl
        have hi2 : IntKind.i64.wrap (IntKind.i64.wrap ((p : Int) * 7) + 3) = ((p * 7 + 3 : Nat) : Int) := by rw [IntWalk.i64_in ((p : Int) * 7) ⟨by omega, by omega⟩, IntWalk.i64_in ((p : Int) * 7 + 3) ⟨by omega, by omega⟩]; rfl
        have hi3 : ((p * 7 + 3 : Nat) : Int).tmod (len : Int) = (((p * 7 + 3) % len : Nat) : Int) := by rw [Int.tmod_eq_emod_of_nonneg (by omega)]; rfl
        have z1 : ¬ (len : Int) = 0 := by omega
        have z2 : ¬ len = 0 := by omega
        have q1 : p % len < len := Nat.mod_lt _ (by omega)
        have q2 : (p * 7 + 3) % len < len := Nat.mod_lt _ (by omega)
        have d0 : p / len ≤ p := Nat.div_le_self _ _
        have hd : (p : Int).tdiv (len : Int) = ((p / len : Nat) : Int) := by rw [Int.tdiv_eq_ediv_of_nonneg (by omega)]; rfl
        generalize p / len = d at *
        have r1 : IntKind.i64.wrap (u : Int) = u := IntWalk.i64_in _ (by omega)
        have r2 : IntKind.i64.wrap ((u : Int) * 131) = (u : Int) * 131 := IntWalk.i64_in _ (by omega)
        have r3 : IntKind.i64.wrap (x : Int) = x := IntWalk.i64_in _ (by omega)
        have r4 : IntKind.i64.wrap ((x : Int) * 1117) = (x : Int) * 1117 := IntWalk.i64_in _ (by omega)
        have r5 : IntKind.i64.wrap ((u : Int) * 131 + (x : Int) * 1117) = (u : Int) * 131 + (x : Int) * 1117 := IntWalk.i64_in _ (by omega)
        have r6 : IntKind.i64.wrap ((p : Int) * 29) = (p : Int) * 29 := IntWalk.i64_in _ (by omega)
        have r7 : IntKind.i64.wrap ((u : Int) * 131 + (x : Int) * 1117 + (p : Int) * 29) = (u : Int) * 131 + (x : Int) * 1117 + (p : Int) * 29 := IntWalk.i64_in _ (by omega)
        have r8 : IntKind.i64.wrap (d : Int) = d := IntWalk.i64_in _ (by omega)
        have r9 : IntKind.i64.wrap ((d : Int) * 53) = (d : Int) * 53 := IntWalk.i64_in _ (by omega)
        have rX : ∃ X : Nat, X ≤ 100000000 ∧ IntKind.i64.wrap ((u : Int) * 131 + (x : Int) * 1117 + (p : Int) * 29 + (d : Int) * 53) = X := ⟨u * 131 + x * 1117 + p * 29 + d * 53, by omega, by rw [IntWalk.i64_in _ (by omega)]; omega⟩
        obtain ⟨X, hX, rX⟩ := rX
        have hxor : ∃ Y : Nat, Y ≤ 200000000 ∧ bits BinOp.xor IntKind.i64 (X : Int) ((X : Int) / 64) = Y := xor_small X hX
        obtain ⟨Y, hY, rY⟩ := hxor
        have G : ∀ q, Hid (Picked g (.slice (some ⟨b, off, none⟩) len cap) P n w (.returned (.int .i64 ((Y : Int) % n))) ((w.setCell ⟨g, 1, none⟩ (.int .i64 ((p : Int) + 1))).drewN q)) := fun q =>
          F.out _ q (Int.emod_nonneg _ (by omega)) (fun _ => Int.emod_lt_of_pos _ (by omega)) (by omega)
        clear F
        generalize p % len = i1 at *
        generalize (p * 7 + 3) % len = i2 at *
        generalize ((p * 7 + 3 : Nat) : Int) = s1 at *
        go_enter Tryd.func44, Tryd.ntmps44
        go_wp2_with fail
        go_quiet (fail)
        clear r1 r2 r3 r4 r5 r6 r7 r8 r9
        go_wp2_with fail
        go_ret
        exact (G _).out
end Go.Proofs.YtklbdfjmhbiheaaDoor
