/- What the reference draws for clauses: rows that a call makes and grows while it reads its code. The conditions stand in each statement. -/
import Derived.Test.YtjobbokjebhjgaaLv
import Derived.Test.YtjobbokjebhjgaaRn
import Derived.Test.YtjobbokjebhjgaaSi
import Derived.Deep.AppendLies
namespace Go.Proofs.Ytjobbokjebhjgaa
open Go.RowKit

theorem RdOk.le {w : World} {g : Nat} {v : Value} {P P' : Nat} (h : RdOk w g v P) (hp : P ≤ P') : RdOk w g v P' := by
  obtain ⟨p, h1, h2⟩ := h; exact ⟨p, Nat.le_trans h1 hp, h2⟩
/-- only a row that was not there when the reader was seen to be well has turned -/
theorem RdOk.growNew {w w' w0 : World} {g : Nat} {v : Value} {P P0 : Nat} {row : Option Nat} (h : RdOk w g v P) (h0 : RdOk w0 g v P0) (hg : w.grownBy w' row) (hr : ∀ k, row = some k → w0.heap.size ≤ k) : RdOk w' g v P := by
  have hl := h0.lt
  have hb : ∀ q, w0.heap.size ≤ q → ∀ b off len cap, v = .slice (some ⟨b, off, none⟩) len cap → 1 ≤ len → b ≠ q := fun q hq => rd_code_ne h0 hq
  obtain ⟨p, h1, h2, h3⟩ := h
  have hgl : g < w.heap.size := (Array.getElem?_eq_some_iff.1 h2).1
  refine ⟨p, h1, (hg.block g hgl (fun e => ?_)).trans h2, ?_⟩
  · have := hr g e.symm; omega
  · rcases h3 with h3 | ⟨b, off, len, cap, rfl, a1, a2, a3, a4, a5⟩
    · exact .inl h3
    · refine .inr ⟨b, off, len, cap, rfl, a1, a2, a3, Nat.lt_of_lt_of_le a4 hg.size, fun i hi => ?_⟩
      obtain ⟨u, hu, hc⟩ := a5 i hi
      refine ⟨u, hu, hg.cell hc (fun e => ?_)⟩
      exact hb b (hr b e.symm) b off len cap rfl a1 rfl
theorem grown_new {a w w' : World} {g : Nat} {row : Option Nat} (h : a.grownBy w (some g)) (hg : w.grownBy w' row) (hr : ∀ k, row = some k → a.heap.size ≤ k) : a.grownBy w' (some g) :=
  ⟨hg.os.trans h.os, hg.tape.trans h.tape, hg.output.trans h.output, Nat.le_trans h.size hg.size, fun i hi hne => (hg.block i (Nat.lt_of_lt_of_le hi h.size) (fun e => by have := hr i e.symm; omega)).trans (h.block i hi hne)⟩
/-- a row of one's own over a step that turns only a block below its base -/
theorem own_grown {w w' : World} {base size n g : Nat} {e : TypeId} {v : Value} {xs : List Value} (h : w.ownsRow base e size v n xs) (hg : w.grownBy w' (some g)) (hlt : g < base) : w'.ownsRow base e size v n xs :=
  h.kept hg (by
    cases hv : v.ownBlock with
    | none => exact .inl rfl
    | some k => exact .inr (fun e => by have := (h.lt k hv).1; simp at e; omega))
theorem own_row_ge {w : World} {base size n : Nat} {e : TypeId} {v : Value} {xs : List Value} (h : w.ownsRow base e size v n xs) : ∀ k, v.ownBlock = some k → base ≤ k := fun k hk => (h.lt k hk).1

/-- a call gave a row of its own that reads as numbers; only the reader has turned -/
def DrawnInts (g : Nat) (v : Value) (P : Nat) (Q : List Int → Prop) (w : World) (e : Ending) (w' : World) : Prop :=
  ∃ b cap l, e = .returned (.slice (some ⟨b, 0, none⟩) (List.length l) cap) ∧ w'.ownsRow w.heap.size 3 1 (.slice (some ⟨b, 0, none⟩) l.length cap) l.length (l.map (.int .i64)) ∧ Q l ∧ w.grownBy w' (some g) ∧ RdOk w' g v P
def InBound (n : Nat) (l : List Int) : Prop := l.length ≤ n ∧ ∀ x ∈ l, -(n : Int) ≤ x ∧ x ≤ n
theorem InBound.snoc {n m : Nat} {l : List Int} {x : Int} (h : l.length ≤ n ∧ ∀ x ∈ l, -(m : Int) ≤ x ∧ x ≤ m) (hx : -(m : Int) ≤ x ∧ x ≤ m) : (l ++ [x]).length ≤ n + 1 ∧ ∀ y ∈ l ++ [x], -(m : Int) ≤ y ∧ y ≤ m := by
  refine ⟨by simpa using h.1, fun y hy => ?_⟩
  rcases List.mem_append.1 hy with hy | hy
  · exact h.2 y hy
  · simp at hy; subst hy; exact hx
theorem own_snoc {w : World} {base : Nat} {e : TypeId} {v : Value} {l : List Int} {x : Int} (h : w.ownsRow base e 1 v (l.length + 1) (l.map (.int .i64) ++ [.int .i64 x])) : w.ownsRow base e 1 v (l ++ [x]).length ((l ++ [x]).map (.int .i64)) := by
  simpa using h

set_option maxRecDepth 100000 in
set_option maxHeartbeats 4000000 in
theorem l4Draw_any (g P : Nat) (v : Value) (many : Nat) (long : Int) (w : World) (hr : RdOk w g v P) (hP : P ≤ 900000) (hm : many ≤ 700) :
    Calls Try.prog 49 #[.pointer (some ⟨g, 0, none⟩), .int .i64 many, .int .i64 long] w (DrawnInts g v (P + 2 * many) (InBound many) w) := by
  have gl := hr.lt
  obtain ⟨i0, hi, hz0, hz1, hz2⟩ := info_parts infoInt
  go_enter Try.func49, Try.ntmps49
  go_wp2
  have S0 : (w.alloc (.cells #[] 3)).ownsRow w.heap.size 3 1 (.slice (some ⟨w.heap.size, 0, none⟩) 0 0) 0 [] := World.ownsRow_lit (e := 3) (size := 1) w #[] 0 (Nat.le_refl _) (Nat.zero_le _) rfl
  have G0 : w.grownBy (w.alloc (.cells #[] 3)) (some g) := World.grownBy_alloc _ _ _
  have R0 : RdOk (w.alloc (.cells #[] 3)) g v P := hr.alloc _
  go_loopw [8, 7] (fun i o wr => ∃ (k : Nat) (b cap : Nat) (l : List Int), k ≤ many ∧ i = .int .i64 ((k : Int) + 1) ∧ o = .slice (some ⟨b, 0, none⟩) l.length cap ∧ wr.ownsRow w.heap.size 3 1 (.slice (some ⟨b, 0, none⟩) l.length cap) l.length (l.map (.int .i64)) ∧ (l.length ≤ k ∧ ∀ x ∈ l, -(many : Int) ≤ x ∧ x ≤ many) ∧ w.grownBy wr (some g) ∧ RdOk wr g v (P + 2 * k)) (fun i _ _ => ((many : Int) + 1 - intOf i).toNat)
  case atStart => exact ⟨0, _, _, [], Nat.zero_le _, rfl, rfl, S0, ⟨Nat.le_refl _, by simp⟩, G0, R0⟩
  case round =>
    obtain ⟨k, b, cap, l, hk, rfl, rfl, own, hq, G, R⟩ := hrel
    clear S0 G0 R0
    by_cases hlt : k < many
    · go_wp2_with fail
      refine (pick_any g (P + 2 * k) v many _ R (by omega)).mono ?_
      rintro e w1 ⟨p, rfl, p0, p1, _, hg1, R1⟩
      replace G := grown_two G hg1
      replace own := own_grown own hg1 gl
      clear p1 R hg1
      by_cases hp : p < long
      · go_wp2_with fail
        refine (pick_any g (P + 2 * k + 1) v 2 _ R1 (by omega)).mono ?_
        rintro e w2 ⟨q, rfl, q0, q1, _, hg2, R2⟩
        replace G := grown_two G hg2
        replace own := own_grown own hg2 gl
        clear q1 R1 hg2
        have hlen : l.length ≤ 700 := by have := hq.1; omega
        have hsz : w.heap.size ≤ w2.heap.size := G.size
        by_cases hz : q = 0
        · subst hz
          have HQ := Lib.hid (InBound.snoc (x := (k : Int) + 1) hq ⟨by omega, by omega⟩)
          have own' := own.alloc (.cells #[.int .i64 ((k : Int) + 1)] 3)
          have G' := grown_alloc G (.cells #[.int .i64 ((k : Int) + 1)] 3)
          have R' := R2.alloc (.cells #[.int .i64 ((k : Int) + 1)] 3)
          clear own G R2 hq
          go_wp2_with (at_builtin; refine wpList_append_lies _ rfl _ _ _ rfl w.heap.size 3 i0 (.int .i64 0) 1 8 Try.underlying22 hi hz0 hz1 hz2 rfl (by omega) _ l.length (l.map (.int .i64)) rfl own' ⟨w2.heap.size, 0, none⟩ 1 1 [.int .i64 ((k : Int) + 1)] rfl rfl (World.news_of_block (heap_alloc_new w2 _)) (by simp [Value.oneCell']) (by omega) (by unfold maxLen; omega) (by omega) (by simp; omega) _ rfl ?_; intro b2 cap2 w3 own3 hg3 hat hlt3)
          have G3 := grown_new G' hg3 (own_row_ge own')
          have R3 := R'.growNew hr hg3 (own_row_ge own')
          exact ⟨⟨k + 1, b2, cap2, l ++ [(k : Int) + 1], by omega, by go_num, by simp, by simpa using own3, HQ.out, G3, R3.le (by omega)⟩, by simp [intOf]; omega⟩
        · have hzq : (q == 0) = false := by simpa using hz
          have HQ := Lib.hid (InBound.snoc (x := -((k : Int) + 1)) hq ⟨by omega, by omega⟩)
          have own' := own.alloc (.cells #[.int .i64 (-((k : Int) + 1))] 3)
          have G' := grown_alloc G (.cells #[.int .i64 (-((k : Int) + 1))] 3)
          have R' := R2.alloc (.cells #[.int .i64 (-((k : Int) + 1))] 3)
          clear own G R2 hq
          go_wp2_with (at_builtin; refine wpList_append_lies _ rfl _ _ _ rfl w.heap.size 3 i0 (.int .i64 0) 1 8 Try.underlying22 hi hz0 hz1 hz2 rfl (by omega) _ l.length (l.map (.int .i64)) rfl own' ⟨w2.heap.size, 0, none⟩ 1 1 [.int .i64 (-((k : Int) + 1))] rfl rfl (World.news_of_block (heap_alloc_new w2 _)) (by simp [Value.oneCell']) (by omega) (by unfold maxLen; omega) (by omega) (by simp; omega) _ rfl ?_; intro b2 cap2 w3 own3 hg3 hat hlt3)
          have G3 := grown_new G' hg3 (own_row_ge own')
          have R3 := R'.growNew hr hg3 (own_row_ge own')
          exact ⟨⟨k + 1, b2, cap2, l ++ [-((k : Int) + 1)], by omega, by go_num, by simp, by simpa using own3, HQ.out, G3, R3.le (by omega)⟩, by simp [intOf]; omega⟩
      · go_wp2_with fail
        exact ⟨⟨k + 1, b, cap, l, by omega, by go_num, rfl, own, ⟨by omega, hq.2⟩, G, R1.le (by omega)⟩, by simp [intOf]; omega⟩
    · obtain rfl : k = many := by omega
      go_wp2_with fail
      go_ret
      exact ⟨b, cap, l, rfl, own, hq, G, R⟩
end Go.Proofs.Ytjobbokjebhjgaa
