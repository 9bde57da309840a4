/- Marks into a formula's rows: only they turn. FnExactCnfLeast's parts. The conditions stand in each statement. -/
import Derived.Test.YtjobbokjebhjgaaCm
import Derived.Test.YtjobbokjebhjgaaCl
import Derived.Test.YtjobbokjebhjgaaCt
namespace Go.Proofs.Ytjobbokjebhjgaa
open Go.RowKit

/-- only blocks of S have turned, of those that were there -/
structure Only (S : Nat → Prop) (w w' : World) : Prop where
  os : w'.os = w.os
  tape : w'.tape = w.tape
  output : w'.output = w.output
  size : w.heap.size ≤ w'.heap.size
  block : ∀ k, k < w.heap.size → ¬ S k → w'.heap[k]? = w.heap[k]?
theorem Only.refl (S : Nat → Prop) (w : World) : Only S w w := ⟨rfl, rfl, rfl, Nat.le_refl _, fun _ _ _ => rfl⟩
theorem Only.grown {S : Nat → Prop} {w w1 w2 : World} {row : Option Nat} (h : Only S w w1) (hg : w1.grownBy w2 row) (hr : ∀ k, row = some k → S k) : Only S w w2 :=
  ⟨hg.os.trans h.os, hg.tape.trans h.tape, hg.output.trans h.output, Nat.le_trans h.size hg.size, fun k hk hs => (hg.block k (Nat.lt_of_lt_of_le hk h.size) (fun e => hs (hr k e.symm))).trans (h.block k hk hs)⟩
theorem Only.own {S : Nat → Prop} {w w' : World} {base size n : Nat} {e : TypeId} {v : Value} {xs : List Value} (h : w.ownsRow base e size v n xs) (ho : Only S w w') (hs : ∀ k, v.ownBlock = some k → ¬ S k) : w'.ownsRow base e size v n xs := by
  refine ⟨h.1, ?_⟩
  rcases h.2 with h2 | ⟨g, cap, cur, rfl, hb, hh, r⟩
  · exact .inl h2
  · exact .inr ⟨g, cap, cur, rfl, hb, (ho.block g (Array.getElem?_eq_some_iff.1 hh).1 (hs g rfl)).trans hh, r⟩
theorem Only.below {S : Nat → Prop} {a w w' : World} (h : Below a.heap.size a w) (ho : Only S w w') (hs : ∀ k, S k → a.heap.size ≤ k) : Below a.heap.size a w' :=
  ⟨ho.os.trans h.os, ho.tape.trans h.tape, ho.output.trans h.output, Nat.le_trans h.size ho.size, fun k hk => (ho.block k (Nat.lt_of_lt_of_le hk h.size) (fun e => by have := hs k e; omega)).trans (h.block k hk)⟩
theorem Only.blk {S : Nat → Prop} {w w' : World} {g : Nat} {x y : Value} {t : TypeId} (h : Blk w g x y t) (ho : Only S w w') (hs : ¬ S g) : Blk w' g x y t := by
  have := h.lt; unfold Blk at *; rw [ho.block g this hs]; exact h
/-- one of the rows -/
def rowOf (fs : List Value) (n : Nat) (k : Nat) : Prop := ∃ i, i < n ∧ (fs.getD i undef).ownBlock = some k

set_option maxHeartbeats 2000000 in
theorem markIntSS_any (v : Value) (ls : List (List Int)) (fs : List Value) (base : Nat) (tt : TypeId) (w : World) (h : OwnSS w base tt 3 v ls ls.length fs) (hn : ls.length ≤ 1048576) (hm : ∀ i, i < ls.length → (ls.getD i []).length ≤ 1048576) :
    Calls Try.prog 68 #[v, .int .i64 1] w fun e w' => ∃ q : Nat, e = .returned (.int .i64 (q : Int)) ∧ Only (rowOf fs ls.length) w w' := by
  obtain ⟨a, cap, e0, hr⟩ := Row.of_own h.top
  subst e0
  have HM := Lib.hid hm
  clear hm
  go_enter Try.func68, Try.ntmps68
  go_wp2
  go_loopw [5, 1] (fun i q wr => ∃ (k z : Nat), k ≤ ls.length ∧ i = .int .i64 k ∧ q = .int .i64 (z : Int) ∧ z ≤ 1 + k * 1048576 ∧ Only (rowOf fs ls.length) w wr ∧ (∀ i, i < ls.length → ∃ xs, wr.ownsRow base 3 1 (fs.getD i undef) (ls.getD i []).length xs)) (fun i _ _ => ls.length - (intOf i).toNat)
  case atStart => exact ⟨0, 1, Nat.zero_le _, rfl, rfl, by omega, Only.refl _ _, fun i hi => ⟨_, h.row i hi⟩⟩
  case round =>
    obtain ⟨k, z, hk, rfl, rfl, hz, O, R⟩ := hrel
    by_cases hlt : k < ls.length
    · have hzk : k * 1048576 ≤ 1099511627776 := by omega
      have topk := O.own h.top (fun j hj hs => by
        obtain ⟨i, hi, e⟩ := hs
        exact h.off i hi j e hj)
      obtain ⟨a', c', e', r1, r2, r3⟩ := Row.of_own topk
      cases e'
      rcases r3 with r3 | ⟨b, off, rfl, r4, r5⟩
      · omega
      have r6 : wr.cell? ⟨b, off + k, none⟩ = some (fs.getD k undef) := r5 k hlt
      obtain ⟨xs, ok⟩ := R k hlt
      obtain ⟨a1, c1, e1, _⟩ := Row.of_own ok
      have hmk := HM.out k hlt
      have M := markIntS_any _ base _ z xs wr ok (by omega)
      have RR := Lib.hid R
      have hfk := Lib.hid e1
      rw [e1] at r6 M
      obtain ⟨x1, hx1⟩ : ∃ x, x = (ls.getD k []).length := ⟨_, rfl⟩
      rw [← hx1] at r6 M hmk
      have HX := Lib.hid hx1
      have hh := Lib.hid h
      have MM := Lib.hid M
      have hzb : z ≤ 1099511627777 := by omega
      have hz' := Lib.hid hz
      clear r5 R M e1 hx1 ok h topk hr hz hzk
      have hk1 : (k : Int) < (ls.length : Int) := by omega
      go_wp2_with fail
      refine MM.out.mono ?_; rintro e w2 ⟨rfl, own2, hg2⟩
      have hS : ∀ j, (Value.slice a1 x1 c1).ownBlock = some j → rowOf fs ls.length j := fun j hj => ⟨k, hlt, by rw [hfk.out, ← HX.out]; exact hj⟩
      have O2 := O.grown hg2 hS
      have R2 : Hid (∀ i, i < ls.length → ∃ xs, w2.ownsRow base 3 1 (fs.getD i undef) (ls.getD i []).length xs) := fun i hi => by
        by_cases e : i = k
        · subst e
          exact ⟨_, by rw [hfk.out, ← HX.out]; exact own2⟩
        · obtain ⟨ys, oi⟩ := RR.out i hi
          refine ⟨ys, oi.kept hg2 ?_⟩
          cases hb : (fs.getD i undef).ownBlock with
          | none => exact .inl rfl
          | some j =>
            refine .inr (fun e2 => ?_)
            have e3 : (fs.getD k undef).ownBlock = some j := by rw [hfk.out, ← HX.out]; exact e2.symm
            rcases Nat.lt_or_ge i k with h1 | h1
            · exact hh.out.apart i k h1 hlt j hb e3
            · exact hh.out.apart k i (by omega) hi j e3 hb
      have hz2 : z + x1 ≤ 1 + (k + 1) * 1048576 := by have := hz'.out; rw [Nat.succ_mul]; omega
      have HZ2 := Lib.hid hz2
      clear MM own2 hg2 hz2 RR hS O
      go_wp2_with fail
      exact ⟨⟨k + 1, z + x1, by omega, by go_num, by go_num, HZ2.out, O2, R2.out⟩, by simp [intOf]; omega⟩
    · obtain rfl : k = ls.length := by omega
      clear R h hr
      go_wp2_with fail
      go_ret
      exact ⟨z, rfl, O⟩

theorem markCnf_any (m : Int) (v : Value) (ls : List (List Int)) (fs : List Value) (base : Nat) (tt : TypeId) (w : World) (h : OwnSS w base tt 3 v ls ls.length fs) (hn : ls.length ≤ 1048576) (hm : ∀ i, i < ls.length → (ls.getD i []).length ≤ 1048576) :
    Calls Try.prog 42 #[.agg #[.int .i64 m, v], .int .i64 1] w fun e w' => ∃ q : Nat, e = .returned (.int .i64 (q : Int)) ∧ Only (rowOf fs ls.length) w w' := by
  have hb := below_self_alloc w (.cells #[.int .i64 m, v] 38)
  have C := Lib.hid (markIntSS_any v ls fs base tt _ (h.below hb) hn hm)
  obtain ⟨a, cap, e0, _⟩ := Row.of_own h.top
  subst e0
  clear h hm
  go_enter Try.func42, Try.ntmps42
  go_wp2_with fail
  refine C.out.mono ?_; rintro e w1 ⟨q, rfl, O⟩
  have O2 : Hid (Only (rowOf fs ls.length) w w1) := ⟨O.os, O.tape, O.output, by have := O.size; simp at this; omega, fun k hk hs => (O.block k (by simp; omega) hs).trans (hb.block k hk)⟩
  clear C O
  go_wp2_with fail
  go_ret
  exact ⟨q, rfl, O2.out⟩
end Go.Proofs.Ytjobbokjebhjgaa
namespace Go
open Go.RowKit
theorem World.ownsRow.below {w w' : World} {base size n : Nat} {e : TypeId} {v : Value} {xs : List Value} (h : w.ownsRow base e size v n xs) (hb : Below w.heap.size w w') : w'.ownsRow base e size v n xs := Go.Proofs.Ytjobbokjebhjgaa.own_keep h hb
end Go
namespace Go.Proofs.Ytjobbokjebhjgaa
open Go.RowKit
theorem OwnSS.drew {w : World} {base : Nat} {tt ti : TypeId} {v : Value} {ls : List (List Int)} {k : Nat} {fs : List Value} (h : OwnSS w base tt ti v ls k fs) : OwnSS w.drew base tt ti v ls k fs := ⟨h.top, h.row, h.apart, h.off, h.rest⟩
theorem rowOf_ge {w : World} {base : Nat} {tt ti : TypeId} {v : Value} {ls : List (List Int)} {fs : List Value} (h : OwnSS w base tt ti v ls ls.length fs) : ∀ k, rowOf fs ls.length k → base ≤ k ∧ k < w.heap.size := fun k ⟨i, hi, e⟩ => (h.row i hi).lt k e
theorem own_other {w w' : World} {base size n : Nat} {e : TypeId} {v v2 : Value} {xs : List Value} (h : w.ownsRow base e size v n xs) (hg : w.grownBy w' v2.ownBlock) (hne : ∀ k, v.ownBlock = some k → v2.ownBlock ≠ some k) : w'.ownsRow base e size v n xs :=
  h.kept hg (by
    cases hv : v.ownBlock with
    | none => exact .inl rfl
    | some k => exact .inr (fun e => hne k hv e.symm))
theorem blk_row {w w' : World} {g : Nat} {x y : Value} {t : TypeId} {row : Option Nat} (h : Blk w g x y t) (hg : w.grownBy w' row) (hne : row ≠ some g) : Blk w' g x y t := by
  have := h.lt; unfold Blk at *; rw [hg.block g this (fun e => hne e.symm)]; exact h
theorem leastL_len (m : Int) (ls : List (List Int)) : (leastL m ls).1.length ≤ 10 := by
  have hf : ∀ (n : Nat) (p : List Bool → Bool) (f k : Nat), (leastFrom n p f k).1.length ≤ n := by
    intro n p f
    induction f with
    | zero => intro k; simp [leastFrom]
    | succ f ih =>
      intro k
      unfold leastFrom
      split
      · simp [l4v_len]
      · exact ih _
  unfold leastL
  split
  · rename_i h
    have := hf m.toNat (holdsL ls) (2 ^ m.toNat) 0
    omega
  · simp
end Go.Proofs.Ytjobbokjebhjgaa
