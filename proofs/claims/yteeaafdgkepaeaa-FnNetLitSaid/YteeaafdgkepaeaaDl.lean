/- The walk of FnNetLit: for every argument the law returns true and leaves alone what was there; what DrawNetLit gives. -/
import Derived.Test.YteeaafdgkepaeaaLv
import Derived.Test.YteeaafdgkepaeaaRn
import Derived.Test.YteeaafdgkepaeaaBy
import Derived.Test.YteeaafdgkepaeaaNl
import Derived.Test.YteeaafdgkepaeaaCh
namespace Go.Proofs.Yteeaafdgkepaeaa
open Go.RowKit
/-- a call gave a value that reads in the world behind it as Q says, and kept what was there -/
def GaveIn (Q : World → Value → Prop) (w : World) (e : Ending) (w' : World) : Prop := ∃ x, e = .returned x ∧ Q w' x ∧ Below w.heap.size w w'
def IsBsI (w : World) (x : Value) : Prop := ∃ (v : Value) (l : List Bool) (m : Int), x = .tuple #[v, .int .i64 m] ∧ Bools w v l ∧ l.length ≤ 10 ∧ -9223372036854775808 ≤ m ∧ m ≤ 9223372036854775807
def I64 (n : Int) : Prop := -9223372036854775808 ≤ n ∧ n ≤ 9223372036854775807

set_option maxHeartbeats 2000000 in
theorem drawNetLit_any (v : Value) (w : World) (h : BytesIn w v) :
    Calls Try.prog 15 #[v] w (GaveIn IsBsI w) := by
  go_enter Try.func15, Try.ntmps15
  go_wp2_with fail
  refine (l12Open_any v _ h).mono ?_
  rintro e w1 ⟨g, u, rfl, hg, hb1, hr1⟩
  have gl1 := hr1.lt
  go_wp2_with fail
  refine (pick_any g 0 u 13 _ hr1 (by omega)).mono ?_
  rintro e w2 ⟨k, rfl, k0, k1, _, hg2, hr2⟩
  have k2 := k1 (by decide)
  have B2 := below_of_grown hb1 hg2 hg
  clear hb1 hg2 hr1 k1
  go_wp2_with fail
  refine (pick_any g 1 u 20 _ hr2 (by omega)).mono ?_
  rintro e w3 ⟨m, rfl, m0, m1, _, hg3, hr3⟩
  have B3 := below_of_grown B2 hg3 hg
  clear B2 hg3 hr2 m1
  have gl3 := hr3.lt
  by_cases hz : m = 0
  · subst hz
    go_wp2_with fail
    refine (num_in I64 g _ u w3.heap.size 2 2 _ (hr3.alloc _) (by omega) (by omega) (by omega) (by omega) (new_ints_in w3 I64 [-9223372036854775808, 9223372036854775807] 3 (by simp [I64]))).mono ?_
    rintro e w4 ⟨_, rfl, ⟨x, rfl, hx⟩, hg4, hr4⟩
    have BB := below_of_grown (below_step B3 _) hg4 hg
    have HX : Hid (I64 x) := hx
    clear B3 hr3 hg4 hx
    go_wp2_with fail
    refine (pick_any g _ u 6 _ hr4 (by omega)).mono ?_
    rintro e w5 ⟨n, rfl, n0, n1, _, hg5, hr5⟩
    have n2 := n1 (by decide)
    replace BB := below_of_grown BB hg5 hg
    clear n1 hg5
    go_wp2_with fail
    refine (pick_any g _ u 64 _ hr5 (by omega)).mono ?_
    rintro e w6 ⟨q, rfl, q0, q1, _, hg6, hr6⟩
    have q2 := q1 (by decide)
    replace BB := below_of_grown BB hg6 hg
    clear q1 hg6
    obtain ⟨n', rfl⟩ := Int.eq_ofNat_of_zero_le n0
    obtain ⟨q', rfl⟩ := Int.eq_ofNat_of_zero_le q0
    go_wp2_with fail
    refine (l4Vals_any n' q' _ (by omega) (by omega)).mono ?_
    rintro e w9 ⟨y, rfl, o9, hb9⟩
    have B9 := below_two BB hb9
    have hb9l := Bools.of_own (l := l4v n' q') o9
    have hl9 : (l4v n' q').length ≤ 10 := by rw [l4v_len]; omega
    go_wp2_with fail
    exact bodyPost_ret (v := .tuple #[y, .int .i64 (x)]) (by simp [results, Try.results15, go_sem]) rfl ⟨_, rfl, ⟨y, _, _, rfl, hb9l, hl9, HX.out.1, HX.out.2⟩, B9⟩
  · have hzq : (m == 0) = false := by simpa using hz
    have BB := B3
    have HX : Hid (I64 (k - 6)) := ⟨by omega, by omega⟩
    clear B3
    go_wp2_with fail
    refine (pick_any g _ u 6 _ hr3 (by omega)).mono ?_
    rintro e w5 ⟨n, rfl, n0, n1, _, hg5, hr5⟩
    have n2 := n1 (by decide)
    replace BB := below_of_grown BB hg5 hg
    clear n1 hg5
    go_wp2_with fail
    refine (pick_any g _ u 64 _ hr5 (by omega)).mono ?_
    rintro e w6 ⟨q, rfl, q0, q1, _, hg6, hr6⟩
    have q2 := q1 (by decide)
    replace BB := below_of_grown BB hg6 hg
    clear q1 hg6
    obtain ⟨n', rfl⟩ := Int.eq_ofNat_of_zero_le n0
    obtain ⟨q', rfl⟩ := Int.eq_ofNat_of_zero_le q0
    go_wp2_with fail
    refine (l4Vals_any n' q' _ (by omega) (by omega)).mono ?_
    rintro e w9 ⟨y, rfl, o9, hb9⟩
    have B9 := below_two BB hb9
    have hb9l := Bools.of_own (l := l4v n' q') o9
    have hl9 : (l4v n' q').length ≤ 10 := by rw [l4v_len]; omega
    go_wp2_with fail
    exact bodyPost_ret (v := .tuple #[y, .int .i64 ((k - 6))]) (by simp [results, Try.results15, go_sem]) rfl ⟨_, rfl, ⟨y, _, _, rfl, hb9l, hl9, HX.out.1, HX.out.2⟩, B9⟩
theorem nlit_neg {l : List Bool} {m : Int} (h0 : m ≠ 0) (h1 : m ≤ l.length) (h2 : -(l.length : Int) ≤ m) : nlit l (-m) = !nlit l m := by
  unfold nlit
  by_cases h : 0 < m
  · rw [if_pos h, if_pos h1, if_neg (by omega), if_pos (by omega)]
    simp
  · rw [if_neg h, if_pos (by omega), if_pos (by omega), if_pos (by omega), Bool.not_not]
theorem ints_lit (w : World) (l : List Int) (t : TypeId) (hm : l.length ≤ maxLen) : Ints (w.alloc (.cells (l.map (Value.int .i64)).toArray t)) (.slice (some ⟨w.heap.size, 0, none⟩) l.length l.length) l := by
  refine ⟨_, _, rfl, Nat.le_refl _, hm, .inr ⟨_, 0, rfl, by simp, fun i hi => ?_⟩⟩
  rw [World.cell?_alloc_new]
  simp [hi, List.getD_eq_getElem?_getD]

set_option linter.unusedVariables false in
set_option maxRecDepth 20000 in
set_option maxHeartbeats 4000000 in
theorem walk_FnNetLit (v : Value) {w : World} (h : BytesIn w v) :
    Calls Try.prog 4 #[v] w fun e w' => e = .returned (.bool true) ∧ Below w.heap.size w w' := by
  obtain ⟨a0, len, cp, rfl⟩ : ∃ a len cap, v = .slice a len cap := by
    rcases h with ⟨a, c, rfl⟩ | ⟨b, off, len, cap, rfl, _⟩ <;> exact ⟨_, _, _, rfl⟩
  by_cases hb : (1048576 : Int) < len
  · go_enter Try.func4, Try.ntmps4
    go_wp2_with fail
    go_ret
    exact ⟨rfl, Below.refl _ _⟩
  go_enter Try.func4, Try.ntmps4
  go_wp2_with fail
  refine (drawNetLit_any _ _ h).mono ?_
  rintro e w1 ⟨_, rfl, ⟨u, l, m, rfl, hv, hl, m0, m1⟩, K⟩
  obtain ⟨a1, c1, rfl⟩ : ∃ a c, u = .slice a l.length c := by obtain ⟨a, c, rfl, _⟩ := hv; exact ⟨a, c, rfl⟩
  go_wp2_with fail
  refine (netLit_impl _ l m _ hv m0 m1).mono ?_; rintro e w2 d2
  obtain ⟨rfl, hb2⟩ := d2.below
  replace K := below_two K hb2
  replace hv := hv.below hb2
  clear hb2 d2
  go_wp2_with fail
  refine (netLit_spec _ l m _ hv m0 m1).mono ?_; rintro e w3 d3
  obtain ⟨rfl, hb3⟩ := d3.below
  replace K := below_two K hb3
  replace hv := hv.below hb3
  clear hb3 d3
  by_cases hin : m ≠ 0 ∧ m ≤ l.length ∧ -(l.length : Int) ≤ m
  · obtain ⟨h0, h1, h2⟩ := hin
    have hz : (m == 0) = false := by simpa using h0
    have HN := Lib.hid (nlit_neg h0 h1 h2)
    have C1 := Lib.hid (netLit_impl _ l (-m) _ hv (by omega) (by omega))
    have wf1 : intsWf [m] := fun i hi => by
      obtain rfl : i = 0 := by simpa using hi
      exact ⟨m0, m1⟩
    have q1 : ¬ (l.length : Int) < m := by omega
    have q2 : ¬ m < -(l.length : Int) := by omega
    obtain ⟨x, hx⟩ : ∃ x, x = nlit l m := ⟨_, rfl⟩
    rw [← hx] at HN ⊢
    have HX := Lib.hid hx
    clear hx
    go_wp2_with fail
    refine C1.out.mono ?_; rintro e w4 d4
    obtain ⟨rfl, hb4⟩ := d4.below
    rw [HN.out]
    replace K := below_two K hb4
    replace hv := hv.below hb4
    clear hb4 d4 C1
    have I1 := ints_lit w4 [m] 3 (by simp [maxLen])
    have V1 := hv.below (below_self_alloc w4 (.cells #[.int .i64 m] 3))
    have B1 := below_self_alloc w4 (.cells #[.int .i64 m] 3)
    have C := Lib.hid (clauseHas_impl _ [m] _ l _ I1 wf1 V1)
    have e1 : ([m].any (nlit l)) = x := by rw [HX.out]; simp
    rw [e1] at C
    clear I1 V1 wf1 e1 hv
    cases x <;>
      (go_wp2_with fail
       refine C.out.mono ?_; rintro e w5 ⟨rfl, hb5⟩
       go_wp2_with fail
       go_ret
       exact ⟨rfl, below_two K (B1.trans (hb5.mono (by simp)))⟩)
  · obtain ⟨h1, e⟩ : ((l.length : Int) < m ∨ m < -(l.length : Int) ∨ m = 0) ∧ nlit l m = false := by
      rcases nlit_cases l m with ⟨h1, h2, _⟩ | ⟨h1, h2, _⟩ | h
      · exact absurd ⟨by omega, by omega, by omega⟩ hin
      · exact absurd ⟨by omega, by omega, by omega⟩ hin
      · exact h
    rw [e]
    clear e hin hv
    rcases h1 with h1 | h1 | rfl
    · have hz : (m == 0) = false := by simp; omega
      go_wp2_with fail
      go_ret
      exact ⟨rfl, K⟩
    · have hz : (m == 0) = false := by simp; omega
      have q1 : ¬ (l.length : Int) < m := by omega
      go_wp2_with fail
      go_ret
      exact ⟨rfl, K⟩
    · go_wp2_with fail
      go_ret
      exact ⟨rfl, K⟩
end Go.Proofs.Yteeaafdgkepaeaa
