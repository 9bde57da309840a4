/- The walk of FnExactClauseHas: for all arguments the law returns true and leaves alone what was there. -/
import Derived.Test.YtjobbokjebhjgaaCs
namespace Go.Proofs.Ytjobbokjebhjgaa
open Go.RowKit

set_option maxHeartbeats 4000000 in
theorem walk_FnExactClauseHas (v : Value) (lc : List Int) (wl : ∀ x ∈ lc, (Lit.int .i64 x).wf = true) (u : Value) (l : List Bool) {w : World} (hc : Ints w v lc) (h : Bools w u l) :
    Calls Try.prog 3 #[v, u] w fun e w' => e = .returned (.bool true) ∧ Below w.heap.size w w' := by
  have hwf := intsWf_of wl
  have lh := hc.len
  have lh' := h.len
  have hf : ∃ a cap, v = .slice a lc.length cap := by
    obtain ⟨a, cap, rfl, _⟩ := hc; exact ⟨a, cap, rfl⟩
  obtain ⟨a, cap, rfl⟩ := hf
  have hf' : ∃ a cap, u = .slice a l.length cap := by
    obtain ⟨a, cap, rfl, _⟩ := h; exact ⟨a, cap, rfl⟩
  obtain ⟨a', cap', rfl⟩ := hf'
  clear wl
  by_cases hb : (1048576 : Int) < (lc.length : Int)
  · go_enter Try.func3, Try.ntmps3
    go_wp2_with fail
    go_ret
    exact ⟨rfl, Below.refl _ _⟩
  by_cases hb' : (1048576 : Int) < (l.length : Int)
  · go_enter Try.func3, Try.ntmps3
    go_wp2_with fail
    go_ret
    exact ⟨rfl, Below.refl _ _⟩
  · have hm : lc.length ≤ 1048576 := by omega
    have hn : l.length ≤ 1048576 := by omega
    go_enter Try.func3, Try.ntmps3
    go_wp2_with fail
    refine (toIntS_any _ lc _ hc hm).mono ?_; rintro e w1 ⟨v1, rfl, o1, b1⟩
    replace hc := hc.below b1
    replace h := h.below b1
    have B := b1
    have q1 := Ints.of_own o1
    clear o1 b1
    go_wp2_with fail
    refine (toBoolS_any _ l _ h hn).mono ?_; rintro e w2 ⟨v2, rfl, o2, b2⟩
    replace hc := hc.below b2
    replace h := h.below b2
    replace q1 := q1.below b2
    replace B := below_two B b2
    have q2 := Bools.of_own o2
    clear o2 b2
    go_wp2_with fail
    refine (clauseHas_spec v1 lc v2 l _ q1 hwf q2).mono ?_; rintro e w3 d3
    obtain ⟨rfl, b3⟩ := d3.below
    replace hc := hc.below b3
    replace h := h.below b3
    replace q1 := q1.below b3
    replace q2 := q2.below b3
    replace B := below_two B b3
    clear b3 d3
    clear q1 q2
    go_wp2_with fail
    refine (toIntS_any _ lc _ hc hm).mono ?_; rintro e w4 ⟨v4, rfl, o4, b4⟩
    replace hc := hc.below b4
    replace h := h.below b4
    replace B := below_two B b4
    have q4 := Ints.of_own o4
    clear o4 b4
    go_wp2_with fail
    refine (toBoolS_any _ l _ h hn).mono ?_; rintro e w5 ⟨v5, rfl, o5, b5⟩
    replace hc := hc.below b5
    replace h := h.below b5
    replace q4 := q4.below b5
    replace B := below_two B b5
    have q5 := Bools.of_own o5
    clear o5 b5
    go_wp2_with fail
    refine (clauseHas_impl v4 lc v5 l _ q4 hwf q5).mono ?_; rintro e w6 ⟨rfl, b6⟩
    replace hc := hc.below b6
    replace h := h.below b6
    replace q4 := q4.below b6
    replace q5 := q5.below b6
    replace B := below_two B b6
    clear b6
    go_wp2_with fail
    refine (toIntS_any _ lc _ hc hm).mono ?_; rintro e w7 ⟨v7, rfl, o7, b7⟩
    replace hc := hc.below b7
    replace h := h.below b7
    replace q4 := q4.below b7
    replace q5 := q5.below b7
    replace B := below_two B b7
    have q7 := Ints.of_own o7
    clear o7 b7
    go_wp2_with fail
    refine (eqIntS_any v4 v7 lc lc _ q4 q7).mono ?_; rintro e w8 d8
    obtain ⟨rfl, b8⟩ := d8.below
    rw [decide_eq_true rfl]
    replace hc := hc.below b8
    replace h := h.below b8
    replace q4 := q4.below b8
    replace q5 := q5.below b8
    replace q7 := q7.below b8
    replace B := below_two B b8
    clear b8 d8
    clear q4 q7
    go_wp2_with fail
    refine (toBoolS_any _ l _ h hn).mono ?_; rintro e w9 ⟨v9, rfl, o9, b9⟩
    replace hc := hc.below b9
    replace h := h.below b9
    replace q5 := q5.below b9
    replace B := below_two B b9
    have q9 := Bools.of_own o9
    clear o9 b9
    go_wp2_with fail
    refine (eqBoolS_any v5 v9 l l _ q5 q9).mono ?_; rintro e w10 d10
    obtain ⟨rfl, b10⟩ := d10.below
    rw [decide_eq_true rfl]
    replace hc := hc.below b10
    replace h := h.below b10
    replace q5 := q5.below b10
    replace q9 := q9.below b10
    replace B := below_two B b10
    clear b10 d10
    go_wp2_with fail
    go_ret
    exact ⟨rfl, B⟩
end Go.Proofs.Ytjobbokjebhjgaa
