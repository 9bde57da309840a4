/- The walk of FnExactNetLit: for all arguments the law returns true and leaves alone what was there. -/
import Derived.Test.YteeaafdgkepaeaaNl
namespace Go.Proofs.Yteeaafdgkepaeaa
open Go.RowKit

set_option maxHeartbeats 2000000 in
theorem walk_FnExactNetLit (v : Value) (l : List Bool) (m : Int) (wm : (Lit.int .i64 m).wf = true) {w : World} (h : Bools w v l) :
    Calls Try.prog 3 #[v, .int .i64 m] w fun e w' => e = .returned (.bool true) ∧ Below w.heap.size w w' := by
  have hm : -9223372036854775808 ≤ m ∧ m ≤ 9223372036854775807 := by
    simp [Lit.wf, IntKind.min, IntKind.max, IntKind.signed, IntKind.bits] at wm; omega
  obtain ⟨m0, m1⟩ := hm
  have hf : ∃ a len cap, v = .slice a len cap ∧ len = l.length := by
    obtain ⟨a, cap, rfl, _⟩ := h; exact ⟨a, _, cap, rfl, rfl⟩
  obtain ⟨a, len, cap, rfl, hl⟩ := hf
  clear wm
  by_cases hb : (1048576 : Int) < (len : Int)
  · clear hl
    go_enter Try.func3, Try.ntmps3
    go_wp2_with fail
    go_ret
    exact ⟨rfl, Below.refl _ _⟩
  · have hn : l.length ≤ 1048576 := by omega
    clear hl
    go_enter Try.func3, Try.ntmps3
    go_wp2_with fail
    refine (toBoolS_any _ l _ h hn).mono ?_; rintro e w1 ⟨v1, rfl, o1, b1⟩
    have q1 := Bools.of_own o1
    go_wp2_with fail
    refine (netLit_spec v1 l m _ q1 m0 m1).mono ?_; rintro e w2 h2
    obtain ⟨rfl, b2⟩ := h2.below
    have B2 := below_two b1 b2
    clear q1 o1 b1 b2 h2
    go_wp2_with fail
    refine (toBoolS_any _ l _ (h.below B2) hn).mono ?_; rintro e w3 ⟨v3, rfl, o3, b3⟩
    have q3 := Bools.of_own o3
    have B3 := below_two B2 b3
    clear o3 b3 B2
    go_wp2_with fail
    refine (netLit_impl v3 l m _ q3 m0 m1).mono ?_; rintro e w4 h4
    obtain ⟨rfl, b4⟩ := h4.below
    have q4 := q3.below b4
    have B4 := below_two B3 b4
    clear q3 b4 B3 h4
    go_wp2_with fail
    refine (toBoolS_any _ l _ (h.below B4) hn).mono ?_; rintro e w5 ⟨v5, rfl, o5, b5⟩
    have q5 := Bools.of_own o5
    have q6 := q4.below b5
    have B5 := below_two B4 b5
    clear o5 q4 b5 B4
    go_wp2_with fail
    refine (eqBoolS_any v3 v5 l l _ q6 q5).mono ?_; rintro e w6 h6
    obtain ⟨rfl, b6⟩ := h6.below
    have B6 := below_two B5 b6
    go_wp2_with fail
    go_ret
    exact ⟨rfl, B6⟩
end Go.Proofs.Yteeaafdgkepaeaa
