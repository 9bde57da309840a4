/- The walk of FnExactClauseText: for all arguments the law returns true and leaves alone what was there. -/
import Derived.Test.YtjobbokjebhjgaaDoorYt
import Derived.Deep.DeepCutAuto
namespace Go.Proofs.YtjobbokjebhjgaaDoor
open Go.RowKit

set_option linter.unusedVariables false in
set_option maxRecDepth 20000 in
set_option maxHeartbeats 8000000 in
theorem walk_FnExactClauseText (v1 : Value) (l : List Int) (wl : ∀ x ∈ l, (Lit.int .i64 x).wf = true) {w : World} (hT : Tab w) (h1 : Ints w v1 l) :
    Calls Tryd.prog 3 #[v1] w fun e w' => e = .returned (.bool true) ∧ Below w.heap.size w w' := by
  have hl := h1.len
  have hwf := Lib.hid (intsWf_of wl)
  clear wl
  have hh := h1
  obtain ⟨a1, c1, z1, _⟩ := hh
  subst z1
  by_cases hm : 1048576 < l.length
  · clear h1 hT
    go_enter Tryd.func3, Tryd.ntmps3
    go_wp2_with fail
    go_ret
    exact ⟨rfl, Below.refl _ _⟩
  replace hm : l.length ≤ 1048576 := by omega
  obtain ⟨z, hz⟩ : ∃ z, z = ctxV l := ⟨_, rfl⟩
  have Fs : Hid (∀ w' s, Ints w' s l → Calls Tryd.prog 5 #[s] w' fun e w2 => e = .returned (.string z) ∧ Below w'.heap.size w' w2) := fun w' s h => by rw [hz]; exact clauseText_spec s l w' h
  have Fi : Hid (∀ w' s, Ints w' s l → Tab w' → Calls Tryd.prog 7 #[s] w' fun e w2 => e = .returned (.string z) ∧ Below w'.heap.size w' w2) := fun w' s h ht => by rw [hz]; exact clauseText_impl s l w' h hwf.out ht
  clear hz
  go_enter Tryd.func3, Tryd.ntmps3
  go_wp2_with fail
  refine (toIntS_any _ l _ h1 hm).mono ?_; rintro e w1 ⟨s3, rfl, o3, hb⟩
  have t3 := Ints.of_own o3
  obtain ⟨p3, e3, z3, _⟩ := Row.of_own o3
  subst z3
  clear o3
  replace h1 := h1.below hb
  replace hT := hT.below hb
  have K := hb
  clear hb
  have q3 := t3
  clear t3
  go_wp2_with fail
  refine (Fs.out _ _ q3).mono ?_; rintro e w2 ⟨rfl, hb⟩
  replace h1 := h1.below hb
  replace hT := hT.below hb
  replace q3 := q3.below hb
  replace K := below_two K hb
  clear hb
  go_wp2_with fail
  clear q3
  refine (toIntS_any _ l _ h1 hm).mono ?_; rintro e w3 ⟨s5, rfl, o5, hb⟩
  have t5 := Ints.of_own o5
  obtain ⟨p5, e5, z5, _⟩ := Row.of_own o5
  subst z5
  clear o5
  replace h1 := h1.below hb
  replace hT := hT.below hb
  replace K := below_two K hb
  clear hb
  have q5 := t5
  clear t5
  go_wp2_with fail
  refine (Fi.out _ _ q5 hT).mono ?_; rintro e w4 ⟨rfl, hb⟩
  replace h1 := h1.below hb
  replace hT := hT.below hb
  replace q5 := q5.below hb
  replace K := below_two K hb
  clear hb
  go_wp2_with fail
  refine (toIntS_any _ l _ h1 hm).mono ?_; rintro e w5 ⟨s7, rfl, o7, hb⟩
  have t7 := Ints.of_own o7
  obtain ⟨p7, e7, z7, _⟩ := Row.of_own o7
  subst z7
  clear o7
  replace h1 := h1.below hb
  replace hT := hT.below hb
  replace q5 := q5.below hb
  replace K := below_two K hb
  clear hb
  have q7 := t7
  clear t7
  go_wp2_with fail
  refine ((eqIntS_any _ _ l l _ q5 q7).mono fun _ _ h => DrewRet.below h).mono ?_; rintro e w6 ⟨rfl, hb⟩
  rw [decide_eq_true (show l = l from rfl)]
  replace h1 := h1.below hb
  replace hT := hT.below hb
  replace q5 := q5.below hb
  replace q7 := q7.below hb
  replace K := below_two K hb
  clear hb
  go_wp2_with fail
  go_ret
  exact ⟨rfl, K⟩
end Go.Proofs.YtjobbokjebhjgaaDoor
