/- The walk of FnExactEnvMany: for all arguments the law returns true and leaves alone what was there. -/
import Derived.Test.YtklbdfjmhbiheaaDoorEm
import Derived.Deep.DeepCutAuto
namespace Go.Proofs.YtklbdfjmhbiheaaDoor
open Go.RowKit

set_option linter.unusedVariables false in
set_option maxRecDepth 20000 in
set_option maxHeartbeats 8000000 in
theorem walk_FnExactEnvMany (v1 : Value) (ds : List Dc) {w : World} (h1 : Decls w v1 ds) :
    Calls Tryd.prog 4 #[v1] w fun e w' => e = .returned (.bool true) ∧ Below w.heap.size w w' := by
  obtain ⟨a1, c1, z1, _⟩ := h1.form
  subst z1
  obtain ⟨z, hz⟩ : ∃ z, z = manyV ds := ⟨_, rfl⟩
  have Fs : Hid (∀ w' s, Decls w' s ds → Calls Tryd.prog 14 #[s] w' fun e w2 => e = .returned (.int .i64 z) ∧ Below w'.heap.size w' w2) := fun w' s h => by rw [hz]; exact (envMany_spec s ds w' h).mono fun _ _ h => DrewRet.below h
  have Fi : Hid (∀ w' s, Decls w' s ds → Calls Tryd.prog 15 #[s] w' fun e w2 => e = .returned (.int .i64 z) ∧ Below w'.heap.size w' w2) := fun w' s h => by rw [hz]; exact envMany_impl s ds w' h
  clear hz
  go_enter Tryd.func4, Tryd.ntmps4
  go_wp2_with fail
  refine (szDeclS_any _ ds 1048576 _ h1 (by omega) (by omega)).mono ?_; rintro e w1 ⟨r1, rfl, r10, r11, hs1, hb⟩
  replace h1 := h1.below hb
  have K := hb
  clear hb
  have HS1 := Lib.hid hs1
  clear hs1
  by_cases hr1 : r1 < 0
  · go_wp2_with fail
    go_ret
    exact ⟨rfl, K⟩
  have hn := HS1.out (by omega)
  clear HS1
  go_wp2_with fail
  refine (toDeclS_any _ ds _ h1 hn).mono ?_; rintro e w2 ⟨s3, rfl, o3, q3, hb⟩
  obtain ⟨p3, e3, z3, _⟩ := q3.form
  subst z3
  clear o3
  have t3 := q3
  clear q3
  replace h1 := h1.below hb
  replace K := below_two K hb
  clear hb
  have q3 := t3
  clear t3
  go_wp2_with fail
  refine (Fs.out _ _ q3).mono ?_; rintro e w3 ⟨rfl, hb⟩
  replace h1 := h1.below hb
  replace q3 := q3.below hb
  replace K := below_two K hb
  clear hb
  go_wp2_with fail
  clear q3
  refine (toDeclS_any _ ds _ h1 hn).mono ?_; rintro e w4 ⟨s5, rfl, o5, q5, hb⟩
  obtain ⟨p5, e5, z5, _⟩ := q5.form
  subst z5
  clear o5
  have t5 := q5
  clear q5
  replace h1 := h1.below hb
  replace K := below_two K hb
  clear hb
  have q5 := t5
  clear t5
  go_wp2_with fail
  refine (Fi.out _ _ q5).mono ?_; rintro e w5 ⟨rfl, hb⟩
  replace h1 := h1.below hb
  replace q5 := q5.below hb
  replace K := below_two K hb
  clear hb
  go_wp2_with fail
  refine (toDeclS_any _ ds _ h1 hn).mono ?_; rintro e w6 ⟨s7, rfl, o7, q7, hb⟩
  obtain ⟨p7, e7, z7, _⟩ := q7.form
  subst z7
  clear o7
  have t7 := q7
  clear q7
  replace h1 := h1.below hb
  replace q5 := q5.below hb
  replace K := below_two K hb
  clear hb
  have q7 := t7
  clear t7
  go_wp2_with fail
  refine (eqDeclS_same _ _ ds _ q5 q7).mono ?_; rintro e w7 ⟨rfl, hb⟩
  replace h1 := h1.below hb
  replace q5 := q5.below hb
  replace q7 := q7.below hb
  replace K := below_two K hb
  clear hb
  go_wp2_with fail
  go_ret
  exact ⟨rfl, K⟩
end Go.Proofs.YtklbdfjmhbiheaaDoor
