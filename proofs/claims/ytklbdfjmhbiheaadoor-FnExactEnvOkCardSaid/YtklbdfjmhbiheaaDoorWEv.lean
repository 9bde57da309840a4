/- The walk of FnExactEnvOk: for all arguments the law returns true and leaves alone what was there. -/
import Derived.Test.YtklbdfjmhbiheaaDoorEv
import Derived.Test.YtklbdfjmhbiheaaDoorSj
import Derived.Deep.DeepCutAuto
namespace Go.Proofs.YtklbdfjmhbiheaaDoor
open Go.RowKit

set_option linter.unusedVariables false in
set_option maxRecDepth 20000 in
set_option maxHeartbeats 8000000 in
theorem walk_FnExactEnvOk (v1 : Value) (ds : List Dc) (v2 : Value) (env : List Int) (_ : ∀ x ∈ env, (Lit.int .i64 x).wf = true) {w : World} (h1 : Decls w v1 ds) (h2 : Ints w v2 env) :
    Calls Tryd.prog 5 #[v1, v2] w fun e w' => e = .returned (.bool true) ∧ Below w.heap.size w w' := by
  have hl2 := h2.len
  obtain ⟨a1, c1, z1, _⟩ := h1.form
  subst z1
  have hh := h2
  obtain ⟨a2, c2, z2, _⟩ := hh
  subst z2
  by_cases hm : 1048576 < env.length
  · clear h1 h2
    go_enter Tryd.func5, Tryd.ntmps5
    go_wp2_with fail
    go_ret
    exact ⟨rfl, Below.refl _ _⟩
  replace hm : env.length ≤ 1048576 := by omega
  obtain ⟨z, hz⟩ : ∃ z, z = envV ds env := ⟨_, rfl⟩
  have Fs : Hid (∀ w' s t, Decls w' s ds → Ints w' t env → Calls Tryd.prog 16 #[s, t] w' fun e w2 => e = .returned (.bool z) ∧ Below w'.heap.size w' w2) := fun w' s t h h' => by rw [hz]; exact envOk_spec s t ds env w' h h'
  have Fi : Hid (∀ w' s t, Decls w' s ds → Ints w' t env → Calls Tryd.prog 18 #[s, t] w' fun e w2 => e = .returned (.bool z) ∧ Below w'.heap.size w' w2) := fun w' s t h h' => by rw [hz]; exact envOk_impl s t ds env w' h h'
  clear hz
  go_enter Tryd.func5, Tryd.ntmps5
  go_wp2_with fail
  refine (szDeclS_any _ ds 1048576 _ h1 (by omega) (by omega)).mono ?_; rintro e w1 ⟨r1, rfl, r10, r11, hs1, hb⟩
  replace h1 := h1.below hb
  replace h2 := h2.below hb
  have K := hb
  clear hb
  have HS1 := Lib.hid hs1
  clear hs1
  by_cases hr1 : r1 < 0
  · go_wp2_with fail
    go_ret
    exact ⟨rfl, K⟩
  have hn := HS1.out (by omega)
  clear HS1
  go_wp2_with fail
  refine (toDeclS_any _ ds _ h1 hn).mono ?_; rintro e w2 ⟨s3, rfl, o3, q3, hb⟩
  obtain ⟨p3, e3, z3, _⟩ := q3.form
  subst z3
  clear o3
  have t3 := q3
  clear q3
  replace h1 := h1.below hb
  replace h2 := h2.below hb
  replace K := below_two K hb
  clear hb
  have q3 := t3
  clear t3
  go_wp2_with fail
  refine (toIntS_any _ env _ h2 hm).mono ?_; rintro e w3 ⟨s4, rfl, o4, hb⟩
  have t4 := Ints.of_own o4
  obtain ⟨p4, e4, z4, _⟩ := Row.of_own o4
  subst z4
  clear o4
  replace h1 := h1.below hb
  replace h2 := h2.below hb
  replace q3 := q3.below hb
  replace K := below_two K hb
  clear hb
  have q4 := t4
  clear t4
  go_wp2_with fail
  refine (Fs.out _ _ _ q3 q4).mono ?_; rintro e w4 ⟨rfl, hb⟩
  replace h1 := h1.below hb
  replace h2 := h2.below hb
  replace q3 := q3.below hb
  replace q4 := q4.below hb
  replace K := below_two K hb
  clear hb
  go_wp2_with fail
  clear q3 q4
  refine (toDeclS_any _ ds _ h1 hn).mono ?_; rintro e w5 ⟨s5, rfl, o5, q5, hb⟩
  obtain ⟨p5, e5, z5, _⟩ := q5.form
  subst z5
  clear o5
  have t5 := q5
  clear q5
  replace h1 := h1.below hb
  replace h2 := h2.below hb
  replace K := below_two K hb
  clear hb
  have q5 := t5
  clear t5
  go_wp2_with fail
  refine (toIntS_any _ env _ h2 hm).mono ?_; rintro e w6 ⟨s6, rfl, o6, hb⟩
  have t6 := Ints.of_own o6
  obtain ⟨p6, e6, z6, _⟩ := Row.of_own o6
  subst z6
  clear o6
  replace h1 := h1.below hb
  replace h2 := h2.below hb
  replace q5 := q5.below hb
  replace K := below_two K hb
  clear hb
  have q6 := t6
  clear t6
  go_wp2_with fail
  refine (Fi.out _ _ _ q5 q6).mono ?_; rintro e w7 ⟨rfl, hb⟩
  replace h1 := h1.below hb
  replace h2 := h2.below hb
  replace q5 := q5.below hb
  replace q6 := q6.below hb
  replace K := below_two K hb
  clear hb
  go_wp2_with fail
  refine (toDeclS_any _ ds _ h1 hn).mono ?_; rintro e w8 ⟨s7, rfl, o7, q7, hb⟩
  obtain ⟨p7, e7, z7, _⟩ := q7.form
  subst z7
  clear o7
  have t7 := q7
  clear q7
  replace h1 := h1.below hb
  replace h2 := h2.below hb
  replace q5 := q5.below hb
  replace q6 := q6.below hb
  replace K := below_two K hb
  clear hb
  have q7 := t7
  clear t7
  go_wp2_with fail
  refine (eqDeclS_same _ _ ds _ q5 q7).mono ?_; rintro e w9 ⟨rfl, hb⟩
  replace h1 := h1.below hb
  replace h2 := h2.below hb
  replace q5 := q5.below hb
  replace q6 := q6.below hb
  replace q7 := q7.below hb
  replace K := below_two K hb
  clear hb
  go_wp2_with fail
  clear q7
  refine (toIntS_any _ env _ h2 hm).mono ?_; rintro e w10 ⟨s8, rfl, o8, hb⟩
  have t8 := Ints.of_own o8
  obtain ⟨p8, e8, z8, _⟩ := Row.of_own o8
  subst z8
  clear o8
  replace h1 := h1.below hb
  replace h2 := h2.below hb
  replace q5 := q5.below hb
  replace q6 := q6.below hb
  replace K := below_two K hb
  clear hb
  have q8 := t8
  clear t8
  go_wp2_with fail
  refine ((eqIntS_any _ _ env env _ q6 q8).mono fun _ _ h => DrewRet.below h).mono ?_; rintro e w11 ⟨rfl, hb⟩
  rw [decide_eq_true (show env = env from rfl)]
  replace h1 := h1.below hb
  replace h2 := h2.below hb
  replace q5 := q5.below hb
  replace q6 := q6.below hb
  replace q8 := q8.below hb
  replace K := below_two K hb
  clear hb
  go_wp2_with fail
  go_ret
  exact ⟨rfl, K⟩
end Go.Proofs.YtklbdfjmhbiheaaDoor
