/- FnExactNetCnf: for every input the law returns true, and its arguments read afterwards as before. No condition. -/
import Derived.Test.YteeaafdgkepaeaaKit
import Derived.Test.YteeaafdgkepaeaaNo
import Derived.Test.YteeaafdgkepaeaaWNc
namespace Go.Proofs.Yteeaafdgkepaeaa.lFnExactNetCnf
open Go.ChangeShapes Go.WideShapes Go.ChangeAt Go.RowKit Go.Joins
open Go.ChangeMaps (open_string shut_string)
set_option linter.unusedVariables false
set_option maxRecDepth 100000 in
theorem lifted (os : Os) (started : os.Started) (H : Type) (enc : TypeId × Value → H) :
    ReturnsInHanded {} Try.checked os 9 .any (Rows.fnExactNetCnfSpec.pre6 enc Try.prog Try.f9 Rows.fnExactNetCnfRow.domain false) (Rows.fnExactNetCnfSpec.post enc Try.prog Try.f9 false true false false) := by
  refine returnsInHanded_of_change (C := Try.checked) own started (by kernel_rfl) Try.func9
    (ChangeSpec.witness6 (enc := enc) (C := Try.checked) false ⟨#[], #[.agg #[.int .i64 0, .slice none 0 0]], []⟩ 8 (by kernel_rfl) (by kernel_rfl) (by kernel_rfl) (by kernel_rfl)) ?_
  intro W base args ds gs before hval0 hW hcnd _
  have hval : ∀ (j : Nat) t v, Try.f9.params[j]? = some t → args[j]? = some v → Value.okWide Try.prog W .any base t v := hval0
  have hW' := hW
  obtain ⟨p, q, hA0, hV, rfl, hfz, hnd⟩ := hW
  have hA : DataW.TrodAll enc Try.prog W 0 (fun _ => true) true Try.f9.params.toList args.toList ds p := hA0
  have hAA : DataW.TrodAll enc Try.prog W 0 (fun _ => true) true Try.f9.params.toList args.toList ds p := hA0
  rw [Try.params9] at hA hval
  obtain ⟨v0, vs0, d0, ds0, p0, q0, hargs, rfl, rfl, h0, r0⟩ := trodAll_cons hA
  obtain ⟨rfl, rfl, rfl⟩ := trodAll_nil r0
  obtain rfl : args = #[v0] := by cases args; simp_all
  obtain ⟨rfl, rfl⟩ := trodVars_none hV
  clear hA0 hval0
  simp only [List.append_nil] at hW' hAA
  obtain ⟨c0, v0, x0, y0, m0, rfl, rfl, rfl, hx0, hy0⟩ := open_agg2 Try.underlying34 (by kernel_rfl) (by kernel_rfl) (hval 0 34 v0 rfl rfl) h0
  obtain ⟨a0, f0, rfl, w0⟩ := DataW.trod_int Try.underlying3 hx0
  simp at f0
  subst f0
  obtain ⟨l0, b0, z0⟩ := gates_open Try.underlying32 Try.underlying89 (by kernel_rfl) (by kernel_rfl) Try.underlying4 Try.underlying3 Try.underlying3 hy0
  refine (walk_FnExactNetCnf a0 w0 v0 l0 z0 b0).mono fun e W' ⟨he, bel⟩ => ?_
  subst he
  exact ⟨_, rfl, _, _, _, [], _, [], hW', trodAll_mk1 (shut_bool Try.underlying4 _), trodAll_below laidOut bel _ _ _ _ (by kernel_rfl) hAA, rfl, bel.frame _, fun h => by cases h⟩

theorem k4 : Try.f9.params.all (Try.prog.readableRec ·) = true := by kernel_rfl
theorem k10 : (Rows.fnExactNetCnfRow.inPlace == Try.prog.inPlace 9) = true := by kernel_rfl
theorem k11 : (Rows.fnExactNetCnfRow.unfollowed == Try.prog.unfollowed 9) = true := by kernel_rfl
theorem k12 : (Rows.fnExactNetCnfRow.recurses == Try.prog.recurses 9) = true := by kernel_rfl
theorem k13 : (Rows.fnExactNetCnfRow.named == Try.prog.varsNamed 9) = true := by kernel_rfl
theorem closed : joinedFacts Try.prog 9 Try.f9 Rows.fnExactNetCnfSpec Rows.fnExactNetCnfRow = true :=
  joined_split (by kernel_rfl) laidOut j3 k4 (by kernel_rfl) (by kernel_rfl) j7 (by kernel_rfl) j9 k10 k11 k12 k13 (by kernel_rfl) (by kernel_rfl) (by kernel_rfl) (by kernel_rfl) (by kernel_rfl) (by kernel_rfl) (by kernel_rfl) (by kernel_rfl) (by kernel_rfl)
    j22 (by kernel_rfl) j23b j24 j24b j24c' (by kernel_rfl) (by kernel_rfl) (by kernel_rfl) (by kernel_rfl)
theorem over : Rows.fnExactNetCnfRow.holds Try.pinned (OpenSpec.ofChange Rows.fnExactNetCnfSpec) :=
  OpenClaim.holds_of_wide 9 Try.f9 rfl rfl rfl rfl rfl rfl rfl ⟨rfl, rfl, rfl, rfl, rfl⟩ rfl rfl rfl rfl rfl (by kernel_rfl) Try.func9 closed
    (of_decide_eq_true (by kernel_rfl)) (by unfold Func.isWrapper; first | (rw [if_pos (by decide +kernel)]; kernel_rfl) | (rw [if_neg (by decide +kernel)]; exact ⟨rfl, rfl⟩))
    (fun os started H enc _ => lifted os started H enc)

/-- The given statement. -/
theorem proved : Rows.FnExactNetCnfSaid := over
#print axioms proved
end Go.Proofs.Yteeaafdgkepaeaa.lFnExactNetCnf
