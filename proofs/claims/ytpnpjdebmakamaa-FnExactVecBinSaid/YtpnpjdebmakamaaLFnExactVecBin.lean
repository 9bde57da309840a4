/- FnExactVecBin: for every input the law returns true, and its arguments read afterwards as before. No condition. -/
import Derived.Test.YtpnpjdebmakamaaKit
import Derived.Test.YtpnpjdebmakamaaWd
namespace Go.Proofs.Ytpnpjdebmakamaa.lFnExactVecBin
open Go.ChangeShapes Go.WideShapes Go.ChangeAt Go.RowKit Go.Joins
open Go.ChangeMaps (open_string shut_string)
set_option linter.unusedVariables false
set_option maxRecDepth 100000 in
theorem lifted (os : Os) (started : os.Started) (H : Type) (enc : TypeId × Value → H) :
    ReturnsInHanded {} Try.checked os 15 .any (Rows.fnExactVecBinSpec.pre6 enc Try.prog Try.f15 Rows.fnExactVecBinRow.domain false) (Rows.fnExactVecBinSpec.post enc Try.prog Try.f15 false true false false) := by
  refine returnsInHanded_of_change (C := Try.checked) own started (by kernel_rfl) Try.func15
    (ChangeSpec.witness6 (enc := enc) (C := Try.checked) false ⟨#[], #[.int .i64 0, .agg #[.int .i64 0, .int .i64 0], .agg #[.int .i64 0, .int .i64 0]], []⟩ 8 (by kernel_rfl) (by kernel_rfl) (by kernel_rfl) (by kernel_rfl)) ?_
  intro W base args ds gs before hval0 hW hcnd _
  have hval : ∀ (j : Nat) t v, Try.f15.params[j]? = some t → args[j]? = some v → Value.okWide Try.prog W .any base t v := hval0
  have hW' := hW
  obtain ⟨p, q, hA0, hV, rfl, hfz, hnd⟩ := hW
  have hA : DataW.TrodAll enc Try.prog W 0 (fun _ => true) true Try.f15.params.toList args.toList ds p := hA0
  have hAA : DataW.TrodAll enc Try.prog W 0 (fun _ => true) true Try.f15.params.toList args.toList ds p := hA0
  rw [Try.params15] at hA hval
  obtain ⟨v0, vs0, d0, ds0, p0, q0, hargs, rfl, rfl, h0, r0⟩ := trodAll_cons hA
  obtain ⟨v1, vs1, d1, ds1, p1, q1, rfl, rfl, rfl, h1, r1⟩ := trodAll_cons r0
  obtain ⟨v2, vs2, d2, ds2, p2, q2, rfl, rfl, rfl, h2, r2⟩ := trodAll_cons r1
  obtain ⟨rfl, rfl, rfl⟩ := trodAll_nil r2
  obtain rfl : args = #[v0, v1, v2] := by cases args; simp_all
  obtain ⟨rfl, rfl⟩ := trodVars_none hV
  clear hA0 hval0
  simp only [List.append_nil] at hW' hAA
  obtain ⟨a0, rfl, rfl, rfl, w0⟩ := open_int Try.underlying3 (hval 0 3 v0 rfl rfl) h0
  obtain ⟨c1, e1, x1, y1, m1, rfl, rfl, rfl, hx1, hy1⟩ := open_agg2 Try.underlying24 (by kernel_rfl) (by kernel_rfl) (hval 1 24 v1 rfl rfl) h1
  obtain ⟨a1, f1, rfl, w1⟩ := DataW.trod_int Try.underlying3 hx1
  obtain ⟨b1, g1, rfl, z1⟩ := DataW.trod_int Try.underlying3 hy1
  simp at f1 g1
  subst f1 g1
  obtain ⟨c2, e2, x2, y2, m2, rfl, rfl, rfl, hx2, hy2⟩ := open_agg2 Try.underlying24 (by kernel_rfl) (by kernel_rfl) (hval 2 24 v2 rfl rfl) h2
  obtain ⟨a2, f2, rfl, w2⟩ := DataW.trod_int Try.underlying3 hx2
  obtain ⟨b2, g2, rfl, z2⟩ := DataW.trod_int Try.underlying3 hy2
  simp at f2 g2
  subst f2 g2
  refine (walk_FnExactVecBin a0 w0 a1 b1 w1 z1 a2 b2 w2 z2 W).mono fun e W' ⟨he, bel⟩ => ?_
  subst he
  exact ⟨_, rfl, _, _, _, [], _, [], hW', trodAll_mk1 (shut_bool Try.underlying4 _), trodAll_below laidOut bel _ _ _ _ (by kernel_rfl) hAA, rfl, bel.frame _, fun h => by cases h⟩

theorem k4 : Try.f15.params.all (Try.prog.readableRec ·) = true := by kernel_rfl
theorem k10 : (Rows.fnExactVecBinRow.inPlace == Try.prog.inPlace 15) = true := by kernel_rfl
theorem k11 : (Rows.fnExactVecBinRow.unfollowed == Try.prog.unfollowed 15) = true := by kernel_rfl
theorem k12 : (Rows.fnExactVecBinRow.recurses == Try.prog.recurses 15) = true := by kernel_rfl
theorem k13 : (Rows.fnExactVecBinRow.named == Try.prog.varsNamed 15) = true := by kernel_rfl
theorem closed : joinedFacts Try.prog 15 Try.f15 Rows.fnExactVecBinSpec Rows.fnExactVecBinRow = true :=
  joined_split (by kernel_rfl) laidOut j3 k4 (by kernel_rfl) (by kernel_rfl) j7 (by kernel_rfl) j9 k10 k11 k12 k13 (by kernel_rfl) (by kernel_rfl) (by kernel_rfl) (by kernel_rfl) (by kernel_rfl) (by kernel_rfl) (by kernel_rfl) (by kernel_rfl) (by kernel_rfl)
    j22 (by kernel_rfl) j23b j24 j24b j24c' (by kernel_rfl) (by kernel_rfl) (by kernel_rfl) (by kernel_rfl)
theorem over : Rows.fnExactVecBinRow.holds Try.pinned (OpenSpec.ofChange Rows.fnExactVecBinSpec) :=
  OpenClaim.holds_of_wide 15 Try.f15 rfl rfl rfl rfl rfl rfl rfl ⟨rfl, rfl, rfl, rfl, rfl⟩ rfl rfl rfl rfl rfl (by kernel_rfl) Try.func15 closed
    (of_decide_eq_true (by kernel_rfl)) (by unfold Func.isWrapper; first | (rw [if_pos (by decide +kernel)]; kernel_rfl) | (rw [if_neg (by decide +kernel)]; exact ⟨rfl, rfl⟩))
    (fun os started H enc _ => lifted os started H enc)

/-- The given statement. -/
theorem proved : Rows.FnExactVecBinSaid := over
#print axioms proved
end Go.Proofs.Ytpnpjdebmakamaa.lFnExactVecBin
