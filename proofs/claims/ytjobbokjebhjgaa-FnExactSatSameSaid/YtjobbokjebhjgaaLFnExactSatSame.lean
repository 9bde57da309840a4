/- FnExactSatSame: for every input the law returns true, and its arguments read afterwards as before. No condition. -/
import Derived.Test.YtjobbokjebhjgaaKit
import Derived.Test.YtjobbokjebhjgaaSp
import Derived.Test.YtjobbokjebhjgaaWCa
namespace Go.Proofs.Ytjobbokjebhjgaa.lFnExactSatSame
open Go.ChangeShapes Go.WideShapes Go.ChangeAt Go.RowKit Go.Joins
open Go.ChangeMaps (open_string shut_string)
set_option linter.unusedVariables false
set_option maxRecDepth 100000 in
theorem lifted (os : Os) (started : os.Started) (H : Type) (enc : TypeId × Value → H) :
    ReturnsInHanded {} Try.checked os 7 .any (Rows.fnExactSatSameSpec.pre6 enc Try.prog Try.f7 Rows.fnExactSatSameRow.domain false) (Rows.fnExactSatSameSpec.post enc Try.prog Try.f7 false true false false) := by
  refine returnsInHanded_of_change (C := Try.checked) own started (by kernel_rfl) Try.func7
    (ChangeSpec.witness6 (enc := enc) (C := Try.checked) false ⟨#[], #[.agg #[.slice none 0 0, .slice none 0 0, .slice none 0 0, .int .i64 0], .agg #[.slice none 0 0, .slice none 0 0, .slice none 0 0, .int .i64 0]], []⟩ 8 (by kernel_rfl) (by kernel_rfl) (by kernel_rfl) (by kernel_rfl)) ?_
  intro W base args ds gs before hval0 hW hcnd _
  have hval : ∀ (j : Nat) t v, Try.f7.params[j]? = some t → args[j]? = some v → Value.okWide Try.prog W .any base t v := hval0
  have hW' := hW
  obtain ⟨p, q, hA0, hV, rfl, hfz, hnd⟩ := hW
  have hA : DataW.TrodAll enc Try.prog W 0 (fun _ => true) true Try.f7.params.toList args.toList ds p := hA0
  have hAA : DataW.TrodAll enc Try.prog W 0 (fun _ => true) true Try.f7.params.toList args.toList ds p := hA0
  rw [Try.params7] at hA hval
  obtain ⟨v0, vs0, d0, ds0, p0, q0, hargs, rfl, rfl, h0, r0⟩ := trodAll_cons hA
  obtain ⟨v1, vs1, d1, ds1, p1, q1, rfl, rfl, rfl, h1, r1⟩ := trodAll_cons r0
  obtain ⟨rfl, rfl, rfl⟩ := trodAll_nil r1
  obtain rfl : args = #[v0, v1] := by cases args; simp_all
  obtain ⟨rfl, rfl⟩ := trodVars_none hV
  clear hA0 hval0
  simp only [List.append_nil] at hW' hAA
  obtain ⟨vp0, vq0, vl0, e0, xp0, xq0, xl0, xe0, mm0, rfl, rfl, rfl, hp0, hq0, hl0, hc0⟩ := open_agg4 Try.underlying44 (by kernel_rfl) (by kernel_rfl) (hval 0 44 v0 rfl rfl) h0
  obtain ⟨lp0, bp0, wp0⟩ := ints_open1 Try.underlying22 Try.underlying3 (by kernel_rfl) hp0
  obtain ⟨lq0, bq0, wq0⟩ := ints_open1 Try.underlying22 Try.underlying3 (by kernel_rfl) hq0
  obtain ⟨ll0, bl0, wl0⟩ := intss_open Try.underlying33 Try.underlying22 Try.underlying3 (by kernel_rfl) (by kernel_rfl) hl0
  obtain ⟨a0, f0, rfl, w0⟩ := DataW.trod_int Try.underlying3 hc0
  simp at f0
  subst f0
  obtain ⟨vp1, vq1, vl1, e1, xp1, xq1, xl1, xe1, mm1, rfl, rfl, rfl, hp1, hq1, hl1, hc1⟩ := open_agg4 Try.underlying44 (by kernel_rfl) (by kernel_rfl) (hval 1 44 v1 rfl rfl) h1
  obtain ⟨lp1, bp1, wp1⟩ := ints_open1 Try.underlying22 Try.underlying3 (by kernel_rfl) hp1
  obtain ⟨lq1, bq1, wq1⟩ := ints_open1 Try.underlying22 Try.underlying3 (by kernel_rfl) hq1
  obtain ⟨ll1, bl1, wl1⟩ := intss_open Try.underlying33 Try.underlying22 Try.underlying3 (by kernel_rfl) (by kernel_rfl) hl1
  obtain ⟨a1, f1, rfl, w1⟩ := DataW.trod_int Try.underlying3 hc1
  simp at f1
  subst f1
  refine (walk_FnExactSatSame vp0 lp0 wp0 vq0 lq0 wq0 vl0 ll0 wl0 a0 w0 vp1 lp1 wp1 vq1 lq1 wq1 vl1 ll1 wl1 a1 w1 bp0 bq0 bl0 bp1 bq1 bl1).mono fun e W' ⟨he, bel⟩ => ?_
  subst he
  exact ⟨_, rfl, _, _, _, [], _, [], hW', trodAll_mk1 (shut_bool Try.underlying4 _), trodAll_below laidOut bel _ _ _ _ (by kernel_rfl) hAA, rfl, bel.frame _, fun h => by cases h⟩

theorem k4 : Try.f7.params.all (Try.prog.readableRec ·) = true := by kernel_rfl
theorem k10 : (Rows.fnExactSatSameRow.inPlace == Try.prog.inPlace 7) = true := by kernel_rfl
theorem k11 : (Rows.fnExactSatSameRow.unfollowed == Try.prog.unfollowed 7) = true := by kernel_rfl
theorem k12 : (Rows.fnExactSatSameRow.recurses == Try.prog.recurses 7) = true := by kernel_rfl
theorem k13 : (Rows.fnExactSatSameRow.named == Try.prog.varsNamed 7) = true := by kernel_rfl
theorem closed : joinedFacts Try.prog 7 Try.f7 Rows.fnExactSatSameSpec Rows.fnExactSatSameRow = true :=
  joined_split (by kernel_rfl) laidOut j3 k4 (by kernel_rfl) (by kernel_rfl) j7 (by kernel_rfl) j9 k10 k11 k12 k13 (by kernel_rfl) (by kernel_rfl) (by kernel_rfl) (by kernel_rfl) (by kernel_rfl) (by kernel_rfl) (by kernel_rfl) (by kernel_rfl) (by kernel_rfl)
    j22 (by kernel_rfl) j23b j24 j24b j24c' (by kernel_rfl) (by kernel_rfl) (by kernel_rfl) (by kernel_rfl)
theorem over : Rows.fnExactSatSameRow.holds Try.pinned (OpenSpec.ofChange Rows.fnExactSatSameSpec) :=
  OpenClaim.holds_of_wide 7 Try.f7 rfl rfl rfl rfl rfl rfl rfl ⟨rfl, rfl, rfl, rfl, rfl⟩ rfl rfl rfl rfl rfl (by kernel_rfl) Try.func7 closed
    (of_decide_eq_true (by kernel_rfl)) (by unfold Func.isWrapper; first | (rw [if_pos (by decide +kernel)]; kernel_rfl) | (rw [if_neg (by decide +kernel)]; exact ⟨rfl, rfl⟩))
    (fun os started H enc _ => lifted os started H enc)

/-- The given statement. -/
theorem proved : Rows.FnExactSatSameSaid := over
#print axioms proved
end Go.Proofs.Ytjobbokjebhjgaa.lFnExactSatSame
