/- The walk of FnExactCnfOk: for all arguments the law returns true and leaves alone what was there. -/
import Derived.Test.YtjobbokjebhjgaaCo
import Derived.Deep.DeepCutAuto
namespace Go.Proofs.Ytjobbokjebhjgaa
open Go.RowKit

set_option linter.unusedVariables false in
set_option maxRecDepth 20000 in
set_option maxHeartbeats 8000000 in
theorem walk_FnExactCnfOk (m1 : Int) (_ : (Lit.int .i64 m1).wf = true) (v1 : Value) (ls1 : List (List Int)) (wl1 : ∀ i, i < ls1.length → ∀ x ∈ ls1.getD i [], (Lit.int .i64 x).wf = true) {w : World} (h1 : IntSS w v1 ls1) :
    Calls Try.prog 6 #[.agg #[.int .i64 m1, v1]] w fun e w' => e = .returned (.bool true) ∧ Below w.heap.size w w' := by
  have hwf : Hid (ssWf ls1) := fun i hi => intsWf_of (wl1 i hi)
  clear wl1
  obtain ⟨a1, c1, rfl⟩ := h1.form
  obtain ⟨s1, s2, s3⟩ := szSS_le ls1 1048576 (by omega)
  have C1 : ∀ w', IntSS w' (.slice a1 ls1.length c1) ls1 → Calls Try.prog 21 #[.agg #[.int .i64 m1, .slice a1 ls1.length c1], .int .i64 1048576] w' fun e w'' => e = .returned (.int .i64 (szSS 1048576 ls1)) ∧ Below w'.heap.size w' w'' := fun w' h => szCnf_any m1 _ ls1 1048576 w' h (by omega) (by omega)
  generalize szSS 1048576 ls1 = z1 at *
  have D1 := Lib.hid C1
  clear C1
  by_cases hz1 : z1 < 0
  · clear s3
    go_enter Try.func6, Try.ntmps6
    go_wp2_with fail
    replace h1 := h1.below (below_self_alloc w (.cells #[.int .i64 m1, .slice a1 ls1.length c1] 35))
    have K := below_self_alloc w (.cells #[.int .i64 m1, .slice a1 ls1.length c1] 35)
    have A := blk_new w (.int .i64 m1) (.slice a1 ls1.length c1) 35
    obtain ⟨A0, A1, A2⟩ := A.cells
    refine (D1.out _ h1).mono ?_; rintro e w1 ⟨rfl, hb⟩
    clear A0 A1 A2
    replace A := A.keep hb
    replace h1 := h1.below hb
    replace K := below_two K hb
    clear hb
    obtain ⟨A0, A1, A2⟩ := A.cells
    go_wp2_with fail
    go_ret
    exact ⟨rfl, K⟩
  obtain ⟨t1, u1⟩ := s3 (by omega)
  have hn1 : ls1.length ≤ 1048576 := by omega
  have HM1 : Hid (∀ i, i < ls1.length → (ls1.getD i []).length ≤ 1048576) := fun i hi => by have := u1 i hi; omega
  clear s3 u1 t1
  go_enter Try.func6, Try.ntmps6
  go_wp2_with fail
  replace h1 := h1.below (below_self_alloc w (.cells #[.int .i64 m1, .slice a1 ls1.length c1] 35))
  have K := below_self_alloc w (.cells #[.int .i64 m1, .slice a1 ls1.length c1] 35)
  have A := blk_new w (.int .i64 m1) (.slice a1 ls1.length c1) 35
  obtain ⟨A0, A1, A2⟩ := A.cells
  refine (D1.out _ h1).mono ?_; rintro e w1 ⟨rfl, hb⟩
  clear A0 A1 A2
  replace A := A.keep hb
  replace h1 := h1.below hb
  replace K := below_two K hb
  clear hb
  obtain ⟨A0, A1, A2⟩ := A.cells
  clear D1
  go_wp2_with fail
  refine (toCnf_any m1 _ ls1 _ h1 hn1 HM1.out).mono ?_; rintro e w2 ⟨v2, fs2, rfl, o2, hb⟩
  obtain ⟨p2, e2, rfl, _⟩ := Row.of_own o2.top
  clear A0 A1 A2
  replace A := A.keep hb
  replace h1 := h1.below hb
  replace K := below_two K hb
  clear hb
  have q2 := o2.ints
  clear o2
  obtain ⟨A0, A1, A2⟩ := A.cells
  go_wp2_with fail
  refine (cnfOk_spec m1 _ ls1 _ q2).mono ?_; rintro e w3 ⟨rfl, hb⟩
  clear A0 A1 A2
  replace A := A.keep hb
  replace h1 := h1.below hb
  replace q2 := q2.below hb
  replace K := below_two K hb
  clear hb
  obtain ⟨A0, A1, A2⟩ := A.cells
  clear A0 A1 A2
  clear q2
  obtain ⟨A0, A1, A2⟩ := A.cells
  go_wp2_with fail
  refine (toCnf_any m1 _ ls1 _ h1 hn1 HM1.out).mono ?_; rintro e w4 ⟨v3, fs3, rfl, o3, hb⟩
  obtain ⟨p3, e3, rfl, _⟩ := Row.of_own o3.top
  clear A0 A1 A2
  replace A := A.keep hb
  replace h1 := h1.below hb
  replace K := below_two K hb
  clear hb
  have q3 := o3.ints
  clear o3
  have nA : ¬ w.heap.size = w4.heap.size := Nat.ne_of_lt A.lt
  replace A := A.alloc (.cells #[.int .i64 m1, .slice p3 ls1.length e3] 38)
  replace h1 := h1.below (below_self_alloc w4 (.cells #[.int .i64 m1, .slice p3 ls1.length e3] 38))
  replace q3 := q3.below (below_self_alloc w4 (.cells #[.int .i64 m1, .slice p3 ls1.length e3] 38))
  replace K := below_step K (.cells #[.int .i64 m1, .slice p3 ls1.length e3] 38)
  have B := blk_new w4 (.int .i64 m1) (.slice p3 ls1.length e3) 38
  obtain ⟨A0, A1, A2⟩ := A.cells
  obtain ⟨B0, B1, B2⟩ := B.cells
  go_wp2_with fail
  refine (cnfOk_impl m1 _ ls1 _ q3 hwf.out).mono ?_; rintro e w5 ⟨rfl, hb⟩
  clear A0 A1 A2 B0 B1 B2
  clear nA
  replace A := A.keep hb
  replace B := B.keep hb
  replace h1 := h1.below hb
  replace q3 := q3.below hb
  replace K := below_two K hb
  clear hb
  obtain ⟨A0, A1, A2⟩ := A.cells
  obtain ⟨B0, B1, B2⟩ := B.cells
  go_wp2_with fail
  clear A0 A1 A2 B0 B1 B2
  replace A := A.drew
  replace B := B.drew
  replace h1 := h1.drew
  replace q3 := q3.drew
  replace K := K.drew
  have sS := And.intro (And.intro B.cells.1 B.cells.2.1) (And.intro A.cells.1 A.cells.2.1)
  first
    | (go_region_held3 (fun wx : World => (wx.cell? ⟨w4.heap.size, 0, none⟩ = some (.int .i64 m1) ∧ wx.cell? ⟨w4.heap.size, 1, none⟩ = some (.slice p3 ls1.length e3)) ∧ (wx.cell? ⟨w.heap.size, 0, none⟩ = some (.int .i64 m1) ∧ wx.cell? ⟨w.heap.size, 1, none⟩ = some (.slice a1 ls1.length c1))) (first | (with_reducible assumption)) (first | (go_at_call 23; (with_reducible refine (toCnf_any m1 _ ls1 _ h1 hn1 HM1.out).mono ?_); rintro e w6 ⟨v4, fs4, rfl, o4, hb⟩; obtain ⟨p4, e4, rfl, _⟩ := Row.of_own o4.top; replace A := A.keep hb; replace B := B.keep hb; replace h1 := h1.below hb; replace q3 := q3.below hb; replace K := below_two K hb; clear hb; have q4 := o4.ints; clear o4; replace sS := And.intro (And.intro B.cells.1 B.cells.2.1) (And.intro A.cells.1 A.cells.2.1)) | (go_at_call 25; (with_reducible refine (eqCnf_same m1 _ ls1 _ _ q3 q4).mono ?_); rintro e w6 ⟨rfl, hb⟩; replace A := A.keep hb; replace B := B.keep hb; replace h1 := h1.below hb; replace q3 := q3.below hb; replace q4 := q4.below hb; replace K := below_two K hb; clear hb; replace sS := And.intro (And.intro B.cells.1 B.cells.2.1) (And.intro A.cells.1 A.cells.2.1))))
    | fail
  clear sS
  obtain ⟨A0, A1, A2⟩ := A.cells
  obtain ⟨B0, B1, B2⟩ := B.cells
  go_wp2_with fail
  go_ret
  exact ⟨rfl, K⟩
end Go.Proofs.Ytjobbokjebhjgaa
