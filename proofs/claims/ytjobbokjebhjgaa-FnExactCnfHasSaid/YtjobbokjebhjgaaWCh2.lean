/- The walk of FnExactCnfHas: for all arguments the law returns true and leaves alone what was there. -/
import Derived.Test.YtjobbokjebhjgaaCo
import Derived.Deep.DeepCutAuto
namespace Go.Proofs.Ytjobbokjebhjgaa
open Go.RowKit

set_option linter.unusedVariables false in
set_option maxRecDepth 20000 in
set_option maxHeartbeats 8000000 in
theorem walk_FnExactCnfHas (m1 : Int) (_ : (Lit.int .i64 m1).wf = true) (v1 : Value) (ls1 : List (List Int)) (wl1 : ∀ i, i < ls1.length → ∀ x ∈ ls1.getD i [], (Lit.int .i64 x).wf = true) (u : Value) (l : List Bool) {w : World} (h1 : IntSS w v1 ls1) (h2 : Bools w u l) :
    Calls Try.prog 9 #[.agg #[.int .i64 m1, v1], u] w fun e w' => e = .returned (.bool true) ∧ Below w.heap.size w w' := by
  have lh := h2.len
  obtain ⟨a2, c2, rfl⟩ := h2.form
  by_cases hb : (1048576 : Int) < (l.length : Int)
  · obtain ⟨a1, c1, rfl⟩ := h1.form
    go_enter Try.func9, Try.ntmps9
    go_wp2_with fail
    go_ret
    exact ⟨rfl, below_self_alloc _ _⟩
  have hn2 : l.length ≤ 1048576 := by omega
  have hwf : Hid (ssWf ls1) := fun i hi => intsWf_of (wl1 i hi)
  clear wl1
  obtain ⟨a1, c1, rfl⟩ := h1.form
  obtain ⟨s1, s2, s3⟩ := szSS_le ls1 1048576 (by omega)
  have C1 : ∀ w', IntSS w' (.slice a1 ls1.length c1) ls1 → Calls Try.prog 21 #[.agg #[.int .i64 m1, .slice a1 ls1.length c1], .int .i64 1048576] w' fun e w'' => e = .returned (.int .i64 (szSS 1048576 ls1)) ∧ Below w'.heap.size w' w'' := fun w' h => szCnf_any m1 _ ls1 1048576 w' h (by omega) (by omega)
  generalize szSS 1048576 ls1 = z1 at *
  have D1 := Lib.hid C1
  clear C1
  by_cases hz1 : z1 < 0
  · clear s3
    go_enter Try.func9, Try.ntmps9
    go_wp2_with fail
    replace h1 := h1.below (below_self_alloc w (.cells #[.int .i64 m1, .slice a1 ls1.length c1] 35))
    replace h2 := h2.below (below_self_alloc w (.cells #[.int .i64 m1, .slice a1 ls1.length c1] 35))
    have K := below_self_alloc w (.cells #[.int .i64 m1, .slice a1 ls1.length c1] 35)
    have A := blk_new w (.int .i64 m1) (.slice a1 ls1.length c1) 35
    obtain ⟨A0, A1, A2⟩ := A.cells
    refine (D1.out _ h1).mono ?_; rintro e w1 ⟨rfl, hb⟩
    clear A0 A1 A2
    replace A := A.keep hb
    replace h1 := h1.below hb
    replace h2 := h2.below hb
    replace K := below_two K hb
    clear hb
    obtain ⟨A0, A1, A2⟩ := A.cells
    go_wp2_with fail
    go_ret
    exact ⟨rfl, K⟩
  obtain ⟨t1, u1⟩ := s3 (by omega)
  have hn1 : ls1.length ≤ 1048576 := by omega
  have HM1 : Hid (∀ i, i < ls1.length → (ls1.getD i []).length ≤ 1048576) := fun i hi => by have := u1 i hi; omega
  clear s3 u1 t1
  go_enter Try.func9, Try.ntmps9
  go_wp2_with fail
  replace h1 := h1.below (below_self_alloc w (.cells #[.int .i64 m1, .slice a1 ls1.length c1] 35))
  replace h2 := h2.below (below_self_alloc w (.cells #[.int .i64 m1, .slice a1 ls1.length c1] 35))
  have K := below_self_alloc w (.cells #[.int .i64 m1, .slice a1 ls1.length c1] 35)
  have A := blk_new w (.int .i64 m1) (.slice a1 ls1.length c1) 35
  obtain ⟨A0, A1, A2⟩ := A.cells
  refine (D1.out _ h1).mono ?_; rintro e w1 ⟨rfl, hb⟩
  clear A0 A1 A2
  replace A := A.keep hb
  replace h1 := h1.below hb
  replace h2 := h2.below hb
  replace K := below_two K hb
  clear hb
  obtain ⟨A0, A1, A2⟩ := A.cells
  clear D1
  go_wp2_with fail
  refine (toCnf_any m1 _ ls1 _ h1 hn1 HM1.out).mono ?_; rintro e w2 ⟨v3, fs3, rfl, o3, hb⟩
  obtain ⟨p3, e3, rfl, _⟩ := Row.of_own o3.top
  clear A0 A1 A2
  replace A := A.keep hb
  replace h1 := h1.below hb
  replace h2 := h2.below hb
  replace K := below_two K hb
  clear hb
  have q3 := o3.ints
  clear o3
  obtain ⟨A0, A1, A2⟩ := A.cells
  go_wp2_with fail
  refine (toBoolS_any _ l _ h2 hn2).mono ?_; rintro e w3 ⟨v4, rfl, o4, hb⟩
  obtain ⟨p4, e4, rfl, _⟩ := Row.of_own o4
  clear A0 A1 A2
  replace A := A.keep hb
  replace h1 := h1.below hb
  replace h2 := h2.below hb
  replace q3 := q3.below hb
  replace K := below_two K hb
  clear hb
  have q4 := Bools.of_own o4
  clear o4
  obtain ⟨A0, A1, A2⟩ := A.cells
  go_wp2_with fail
  refine (cnfHas_spec m1 _ ls1 _ l _ q3 hwf.out q4).mono ?_; rintro e w4 ⟨rfl, hb⟩
  clear A0 A1 A2
  replace A := A.keep hb
  replace h1 := h1.below hb
  replace h2 := h2.below hb
  replace q3 := q3.below hb
  replace q4 := q4.below hb
  replace K := below_two K hb
  clear hb
  obtain ⟨A0, A1, A2⟩ := A.cells
  clear A0 A1 A2
  clear q3 q4
  obtain ⟨A0, A1, A2⟩ := A.cells
  go_wp2_with fail
  refine (toCnf_any m1 _ ls1 _ h1 hn1 HM1.out).mono ?_; rintro e w5 ⟨v5, fs5, rfl, o5, hb⟩
  obtain ⟨p5, e5, rfl, _⟩ := Row.of_own o5.top
  clear A0 A1 A2
  replace A := A.keep hb
  replace h1 := h1.below hb
  replace h2 := h2.below hb
  replace K := below_two K hb
  clear hb
  have q5 := o5.ints
  clear o5
  have nA : ¬ w.heap.size = w5.heap.size := Nat.ne_of_lt A.lt
  replace A := A.alloc (.cells #[.int .i64 m1, .slice p5 ls1.length e5] 38)
  replace h1 := h1.below (below_self_alloc w5 (.cells #[.int .i64 m1, .slice p5 ls1.length e5] 38))
  replace h2 := h2.below (below_self_alloc w5 (.cells #[.int .i64 m1, .slice p5 ls1.length e5] 38))
  replace q5 := q5.below (below_self_alloc w5 (.cells #[.int .i64 m1, .slice p5 ls1.length e5] 38))
  replace K := below_step K (.cells #[.int .i64 m1, .slice p5 ls1.length e5] 38)
  have B := blk_new w5 (.int .i64 m1) (.slice p5 ls1.length e5) 38
  obtain ⟨A0, A1, A2⟩ := A.cells
  obtain ⟨B0, B1, B2⟩ := B.cells
  go_wp2_with fail
  refine (toBoolS_any _ l _ h2 hn2).mono ?_; rintro e w6 ⟨v6, rfl, o6, hb⟩
  obtain ⟨p6, e6, rfl, _⟩ := Row.of_own o6
  clear A0 A1 A2 B0 B1 B2
  clear nA
  replace A := A.keep hb
  replace B := B.keep hb
  replace h1 := h1.below hb
  replace h2 := h2.below hb
  replace q5 := q5.below hb
  replace K := below_two K hb
  clear hb
  have q6 := Bools.of_own o6
  clear o6
  obtain ⟨A0, A1, A2⟩ := A.cells
  obtain ⟨B0, B1, B2⟩ := B.cells
  go_wp2_with fail
  refine (cnfHas_impl m1 _ ls1 _ l _ q5 hwf.out q6).mono ?_; rintro e w7 ⟨rfl, hb⟩
  clear A0 A1 A2 B0 B1 B2
  replace A := A.keep hb
  replace B := B.keep hb
  replace h1 := h1.below hb
  replace h2 := h2.below hb
  replace q5 := q5.below hb
  replace q6 := q6.below hb
  replace K := below_two K hb
  clear hb
  obtain ⟨A0, A1, A2⟩ := A.cells
  obtain ⟨B0, B1, B2⟩ := B.cells
  go_wp2_with fail
  clear A0 A1 A2 B0 B1 B2
  replace A := A.drew
  replace B := B.drew
  replace h1 := h1.drew
  replace h2 := h2.drew
  replace q5 := q5.drew
  replace q6 := q6.drew
  replace K := K.drew
  have sS := And.intro (And.intro B.cells.1 B.cells.2.1) (And.intro A.cells.1 A.cells.2.1)
  first
    | (go_region_held3 (fun wx : World => (wx.cell? ⟨w5.heap.size, 0, none⟩ = some (.int .i64 m1) ∧ wx.cell? ⟨w5.heap.size, 1, none⟩ = some (.slice p5 ls1.length e5)) ∧ (wx.cell? ⟨w.heap.size, 0, none⟩ = some (.int .i64 m1) ∧ wx.cell? ⟨w.heap.size, 1, none⟩ = some (.slice a1 ls1.length c1))) (first | (with_reducible assumption)) (first | (go_at_call 23; (with_reducible refine (toCnf_any m1 _ ls1 _ h1 hn1 HM1.out).mono ?_); rintro e w8 ⟨v7, fs7, rfl, o7, hb⟩; obtain ⟨p7, e7, rfl, _⟩ := Row.of_own o7.top; replace A := A.keep hb; replace B := B.keep hb; replace h1 := h1.below hb; replace h2 := h2.below hb; replace q5 := q5.below hb; replace q6 := q6.below hb; replace K := below_two K hb; clear hb; have q7 := o7.ints; clear o7; replace sS := And.intro (And.intro B.cells.1 B.cells.2.1) (And.intro A.cells.1 A.cells.2.1)) | (go_at_call 25; (with_reducible refine (eqCnf_same m1 _ ls1 _ _ q5 q7).mono ?_); rintro e w8 ⟨rfl, hb⟩; replace A := A.keep hb; replace B := B.keep hb; replace h1 := h1.below hb; replace h2 := h2.below hb; replace q5 := q5.below hb; replace q6 := q6.below hb; replace q7 := q7.below hb; replace K := below_two K hb; clear hb; replace sS := And.intro (And.intro B.cells.1 B.cells.2.1) (And.intro A.cells.1 A.cells.2.1))))
    | fail
  clear sS
  obtain ⟨A0, A1, A2⟩ := A.cells
  obtain ⟨B0, B1, B2⟩ := B.cells
  go_wp2_with fail
  refine (toBoolS_any _ l _ h2 hn2).mono ?_; rintro e w9 ⟨v8, rfl, o8, hb⟩
  obtain ⟨p8, e8, rfl, _⟩ := Row.of_own o8
  clear A0 A1 A2 B0 B1 B2
  replace A := A.keep hb
  replace B := B.keep hb
  replace h1 := h1.below hb
  replace h2 := h2.below hb
  replace q5 := q5.below hb
  replace q6 := q6.below hb
  replace q7 := q7.below hb
  replace K := below_two K hb
  clear hb
  have q8 := Bools.of_own o8
  clear o8
  obtain ⟨A0, A1, A2⟩ := A.cells
  obtain ⟨B0, B1, B2⟩ := B.cells
  go_wp2_with fail
  refine (eqBoolS_any _ _ l l _ q6 q8).mono ?_; rintro e w10 d
  obtain ⟨rfl, hb⟩ := d.below
  rw [decide_eq_true rfl]
  clear A0 A1 A2 B0 B1 B2
  replace A := A.keep hb
  replace B := B.keep hb
  replace h1 := h1.below hb
  replace h2 := h2.below hb
  replace q5 := q5.below hb
  replace q6 := q6.below hb
  replace q7 := q7.below hb
  replace q8 := q8.below hb
  replace K := below_two K hb
  clear hb
  obtain ⟨A0, A1, A2⟩ := A.cells
  obtain ⟨B0, B1, B2⟩ := B.cells
  go_wp2_with fail
  go_ret
  exact ⟨rfl, K⟩
end Go.Proofs.Ytjobbokjebhjgaa
