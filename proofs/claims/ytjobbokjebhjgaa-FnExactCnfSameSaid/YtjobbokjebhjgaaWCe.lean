/- The walk of FnExactCnfSame: for all arguments the law returns true and leaves alone what was there. -/
import Derived.Test.YtjobbokjebhjgaaCe
import Derived.Deep.DeepCutAuto
namespace Go.Proofs.Ytjobbokjebhjgaa
open Go.RowKit

set_option linter.unusedVariables false in
set_option maxRecDepth 20000 in
set_option maxHeartbeats 8000000 in
theorem walk_FnExactCnfSame (m1 : Int) (_ : (Lit.int .i64 m1).wf = true) (v1 : Value) (ls1 : List (List Int)) (_ : ∀ i, i < ls1.length → ∀ x ∈ ls1.getD i [], (Lit.int .i64 x).wf = true) (m2 : Int) (_ : (Lit.int .i64 m2).wf = true) (v2 : Value) (ls2 : List (List Int)) (_ : ∀ i, i < ls2.length → ∀ x ∈ ls2.getD i [], (Lit.int .i64 x).wf = true) {w : World} (h1 : IntSS w v1 ls1) (h2 : IntSS w v2 ls2) :
    Calls Try.prog 5 #[.agg #[.int .i64 m1, v1], .agg #[.int .i64 m2, v2]] w fun e w' => e = .returned (.bool true) ∧ Below w.heap.size w w' := by
  obtain ⟨a1, c1, rfl⟩ := h1.form
  obtain ⟨a2, c2, rfl⟩ := h2.form
  obtain ⟨s1, s2, s3⟩ := szSS_le ls1 1048576 (by omega)
  have C1 : ∀ w', IntSS w' (.slice a1 ls1.length c1) ls1 → Calls Try.prog 21 #[.agg #[.int .i64 m1, .slice a1 ls1.length c1], .int .i64 1048576] w' fun e w'' => e = .returned (.int .i64 (szSS 1048576 ls1)) ∧ Below w'.heap.size w' w'' := fun w' h => szCnf_any m1 _ ls1 1048576 w' h (by omega) (by omega)
  generalize szSS 1048576 ls1 = z1 at *
  have D1 := Lib.hid C1
  clear C1
  by_cases hz1 : z1 < 0
  · go_enter Try.func5, Try.ntmps5
    go_wp2_with fail
    replace h1 := h1.below (below_step (below_self_alloc w (.cells #[.int .i64 m1, .slice a1 ls1.length c1] 35)) (.cells #[.int .i64 m2, .slice a2 ls2.length c2] 35))
    replace h2 := h2.below (below_step (below_self_alloc w (.cells #[.int .i64 m1, .slice a1 ls1.length c1] 35)) (.cells #[.int .i64 m2, .slice a2 ls2.length c2] 35))
    have K := below_step (below_self_alloc w (.cells #[.int .i64 m1, .slice a1 ls1.length c1] 35)) (.cells #[.int .i64 m2, .slice a2 ls2.length c2] 35)
    have A := (blk_new w (.int .i64 m1) (.slice a1 ls1.length c1) 35).alloc (.cells #[.int .i64 m2, .slice a2 ls2.length c2] 35)
    have B := blk_new1 w (.cells #[.int .i64 m1, .slice a1 ls1.length c1] 35) (.int .i64 m2) (.slice a2 ls2.length c2) 35
    obtain ⟨A0, A1, A2⟩ := A.cells
    obtain ⟨B0, B1, B2⟩ := B.cells
    refine (D1.out _ h1).mono ?_; rintro e w1 ⟨rfl, hb⟩
    clear A0 A1 A2 B0 B1 B2
    replace A := A.keep hb
    replace B := B.keep hb
    replace h1 := h1.below hb
    replace h2 := h2.below hb
    replace K := below_two K hb
    clear hb
    obtain ⟨A0, A1, A2⟩ := A.cells
    obtain ⟨B0, B1, B2⟩ := B.cells
    go_wp2_with fail
    go_ret
    exact ⟨rfl, K⟩
  obtain ⟨t1, u1⟩ := s3 (by omega)
  have hn1 : ls1.length ≤ 1048576 := by omega
  have HM1 : Hid (∀ i, i < ls1.length → (ls1.getD i []).length ≤ 1048576) := fun i hi => by have := u1 i hi; omega
  clear s3 u1 t1
  obtain ⟨s1', s2', s3⟩ := szSS_le ls2 z1 (by omega)
  have C1 : ∀ w', IntSS w' (.slice a2 ls2.length c2) ls2 → Calls Try.prog 21 #[.agg #[.int .i64 m2, .slice a2 ls2.length c2], .int .i64 z1] w' fun e w'' => e = .returned (.int .i64 (szSS z1 ls2)) ∧ Below w'.heap.size w' w'' := fun w' h => szCnf_any m2 _ ls2 z1 w' h (by omega) (by omega)
  generalize szSS z1 ls2 = z2 at *
  have D2 := Lib.hid C1
  clear C1
  by_cases hz2 : z2 < 0
  · go_enter Try.func5, Try.ntmps5
    go_wp2_with fail
    replace h1 := h1.below (below_step (below_self_alloc w (.cells #[.int .i64 m1, .slice a1 ls1.length c1] 35)) (.cells #[.int .i64 m2, .slice a2 ls2.length c2] 35))
    replace h2 := h2.below (below_step (below_self_alloc w (.cells #[.int .i64 m1, .slice a1 ls1.length c1] 35)) (.cells #[.int .i64 m2, .slice a2 ls2.length c2] 35))
    have K := below_step (below_self_alloc w (.cells #[.int .i64 m1, .slice a1 ls1.length c1] 35)) (.cells #[.int .i64 m2, .slice a2 ls2.length c2] 35)
    have A := (blk_new w (.int .i64 m1) (.slice a1 ls1.length c1) 35).alloc (.cells #[.int .i64 m2, .slice a2 ls2.length c2] 35)
    have B := blk_new1 w (.cells #[.int .i64 m1, .slice a1 ls1.length c1] 35) (.int .i64 m2) (.slice a2 ls2.length c2) 35
    obtain ⟨A0, A1, A2⟩ := A.cells
    obtain ⟨B0, B1, B2⟩ := B.cells
    refine (D1.out _ h1).mono ?_; rintro e w1 ⟨rfl, hb⟩
    clear A0 A1 A2 B0 B1 B2
    replace A := A.keep hb
    replace B := B.keep hb
    replace h1 := h1.below hb
    replace h2 := h2.below hb
    replace K := below_two K hb
    clear hb
    obtain ⟨A0, A1, A2⟩ := A.cells
    obtain ⟨B0, B1, B2⟩ := B.cells
    go_wp2_with fail
    refine (D2.out _ h2).mono ?_; rintro e w2 ⟨rfl, hb⟩
    clear A0 A1 A2 B0 B1 B2
    replace A := A.keep hb
    replace B := B.keep hb
    replace h1 := h1.below hb
    replace h2 := h2.below hb
    replace K := below_two K hb
    clear hb
    obtain ⟨A0, A1, A2⟩ := A.cells
    obtain ⟨B0, B1, B2⟩ := B.cells
    go_wp2_with fail
    go_ret
    exact ⟨rfl, K⟩
  obtain ⟨t1, u1⟩ := s3 (by omega)
  have hn2 : ls2.length ≤ 1048576 := by omega
  have HM2 : Hid (∀ i, i < ls2.length → (ls2.getD i []).length ≤ 1048576) := fun i hi => by have := u1 i hi; omega
  clear s3 u1 t1
  go_enter Try.func5, Try.ntmps5
  go_wp2_with fail
  replace h1 := h1.below (below_step (below_self_alloc w (.cells #[.int .i64 m1, .slice a1 ls1.length c1] 35)) (.cells #[.int .i64 m2, .slice a2 ls2.length c2] 35))
  replace h2 := h2.below (below_step (below_self_alloc w (.cells #[.int .i64 m1, .slice a1 ls1.length c1] 35)) (.cells #[.int .i64 m2, .slice a2 ls2.length c2] 35))
  have K := below_step (below_self_alloc w (.cells #[.int .i64 m1, .slice a1 ls1.length c1] 35)) (.cells #[.int .i64 m2, .slice a2 ls2.length c2] 35)
  have A := (blk_new w (.int .i64 m1) (.slice a1 ls1.length c1) 35).alloc (.cells #[.int .i64 m2, .slice a2 ls2.length c2] 35)
  have B := blk_new1 w (.cells #[.int .i64 m1, .slice a1 ls1.length c1] 35) (.int .i64 m2) (.slice a2 ls2.length c2) 35
  obtain ⟨A0, A1, A2⟩ := A.cells
  obtain ⟨B0, B1, B2⟩ := B.cells
  refine (D1.out _ h1).mono ?_; rintro e w1 ⟨rfl, hb⟩
  clear A0 A1 A2 B0 B1 B2
  replace A := A.keep hb
  replace B := B.keep hb
  replace h1 := h1.below hb
  replace h2 := h2.below hb
  replace K := below_two K hb
  clear hb
  obtain ⟨A0, A1, A2⟩ := A.cells
  obtain ⟨B0, B1, B2⟩ := B.cells
  go_wp2_with fail
  refine (D2.out _ h2).mono ?_; rintro e w2 ⟨rfl, hb⟩
  clear A0 A1 A2 B0 B1 B2
  replace A := A.keep hb
  replace B := B.keep hb
  replace h1 := h1.below hb
  replace h2 := h2.below hb
  replace K := below_two K hb
  clear hb
  obtain ⟨A0, A1, A2⟩ := A.cells
  obtain ⟨B0, B1, B2⟩ := B.cells
  clear D1 D2
  go_wp2_with fail
  clear A0 A1 A2 B0 B1 B2
  replace A := A.drew
  replace B := B.drew
  replace h1 := h1.drew
  replace h2 := h2.drew
  replace K := K.drew
  have sS := And.intro (And.intro A.cells.1 A.cells.2.1) (And.intro B.cells.1 B.cells.2.1)
  first
    | (go_region_held3 (fun wx : World => (wx.cell? ⟨w.heap.size, 0, none⟩ = some (.int .i64 m1) ∧ wx.cell? ⟨w.heap.size, 1, none⟩ = some (.slice a1 ls1.length c1)) ∧ (wx.cell? ⟨(w.heap.size + 1), 0, none⟩ = some (.int .i64 m2) ∧ wx.cell? ⟨(w.heap.size + 1), 1, none⟩ = some (.slice a2 ls2.length c2))) (first | (with_reducible assumption)) (first | (go_at_call 23; (with_reducible refine (toCnf_any m1 _ ls1 _ h1 hn1 HM1.out).mono ?_); rintro e w3 ⟨v1, fs1, rfl, o1, hb⟩; obtain ⟨p1, e1, rfl, _⟩ := Row.of_own o1.top; replace A := A.keep hb; replace B := B.keep hb; replace h1 := h1.below hb; replace h2 := h2.below hb; replace K := below_two K hb; clear hb; have q1 := o1.ints; clear o1; replace sS := And.intro (And.intro A.cells.1 A.cells.2.1) (And.intro B.cells.1 B.cells.2.1)) | (go_at_call 23; (with_reducible refine (toCnf_any m2 _ ls2 _ h2 hn2 HM2.out).mono ?_); rintro e w3 ⟨v2, fs2, rfl, o2, hb⟩; obtain ⟨p2, e2, rfl, _⟩ := Row.of_own o2.top; replace A := A.keep hb; replace B := B.keep hb; replace h1 := h1.below hb; replace h2 := h2.below hb; replace q1 := q1.below hb; replace K := below_two K hb; clear hb; have q2 := o2.ints; clear o2; replace sS := And.intro (And.intro A.cells.1 A.cells.2.1) (And.intro B.cells.1 B.cells.2.1)) | (go_at_call 22; (with_reducible refine (cnfSame_spec m1 _ ls1 m2 _ ls2 _ q1 q2).mono ?_); rintro e w3 ⟨rfl, hb⟩; replace A := A.keep hb; replace B := B.keep hb; replace h1 := h1.below hb; replace h2 := h2.below hb; replace q1 := q1.below hb; replace q2 := q2.below hb; replace K := below_two K hb; clear hb; replace sS := And.intro (And.intro A.cells.1 A.cells.2.1) (And.intro B.cells.1 B.cells.2.1))))
    | fail
  clear sS
  obtain ⟨A0, A1, A2⟩ := A.cells
  obtain ⟨B0, B1, B2⟩ := B.cells
  go_wp2_with fail
  clear A0 A1 A2 B0 B1 B2
  clear q1 q2
  refine (toCnf_any m1 _ ls1 _ h1 hn1 HM1.out).mono ?_; rintro e w4 ⟨v3, fs3, rfl, o3, hb⟩
  obtain ⟨p3, e3, rfl, _⟩ := Row.of_own o3.top
  replace A := A.keep hb
  replace B := B.keep hb
  replace h1 := h1.below hb
  replace h2 := h2.below hb
  replace K := below_two K hb
  clear hb
  have q3 := o3.ints
  clear o3
  have nA : ¬ w.heap.size = w4.heap.size := Nat.ne_of_lt A.lt
  have nB : ¬ (w.heap.size + 1) = w4.heap.size := Nat.ne_of_lt B.lt
  replace A := A.alloc (.cells #[.int .i64 m1, .slice p3 ls1.length e3] 38)
  replace B := B.alloc (.cells #[.int .i64 m1, .slice p3 ls1.length e3] 38)
  replace h1 := h1.below (below_self_alloc w4 (.cells #[.int .i64 m1, .slice p3 ls1.length e3] 38))
  replace h2 := h2.below (below_self_alloc w4 (.cells #[.int .i64 m1, .slice p3 ls1.length e3] 38))
  replace q3 := q3.below (below_self_alloc w4 (.cells #[.int .i64 m1, .slice p3 ls1.length e3] 38))
  replace K := below_step K (.cells #[.int .i64 m1, .slice p3 ls1.length e3] 38)
  have C := blk_new w4 (.int .i64 m1) (.slice p3 ls1.length e3) 38
  obtain ⟨A0, A1, A2⟩ := A.cells
  obtain ⟨B0, B1, B2⟩ := B.cells
  obtain ⟨C0, C1, C2⟩ := C.cells
  go_wp2_with fail
  refine (toCnf_any m2 _ ls2 _ h2 hn2 HM2.out).mono ?_; rintro e w5 ⟨v4, fs4, rfl, o4, hb⟩
  obtain ⟨p4, e4, rfl, _⟩ := Row.of_own o4.top
  clear A0 A1 A2 B0 B1 B2 C0 C1 C2
  clear nA nB
  replace A := A.keep hb
  replace B := B.keep hb
  replace C := C.keep hb
  replace h1 := h1.below hb
  replace h2 := h2.below hb
  replace q3 := q3.below hb
  replace K := below_two K hb
  clear hb
  have q4 := o4.ints
  clear o4
  have nA : ¬ w.heap.size = w5.heap.size := Nat.ne_of_lt A.lt
  have nB : ¬ (w.heap.size + 1) = w5.heap.size := Nat.ne_of_lt B.lt
  have nC : ¬ w4.heap.size = w5.heap.size := Nat.ne_of_lt C.lt
  replace A := A.alloc (.cells #[.int .i64 m2, .slice p4 ls2.length e4] 38)
  replace B := B.alloc (.cells #[.int .i64 m2, .slice p4 ls2.length e4] 38)
  replace C := C.alloc (.cells #[.int .i64 m2, .slice p4 ls2.length e4] 38)
  replace h1 := h1.below (below_self_alloc w5 (.cells #[.int .i64 m2, .slice p4 ls2.length e4] 38))
  replace h2 := h2.below (below_self_alloc w5 (.cells #[.int .i64 m2, .slice p4 ls2.length e4] 38))
  replace q3 := q3.below (below_self_alloc w5 (.cells #[.int .i64 m2, .slice p4 ls2.length e4] 38))
  replace q4 := q4.below (below_self_alloc w5 (.cells #[.int .i64 m2, .slice p4 ls2.length e4] 38))
  replace K := below_step K (.cells #[.int .i64 m2, .slice p4 ls2.length e4] 38)
  have D := blk_new w5 (.int .i64 m2) (.slice p4 ls2.length e4) 38
  obtain ⟨A0, A1, A2⟩ := A.cells
  obtain ⟨B0, B1, B2⟩ := B.cells
  obtain ⟨C0, C1, C2⟩ := C.cells
  obtain ⟨D0, D1, D2⟩ := D.cells
  go_wp2_with fail
  refine (cnfSame_impl m1 _ ls1 m2 _ ls2 _ q3 q4).mono ?_; rintro e w6 ⟨rfl, hb⟩
  clear A0 A1 A2 B0 B1 B2 C0 C1 C2 D0 D1 D2
  clear nA nB nC
  replace A := A.keep hb
  replace B := B.keep hb
  replace C := C.keep hb
  replace D := D.keep hb
  replace h1 := h1.below hb
  replace h2 := h2.below hb
  replace q3 := q3.below hb
  replace q4 := q4.below hb
  replace K := below_two K hb
  clear hb
  obtain ⟨A0, A1, A2⟩ := A.cells
  obtain ⟨B0, B1, B2⟩ := B.cells
  obtain ⟨C0, C1, C2⟩ := C.cells
  obtain ⟨D0, D1, D2⟩ := D.cells
  go_wp2_with fail
  clear A0 A1 A2 B0 B1 B2 C0 C1 C2 D0 D1 D2
  replace A := A.drew
  replace B := B.drew
  replace C := C.drew
  replace D := D.drew
  replace h1 := h1.drew
  replace h2 := h2.drew
  replace q3 := q3.drew
  replace q4 := q4.drew
  replace K := K.drew
  have sS := And.intro (And.intro C.cells.1 C.cells.2.1) (And.intro A.cells.1 A.cells.2.1)
  first
    | (go_region_held3 (fun wx : World => (wx.cell? ⟨w4.heap.size, 0, none⟩ = some (.int .i64 m1) ∧ wx.cell? ⟨w4.heap.size, 1, none⟩ = some (.slice p3 ls1.length e3)) ∧ (wx.cell? ⟨w.heap.size, 0, none⟩ = some (.int .i64 m1) ∧ wx.cell? ⟨w.heap.size, 1, none⟩ = some (.slice a1 ls1.length c1))) (first | (with_reducible assumption)) (first | (go_at_call 23; (with_reducible refine (toCnf_any m1 _ ls1 _ h1 hn1 HM1.out).mono ?_); rintro e w7 ⟨v5, fs5, rfl, o5, hb⟩; obtain ⟨p5, e5, rfl, _⟩ := Row.of_own o5.top; replace A := A.keep hb; replace B := B.keep hb; replace C := C.keep hb; replace D := D.keep hb; replace h1 := h1.below hb; replace h2 := h2.below hb; replace q3 := q3.below hb; replace q4 := q4.below hb; replace K := below_two K hb; clear hb; have q5 := o5.ints; clear o5; replace sS := And.intro (And.intro C.cells.1 C.cells.2.1) (And.intro A.cells.1 A.cells.2.1)) | (go_at_call 25; (with_reducible refine (eqCnf_same m1 _ ls1 _ _ q3 q5).mono ?_); rintro e w7 ⟨rfl, hb⟩; replace A := A.keep hb; replace B := B.keep hb; replace C := C.keep hb; replace D := D.keep hb; replace h1 := h1.below hb; replace h2 := h2.below hb; replace q3 := q3.below hb; replace q4 := q4.below hb; replace q5 := q5.below hb; replace K := below_two K hb; clear hb; replace sS := And.intro (And.intro C.cells.1 C.cells.2.1) (And.intro A.cells.1 A.cells.2.1))))
    | fail
  clear sS
  obtain ⟨A0, A1, A2⟩ := A.cells
  obtain ⟨B0, B1, B2⟩ := B.cells
  obtain ⟨C0, C1, C2⟩ := C.cells
  obtain ⟨D0, D1, D2⟩ := D.cells
  go_wp2_with fail
  clear A0 A1 A2 B0 B1 B2 C0 C1 C2 D0 D1 D2
  replace A := A.drew
  replace B := B.drew
  replace C := C.drew
  replace D := D.drew
  replace h1 := h1.drew
  replace h2 := h2.drew
  replace q3 := q3.drew
  replace q4 := q4.drew
  replace q5 := q5.drew
  replace K := K.drew
  have sS := And.intro (And.intro D.cells.1 D.cells.2.1) (And.intro B.cells.1 B.cells.2.1)
  first
    | (go_region_held3 (fun wx : World => (wx.cell? ⟨w5.heap.size, 0, none⟩ = some (.int .i64 m2) ∧ wx.cell? ⟨w5.heap.size, 1, none⟩ = some (.slice p4 ls2.length e4)) ∧ (wx.cell? ⟨(w.heap.size + 1), 0, none⟩ = some (.int .i64 m2) ∧ wx.cell? ⟨(w.heap.size + 1), 1, none⟩ = some (.slice a2 ls2.length c2))) (first | (with_reducible assumption)) (first | (go_at_call 23; (with_reducible refine (toCnf_any m2 _ ls2 _ h2 hn2 HM2.out).mono ?_); rintro e w8 ⟨v6, fs6, rfl, o6, hb⟩; obtain ⟨p6, e6, rfl, _⟩ := Row.of_own o6.top; replace A := A.keep hb; replace B := B.keep hb; replace C := C.keep hb; replace D := D.keep hb; replace h1 := h1.below hb; replace h2 := h2.below hb; replace q3 := q3.below hb; replace q4 := q4.below hb; replace q5 := q5.below hb; replace K := below_two K hb; clear hb; have q6 := o6.ints; clear o6; replace sS := And.intro (And.intro D.cells.1 D.cells.2.1) (And.intro B.cells.1 B.cells.2.1)) | (go_at_call 25; (with_reducible refine (eqCnf_same m2 _ ls2 _ _ q4 q6).mono ?_); rintro e w8 ⟨rfl, hb⟩; replace A := A.keep hb; replace B := B.keep hb; replace C := C.keep hb; replace D := D.keep hb; replace h1 := h1.below hb; replace h2 := h2.below hb; replace q3 := q3.below hb; replace q4 := q4.below hb; replace q5 := q5.below hb; replace q6 := q6.below hb; replace K := below_two K hb; clear hb; replace sS := And.intro (And.intro D.cells.1 D.cells.2.1) (And.intro B.cells.1 B.cells.2.1))))
    | fail
  clear sS
  obtain ⟨A0, A1, A2⟩ := A.cells
  obtain ⟨B0, B1, B2⟩ := B.cells
  obtain ⟨C0, C1, C2⟩ := C.cells
  obtain ⟨D0, D1, D2⟩ := D.cells
  go_wp2_with fail
  go_ret
  exact ⟨rfl, K⟩
end Go.Proofs.Ytjobbokjebhjgaa
