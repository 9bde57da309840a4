/- The walk of FnExactNetSame: for all arguments the law returns true and leaves alone what was there. -/
import Derived.Test.YteeaafdgkepaeaaNs
import Derived.Test.YteeaafdgkepaeaaNo
import Derived.Deep.DeepCutAuto
namespace Go.Proofs.Yteeaafdgkepaeaa
open Go.RowKit

set_option linter.unusedVariables false in
set_option maxRecDepth 20000 in
set_option maxHeartbeats 8000000 in
theorem walk_FnExactNetSame (m1 : Int) (wm1 : (Lit.int .i64 m1).wf = true) (v1 : Value) (gs1 : List Gt) (wl1 : ∀ i, i < gs1.length → gtWf (gs1.getD i gz)) (m2 : Int) (wm2 : (Lit.int .i64 m2).wf = true) (v2 : Value) (gs2 : List Gt) (wl2 : ∀ i, i < gs2.length → gtWf (gs2.getD i gz)) {w : World} (h1 : Gates w v1 gs1) (h2 : Gates w v2 gs2) :
    Calls Try.prog 5 #[.agg #[.int .i64 m1, v1], .agg #[.int .i64 m2, v2]] w fun e w' => e = .returned (.bool true) ∧ Below w.heap.size w w' := by
  have hl1 := h1.len
  obtain ⟨a1, c1, rfl⟩ := h1.form
  have hl2 := h2.len
  obtain ⟨a2, c2, rfl⟩ := h2.form
  by_cases hz1 : 1048576 < (gs1.length : Int)
  · have D1 := fun w' h => szNet_any m1 (.slice a1 gs1.length c1) gs1 (1048576) w' h (by omega) (by omega)
    simp only [if_pos hz1] at D1
    replace D1 := Lib.hid D1
    go_enter Try.func5, Try.ntmps5
    go_wp2_with fail
    replace h1 := h1.below (below_step (below_self_alloc w (.cells #[.int .i64 m1, .slice a1 gs1.length c1] 34)) (.cells #[.int .i64 m2, .slice a2 gs2.length c2] 34))
    replace h2 := h2.below (below_step (below_self_alloc w (.cells #[.int .i64 m1, .slice a1 gs1.length c1] 34)) (.cells #[.int .i64 m2, .slice a2 gs2.length c2] 34))
    have K := below_step (below_self_alloc w (.cells #[.int .i64 m1, .slice a1 gs1.length c1] 34)) (.cells #[.int .i64 m2, .slice a2 gs2.length c2] 34)
    have A := (blk_new w (.int .i64 m1) (.slice a1 gs1.length c1) 34).alloc (.cells #[.int .i64 m2, .slice a2 gs2.length c2] 34)
    have B := blk_new1 w (.cells #[.int .i64 m1, .slice a1 gs1.length c1] 34) (.int .i64 m2) (.slice a2 gs2.length c2) 34
    obtain ⟨A0, A1, A2⟩ := A.cells
    obtain ⟨B0, B1, B2⟩ := B.cells
    refine (D1.out _ h1).mono ?_; rintro e w1 ⟨rfl, hb⟩
    clear A0 A1 A2 B0 B1 B2
    replace A := A.keep hb
    replace B := B.keep hb
    replace h1 := h1.below hb
    replace h2 := h2.below hb
    replace K := below_two K hb
    clear hb
    obtain ⟨A0, A1, A2⟩ := A.cells
    obtain ⟨B0, B1, B2⟩ := B.cells
    go_wp2_with fail
    go_ret
    exact ⟨rfl, K⟩
  have D1 := fun w' h => szNet_any m1 (.slice a1 gs1.length c1) gs1 (1048576) w' h (by omega) (by omega)
  simp only [if_neg hz1] at D1
  replace D1 := Lib.hid D1
  have hn1 : gs1.length ≤ 1048576 := by omega
  by_cases hz2 : 1048576 - (gs1.length : Int) < (gs2.length : Int)
  · have D2 := fun w' h => szNet_any m2 (.slice a2 gs2.length c2) gs2 (1048576 - (gs1.length : Int)) w' h (by omega) (by omega)
    simp only [if_pos hz2] at D2
    replace D2 := Lib.hid D2
    go_enter Try.func5, Try.ntmps5
    go_wp2_with fail
    replace h1 := h1.below (below_step (below_self_alloc w (.cells #[.int .i64 m1, .slice a1 gs1.length c1] 34)) (.cells #[.int .i64 m2, .slice a2 gs2.length c2] 34))
    replace h2 := h2.below (below_step (below_self_alloc w (.cells #[.int .i64 m1, .slice a1 gs1.length c1] 34)) (.cells #[.int .i64 m2, .slice a2 gs2.length c2] 34))
    have K := below_step (below_self_alloc w (.cells #[.int .i64 m1, .slice a1 gs1.length c1] 34)) (.cells #[.int .i64 m2, .slice a2 gs2.length c2] 34)
    have A := (blk_new w (.int .i64 m1) (.slice a1 gs1.length c1) 34).alloc (.cells #[.int .i64 m2, .slice a2 gs2.length c2] 34)
    have B := blk_new1 w (.cells #[.int .i64 m1, .slice a1 gs1.length c1] 34) (.int .i64 m2) (.slice a2 gs2.length c2) 34
    obtain ⟨A0, A1, A2⟩ := A.cells
    obtain ⟨B0, B1, B2⟩ := B.cells
    refine (D1.out _ h1).mono ?_; rintro e w1 ⟨rfl, hb⟩
    clear A0 A1 A2 B0 B1 B2
    replace A := A.keep hb
    replace B := B.keep hb
    replace h1 := h1.below hb
    replace h2 := h2.below hb
    replace K := below_two K hb
    clear hb
    obtain ⟨A0, A1, A2⟩ := A.cells
    obtain ⟨B0, B1, B2⟩ := B.cells
    go_wp2_with fail
    refine (D2.out _ h2).mono ?_; rintro e w2 ⟨rfl, hb⟩
    clear A0 A1 A2 B0 B1 B2
    replace A := A.keep hb
    replace B := B.keep hb
    replace h1 := h1.below hb
    replace h2 := h2.below hb
    replace K := below_two K hb
    clear hb
    obtain ⟨A0, A1, A2⟩ := A.cells
    obtain ⟨B0, B1, B2⟩ := B.cells
    go_wp2_with fail
    go_ret
    exact ⟨rfl, K⟩
  have D2 := fun w' h => szNet_any m2 (.slice a2 gs2.length c2) gs2 (1048576 - (gs1.length : Int)) w' h (by omega) (by omega)
  simp only [if_neg hz2] at D2
  replace D2 := Lib.hid D2
  have hn2 : gs2.length ≤ 1048576 := by omega
  go_enter Try.func5, Try.ntmps5
  go_wp2_with fail
  replace h1 := h1.below (below_step (below_self_alloc w (.cells #[.int .i64 m1, .slice a1 gs1.length c1] 34)) (.cells #[.int .i64 m2, .slice a2 gs2.length c2] 34))
  replace h2 := h2.below (below_step (below_self_alloc w (.cells #[.int .i64 m1, .slice a1 gs1.length c1] 34)) (.cells #[.int .i64 m2, .slice a2 gs2.length c2] 34))
  have K := below_step (below_self_alloc w (.cells #[.int .i64 m1, .slice a1 gs1.length c1] 34)) (.cells #[.int .i64 m2, .slice a2 gs2.length c2] 34)
  have A := (blk_new w (.int .i64 m1) (.slice a1 gs1.length c1) 34).alloc (.cells #[.int .i64 m2, .slice a2 gs2.length c2] 34)
  have B := blk_new1 w (.cells #[.int .i64 m1, .slice a1 gs1.length c1] 34) (.int .i64 m2) (.slice a2 gs2.length c2) 34
  obtain ⟨A0, A1, A2⟩ := A.cells
  obtain ⟨B0, B1, B2⟩ := B.cells
  refine (D1.out _ h1).mono ?_; rintro e w1 ⟨rfl, hb⟩
  clear A0 A1 A2 B0 B1 B2
  replace A := A.keep hb
  replace B := B.keep hb
  replace h1 := h1.below hb
  replace h2 := h2.below hb
  replace K := below_two K hb
  clear hb
  obtain ⟨A0, A1, A2⟩ := A.cells
  obtain ⟨B0, B1, B2⟩ := B.cells
  go_wp2_with fail
  refine (D2.out _ h2).mono ?_; rintro e w2 ⟨rfl, hb⟩
  clear A0 A1 A2 B0 B1 B2
  replace A := A.keep hb
  replace B := B.keep hb
  replace h1 := h1.below hb
  replace h2 := h2.below hb
  replace K := below_two K hb
  clear hb
  obtain ⟨A0, A1, A2⟩ := A.cells
  obtain ⟨B0, B1, B2⟩ := B.cells
  clear D1 D2 hl1 hl2
  go_wp2_with fail
  clear A0 A1 A2 B0 B1 B2
  replace A := A.drew
  replace B := B.drew
  replace h1 := h1.drew
  replace h2 := h2.drew
  replace K := K.drew
  have sS := And.intro (And.intro A.cells.1 (A.cells.2.1)) (And.intro B.cells.1 (B.cells.2.1))
  first
    | (go_region_held3 (fun wx : World => (wx.cell? ⟨w.heap.size, 0, none⟩ = some (.int .i64 m1) ∧ wx.cell? ⟨w.heap.size, 1, none⟩ = some (.slice a1 gs1.length c1)) ∧ (wx.cell? ⟨(w.heap.size + 1), 0, none⟩ = some (.int .i64 m2) ∧ wx.cell? ⟨(w.heap.size + 1), 1, none⟩ = some (.slice a2 gs2.length c2))) (first | (with_reducible assumption)) (first | (go_at_call 19; (with_reducible refine (toNet_any m1 _ gs1 _ h1 hn1).mono ?_); rintro e w3 ⟨v3, rfl, o3, hb⟩; obtain ⟨p3, e3, rfl, _⟩ := RowS.of_own (by omega) o3; replace A := A.keep hb; replace B := B.keep hb; replace h1 := h1.below hb; replace h2 := h2.below hb; replace K := below_two K hb; clear hb; have q3 := gates_own o3; clear o3; replace sS := And.intro (And.intro A.cells.1 (A.cells.2.1)) (And.intro B.cells.1 (B.cells.2.1))) | (go_at_call 19; (with_reducible refine (toNet_any m2 _ gs2 _ h2 hn2).mono ?_); rintro e w3 ⟨v4, rfl, o4, hb⟩; obtain ⟨p4, e4, rfl, _⟩ := RowS.of_own (by omega) o4; replace A := A.keep hb; replace B := B.keep hb; replace h1 := h1.below hb; replace h2 := h2.below hb; replace q3 := q3.below hb; replace K := below_two K hb; clear hb; have q4 := gates_own o4; clear o4; replace sS := And.intro (And.intro A.cells.1 (A.cells.2.1)) (And.intro B.cells.1 (B.cells.2.1))) | (go_at_call 18; (with_reducible refine (netSame_spec m1 _ gs1 m2 _ gs2 _ q3 q4).mono ?_); rintro e w3 ⟨rfl, hb⟩; replace A := A.keep hb; replace B := B.keep hb; replace h1 := h1.below hb; replace h2 := h2.below hb; replace q3 := q3.below hb; replace q4 := q4.below hb; replace K := below_two K hb; clear hb; replace sS := And.intro (And.intro A.cells.1 (A.cells.2.1)) (And.intro B.cells.1 (B.cells.2.1)))))
    | fail
  clear sS
  obtain ⟨A0, A1, A2⟩ := A.cells
  obtain ⟨B0, B1, B2⟩ := B.cells
  go_wp2_with fail
  clear A0 A1 A2 B0 B1 B2
  clear q3 q4
  obtain ⟨A0, A1, A2⟩ := A.cells
  obtain ⟨B0, B1, B2⟩ := B.cells
  refine (toNet_any m1 _ gs1 _ h1 hn1).mono ?_; rintro e w4 ⟨v5, rfl, o5, hb⟩
  obtain ⟨p5, e5, rfl, _⟩ := RowS.of_own (by omega) o5
  clear A0 A1 A2 B0 B1 B2
  replace A := A.keep hb
  replace B := B.keep hb
  replace h1 := h1.below hb
  replace h2 := h2.below hb
  replace K := below_two K hb
  clear hb
  have q5 := gates_own o5
  clear o5
  have nA : ¬ w.heap.size = w4.heap.size := Nat.ne_of_lt A.lt
  have nB : ¬ (w.heap.size + 1) = w4.heap.size := Nat.ne_of_lt B.lt
  replace A := A.alloc (.cells #[.int .i64 m1, .slice p5 gs1.length e5] 39)
  replace B := B.alloc (.cells #[.int .i64 m1, .slice p5 gs1.length e5] 39)
  replace h1 := h1.below (below_self_alloc w4 (.cells #[.int .i64 m1, .slice p5 gs1.length e5] 39))
  replace h2 := h2.below (below_self_alloc w4 (.cells #[.int .i64 m1, .slice p5 gs1.length e5] 39))
  replace q5 := q5.below (below_self_alloc w4 (.cells #[.int .i64 m1, .slice p5 gs1.length e5] 39))
  replace K := below_step K (.cells #[.int .i64 m1, .slice p5 gs1.length e5] 39)
  have C := blk_new w4 (.int .i64 m1) (.slice p5 gs1.length e5) 39
  obtain ⟨A0, A1, A2⟩ := A.cells
  obtain ⟨B0, B1, B2⟩ := B.cells
  obtain ⟨C0, C1, C2⟩ := C.cells
  go_wp2_with fail
  refine (toNet_any m2 _ gs2 _ h2 hn2).mono ?_; rintro e w5 ⟨v6, rfl, o6, hb⟩
  obtain ⟨p6, e6, rfl, _⟩ := RowS.of_own (by omega) o6
  clear A0 A1 A2 B0 B1 B2 C0 C1 C2
  clear nA nB
  replace A := A.keep hb
  replace B := B.keep hb
  replace C := C.keep hb
  replace h1 := h1.below hb
  replace h2 := h2.below hb
  replace q5 := q5.below hb
  replace K := below_two K hb
  clear hb
  have q6 := gates_own o6
  clear o6
  have nA : ¬ w.heap.size = w5.heap.size := Nat.ne_of_lt A.lt
  have nB : ¬ (w.heap.size + 1) = w5.heap.size := Nat.ne_of_lt B.lt
  have nC : ¬ w4.heap.size = w5.heap.size := Nat.ne_of_lt C.lt
  replace A := A.alloc (.cells #[.int .i64 m2, .slice p6 gs2.length e6] 39)
  replace B := B.alloc (.cells #[.int .i64 m2, .slice p6 gs2.length e6] 39)
  replace C := C.alloc (.cells #[.int .i64 m2, .slice p6 gs2.length e6] 39)
  replace h1 := h1.below (below_self_alloc w5 (.cells #[.int .i64 m2, .slice p6 gs2.length e6] 39))
  replace h2 := h2.below (below_self_alloc w5 (.cells #[.int .i64 m2, .slice p6 gs2.length e6] 39))
  replace q5 := q5.below (below_self_alloc w5 (.cells #[.int .i64 m2, .slice p6 gs2.length e6] 39))
  replace q6 := q6.below (below_self_alloc w5 (.cells #[.int .i64 m2, .slice p6 gs2.length e6] 39))
  replace K := below_step K (.cells #[.int .i64 m2, .slice p6 gs2.length e6] 39)
  have D := blk_new w5 (.int .i64 m2) (.slice p6 gs2.length e6) 39
  obtain ⟨A0, A1, A2⟩ := A.cells
  obtain ⟨B0, B1, B2⟩ := B.cells
  obtain ⟨C0, C1, C2⟩ := C.cells
  obtain ⟨D0, D1, D2⟩ := D.cells
  go_wp2_with fail
  refine (netSame_impl m1 _ gs1 m2 _ gs2 _ q5 q6).mono ?_; rintro e w6 ⟨rfl, hb⟩
  clear A0 A1 A2 B0 B1 B2 C0 C1 C2 D0 D1 D2
  clear nA nB nC
  replace A := A.keep hb
  replace B := B.keep hb
  replace C := C.keep hb
  replace D := D.keep hb
  replace h1 := h1.below hb
  replace h2 := h2.below hb
  replace q5 := q5.below hb
  replace q6 := q6.below hb
  replace K := below_two K hb
  clear hb
  obtain ⟨A0, A1, A2⟩ := A.cells
  obtain ⟨B0, B1, B2⟩ := B.cells
  obtain ⟨C0, C1, C2⟩ := C.cells
  obtain ⟨D0, D1, D2⟩ := D.cells
  go_wp2_with fail
  clear A0 A1 A2 B0 B1 B2 C0 C1 C2 D0 D1 D2
  replace A := A.drew
  replace B := B.drew
  replace C := C.drew
  replace D := D.drew
  replace h1 := h1.drew
  replace h2 := h2.drew
  replace q5 := q5.drew
  replace q6 := q6.drew
  replace K := K.drew
  have sS := And.intro (And.intro C.cells.1 (C.cells.2.1)) (And.intro A.cells.1 (A.cells.2.1))
  first
    | (go_region_held3 (fun wx : World => (wx.cell? ⟨w4.heap.size, 0, none⟩ = some (.int .i64 m1) ∧ wx.cell? ⟨w4.heap.size, 1, none⟩ = some (.slice p5 gs1.length e5)) ∧ (wx.cell? ⟨w.heap.size, 0, none⟩ = some (.int .i64 m1) ∧ wx.cell? ⟨w.heap.size, 1, none⟩ = some (.slice a1 gs1.length c1))) (first | (with_reducible assumption)) (first | (go_at_call 19; (with_reducible refine (toNet_any m1 _ gs1 _ h1 hn1).mono ?_); rintro e w7 ⟨v7, rfl, o7, hb⟩; obtain ⟨p7, e7, rfl, _⟩ := RowS.of_own (by omega) o7; replace A := A.keep hb; replace B := B.keep hb; replace C := C.keep hb; replace D := D.keep hb; replace h1 := h1.below hb; replace h2 := h2.below hb; replace q5 := q5.below hb; replace q6 := q6.below hb; replace K := below_two K hb; clear hb; have q7 := gates_own o7; clear o7; replace sS := And.intro (And.intro C.cells.1 (C.cells.2.1)) (And.intro A.cells.1 (A.cells.2.1))) | (go_at_call 21; (with_reducible refine (eqNet_same m1 _ gs1 _ _ q5 q7).mono ?_); rintro e w7 ⟨rfl, hb⟩; replace A := A.keep hb; replace B := B.keep hb; replace C := C.keep hb; replace D := D.keep hb; replace h1 := h1.below hb; replace h2 := h2.below hb; replace q5 := q5.below hb; replace q6 := q6.below hb; replace q7 := q7.below hb; replace K := below_two K hb; clear hb; replace sS := And.intro (And.intro C.cells.1 (C.cells.2.1)) (And.intro A.cells.1 (A.cells.2.1)))))
    | fail
  clear sS
  obtain ⟨A0, A1, A2⟩ := A.cells
  obtain ⟨B0, B1, B2⟩ := B.cells
  obtain ⟨C0, C1, C2⟩ := C.cells
  obtain ⟨D0, D1, D2⟩ := D.cells
  go_wp2_with fail
  clear A0 A1 A2 B0 B1 B2 C0 C1 C2 D0 D1 D2
  replace A := A.drew
  replace B := B.drew
  replace C := C.drew
  replace D := D.drew
  replace h1 := h1.drew
  replace h2 := h2.drew
  replace q5 := q5.drew
  replace q6 := q6.drew
  replace q7 := q7.drew
  replace K := K.drew
  have sS := And.intro (And.intro D.cells.1 (D.cells.2.1)) (And.intro B.cells.1 (B.cells.2.1))
  first
    | (go_region_held3 (fun wx : World => (wx.cell? ⟨w5.heap.size, 0, none⟩ = some (.int .i64 m2) ∧ wx.cell? ⟨w5.heap.size, 1, none⟩ = some (.slice p6 gs2.length e6)) ∧ (wx.cell? ⟨(w.heap.size + 1), 0, none⟩ = some (.int .i64 m2) ∧ wx.cell? ⟨(w.heap.size + 1), 1, none⟩ = some (.slice a2 gs2.length c2))) (first | (with_reducible assumption)) (first | (go_at_call 19; (with_reducible refine (toNet_any m2 _ gs2 _ h2 hn2).mono ?_); rintro e w8 ⟨v8, rfl, o8, hb⟩; obtain ⟨p8, e8, rfl, _⟩ := RowS.of_own (by omega) o8; replace A := A.keep hb; replace B := B.keep hb; replace C := C.keep hb; replace D := D.keep hb; replace h1 := h1.below hb; replace h2 := h2.below hb; replace q5 := q5.below hb; replace q6 := q6.below hb; replace q7 := q7.below hb; replace K := below_two K hb; clear hb; have q8 := gates_own o8; clear o8; replace sS := And.intro (And.intro D.cells.1 (D.cells.2.1)) (And.intro B.cells.1 (B.cells.2.1))) | (go_at_call 21; (with_reducible refine (eqNet_same m2 _ gs2 _ _ q6 q8).mono ?_); rintro e w8 ⟨rfl, hb⟩; replace A := A.keep hb; replace B := B.keep hb; replace C := C.keep hb; replace D := D.keep hb; replace h1 := h1.below hb; replace h2 := h2.below hb; replace q5 := q5.below hb; replace q6 := q6.below hb; replace q7 := q7.below hb; replace q8 := q8.below hb; replace K := below_two K hb; clear hb; replace sS := And.intro (And.intro D.cells.1 (D.cells.2.1)) (And.intro B.cells.1 (B.cells.2.1)))))
    | fail
  clear sS
  obtain ⟨A0, A1, A2⟩ := A.cells
  obtain ⟨B0, B1, B2⟩ := B.cells
  obtain ⟨C0, C1, C2⟩ := C.cells
  obtain ⟨D0, D1, D2⟩ := D.cells
  go_wp2_with fail
  go_ret
  exact ⟨rfl, K⟩
end Go.Proofs.Yteeaafdgkepaeaa
