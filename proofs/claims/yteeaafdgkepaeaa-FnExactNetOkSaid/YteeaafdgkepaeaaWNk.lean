/- The walk of FnExactNetOk: for all arguments the law returns true and leaves alone what was there. -/
import Derived.Test.YteeaafdgkepaeaaNd
import Derived.Test.YteeaafdgkepaeaaNo
import Derived.Deep.DeepCutAuto
namespace Go.Proofs.Yteeaafdgkepaeaa
open Go.RowKit

set_option linter.unusedVariables false in
set_option maxRecDepth 20000 in
set_option maxHeartbeats 8000000 in
theorem walk_FnExactNetOk (m1 : Int) (wm1 : (Lit.int .i64 m1).wf = true) (v1 : Value) (gs1 : List Gt) (wl1 : ∀ i, i < gs1.length → gtWf (gs1.getD i gz)) {w : World} (h1 : Gates w v1 gs1) :
    Calls Try.prog 6 #[.agg #[.int .i64 m1, v1]] w fun e w' => e = .returned (.bool true) ∧ Below w.heap.size w w' := by
  have hl1 := h1.len
  obtain ⟨a1, c1, rfl⟩ := h1.form
  by_cases hz1 : 1048576 < (gs1.length : Int)
  · have D1 := fun w' h => szNet_any m1 (.slice a1 gs1.length c1) gs1 (1048576) w' h (by omega) (by omega)
    simp only [if_pos hz1] at D1
    replace D1 := Lib.hid D1
    go_enter Try.func6, Try.ntmps6
    go_wp2_with fail
    replace h1 := h1.below (below_self_alloc w (.cells #[.int .i64 m1, .slice a1 gs1.length c1] 34))
    have K := below_self_alloc w (.cells #[.int .i64 m1, .slice a1 gs1.length c1] 34)
    have A := blk_new w (.int .i64 m1) (.slice a1 gs1.length c1) 34
    obtain ⟨A0, A1, A2⟩ := A.cells
    refine (D1.out _ h1).mono ?_; rintro e w1 ⟨rfl, hb⟩
    clear A0 A1 A2
    replace A := A.keep hb
    replace h1 := h1.below hb
    replace K := below_two K hb
    clear hb
    obtain ⟨A0, A1, A2⟩ := A.cells
    go_wp2_with fail
    go_ret
    exact ⟨rfl, K⟩
  have D1 := fun w' h => szNet_any m1 (.slice a1 gs1.length c1) gs1 (1048576) w' h (by omega) (by omega)
  simp only [if_neg hz1] at D1
  replace D1 := Lib.hid D1
  have hn1 : gs1.length ≤ 1048576 := by omega
  go_enter Try.func6, Try.ntmps6
  go_wp2_with fail
  replace h1 := h1.below (below_self_alloc w (.cells #[.int .i64 m1, .slice a1 gs1.length c1] 34))
  have K := below_self_alloc w (.cells #[.int .i64 m1, .slice a1 gs1.length c1] 34)
  have A := blk_new w (.int .i64 m1) (.slice a1 gs1.length c1) 34
  obtain ⟨A0, A1, A2⟩ := A.cells
  refine (D1.out _ h1).mono ?_; rintro e w1 ⟨rfl, hb⟩
  clear A0 A1 A2
  replace A := A.keep hb
  replace h1 := h1.below hb
  replace K := below_two K hb
  clear hb
  obtain ⟨A0, A1, A2⟩ := A.cells
  clear D1 hl1
  go_wp2_with fail
  refine (toNet_any m1 _ gs1 _ h1 hn1).mono ?_; rintro e w2 ⟨v2, rfl, o2, hb⟩
  obtain ⟨p2, e2, rfl, _⟩ := RowS.of_own (by omega) o2
  clear A0 A1 A2
  replace A := A.keep hb
  replace h1 := h1.below hb
  replace K := below_two K hb
  clear hb
  have q2 := gates_own o2
  clear o2
  obtain ⟨A0, A1, A2⟩ := A.cells
  go_wp2_with fail
  refine (netOk_spec m1 _ gs1 _ q2).mono ?_; rintro e w3 ⟨rfl, hb⟩
  clear A0 A1 A2
  replace A := A.keep hb
  replace h1 := h1.below hb
  replace q2 := q2.below hb
  replace K := below_two K hb
  clear hb
  obtain ⟨A0, A1, A2⟩ := A.cells
  go_wp2_with fail
  clear A0 A1 A2
  clear q2
  obtain ⟨A0, A1, A2⟩ := A.cells
  refine (toNet_any m1 _ gs1 _ h1 hn1).mono ?_; rintro e w4 ⟨v3, rfl, o3, hb⟩
  obtain ⟨p3, e3, rfl, _⟩ := RowS.of_own (by omega) o3
  clear A0 A1 A2
  replace A := A.keep hb
  replace h1 := h1.below hb
  replace K := below_two K hb
  clear hb
  have q3 := gates_own o3
  have n3 := nilOrB_own o3
  clear o3
  have nA : ¬ w.heap.size = w4.heap.size := Nat.ne_of_lt A.lt
  replace A := A.alloc (.cells #[.int .i64 m1, .slice p3 gs1.length e3] 39)
  replace h1 := h1.below (below_self_alloc w4 (.cells #[.int .i64 m1, .slice p3 gs1.length e3] 39))
  replace q3 := q3.below (below_self_alloc w4 (.cells #[.int .i64 m1, .slice p3 gs1.length e3] 39))
  replace K := below_step K (.cells #[.int .i64 m1, .slice p3 gs1.length e3] 39)
  have C := blk_new w4 (.int .i64 m1) (.slice p3 gs1.length e3) 39
  obtain ⟨A0, A1, A2⟩ := A.cells
  obtain ⟨C0, C1, C2⟩ := C.cells
  go_wp2_with fail
  refine (netOk_impl m1 _ gs1 _ q3 n3 wl1).mono ?_; rintro e w5 ⟨rfl, hb⟩
  clear A0 A1 A2 C0 C1 C2
  clear nA
  replace A := A.keep hb
  replace C := C.keep hb
  replace h1 := h1.below hb
  replace q3 := q3.below hb
  replace K := below_two K hb
  clear hb
  obtain ⟨A0, A1, A2⟩ := A.cells
  obtain ⟨C0, C1, C2⟩ := C.cells
  go_wp2_with fail
  clear A0 A1 A2 C0 C1 C2
  replace A := A.drew
  replace C := C.drew
  replace h1 := h1.drew
  replace q3 := q3.drew
  replace K := K.drew
  have sS := And.intro (And.intro C.cells.1 (C.cells.2.1)) (And.intro A.cells.1 (A.cells.2.1))
  first
    | (go_region_held3 (fun wx : World => (wx.cell? ⟨w4.heap.size, 0, none⟩ = some (.int .i64 m1) ∧ wx.cell? ⟨w4.heap.size, 1, none⟩ = some (.slice p3 gs1.length e3)) ∧ (wx.cell? ⟨w.heap.size, 0, none⟩ = some (.int .i64 m1) ∧ wx.cell? ⟨w.heap.size, 1, none⟩ = some (.slice a1 gs1.length c1))) (first | (with_reducible assumption)) (first | (go_at_call 19; (with_reducible refine (toNet_any m1 _ gs1 _ h1 hn1).mono ?_); rintro e w6 ⟨v4, rfl, o4, hb⟩; obtain ⟨p4, e4, rfl, _⟩ := RowS.of_own (by omega) o4; replace A := A.keep hb; replace C := C.keep hb; replace h1 := h1.below hb; replace q3 := q3.below hb; replace K := below_two K hb; clear hb; have q4 := gates_own o4; clear o4; replace sS := And.intro (And.intro C.cells.1 (C.cells.2.1)) (And.intro A.cells.1 (A.cells.2.1))) | (go_at_call 21; (with_reducible refine (eqNet_same m1 _ gs1 _ _ q3 q4).mono ?_); rintro e w6 ⟨rfl, hb⟩; replace A := A.keep hb; replace C := C.keep hb; replace h1 := h1.below hb; replace q3 := q3.below hb; replace q4 := q4.below hb; replace K := below_two K hb; clear hb; replace sS := And.intro (And.intro C.cells.1 (C.cells.2.1)) (And.intro A.cells.1 (A.cells.2.1)))))
    | fail
  clear sS
  obtain ⟨A0, A1, A2⟩ := A.cells
  obtain ⟨C0, C1, C2⟩ := C.cells
  go_wp2_with fail
  go_ret
  exact ⟨rfl, K⟩
end Go.Proofs.Yteeaafdgkepaeaa
