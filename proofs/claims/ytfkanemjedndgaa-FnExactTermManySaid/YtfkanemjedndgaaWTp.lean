/- The walk of FnExactTermMany: for all arguments the law returns true and leaves alone what was there. -/
import Derived.Test.YtfkanemjedndgaaTp
import Derived.Deep.DeepCutAuto
namespace Go.Proofs.Ytfkanemjedndgaa
open Go.RowKit

set_option linter.unusedVariables false in
set_option maxRecDepth 20000 in
set_option maxHeartbeats 8000000 in
theorem walk_FnExactTermMany (o1 a1 b1 : Int) (nm1 : ByteArray) (s1 : Value) (d1 : Nat) (ks1 : List Tm) (hn1 : nm1.size ≤ 9223372036854775807) {w : World} (h1 : SIn d1 w s1 ks1) :
    Calls Try.prog 4 #[.agg #[.int .i64 o1, .int .i64 a1, .int .i64 b1, .string nm1, s1]] w fun e w' => e = .returned (.bool true) ∧ Below w.heap.size w w' := by
  obtain ⟨sa1, sc1, z1, _⟩ := h1.form
  subst z1
  go_enter Try.func4, Try.ntmps4
  go_wp2_with fail
  replace h1 := h1.below (below_self_alloc w (.cells #[.int .i64 o1, .int .i64 a1, .int .i64 b1, .string nm1, .slice sa1 ks1.length sc1] 24))
  have K := below_self_alloc w (.cells #[.int .i64 o1, .int .i64 a1, .int .i64 b1, .string nm1, .slice sa1 ks1.length sc1] 24)
  have A := blk5_new w (.int .i64 o1) (.int .i64 a1) (.int .i64 b1) (.string nm1) (.slice sa1 ks1.length sc1) 24
  obtain ⟨A0, A1, A2, A3, A4, A5⟩ := A.cells
  refine (szTerm_of (szTermS_any d1) o1 a1 b1 nm1 _ ks1 1048576 _ h1 hn1 (by omega) (by omega)).mono ?_; rintro e w1 ⟨r1, rfl, r10, r11, hs1, hb⟩
  clear A0 A1 A2 A3 A4 A5
  replace A := A.keep hb
  replace h1 := h1.below hb
  replace K := below_two K hb
  clear hb
  have HS1 := Lib.hid hs1
  clear hs1
  obtain ⟨A0, A1, A2, A3, A4, A5⟩ := A.cells
  by_cases hr1 : r1 < 0
  · go_wp2_with fail
    go_ret
    exact ⟨rfl, K⟩
  have sm1 := Lib.hid (HS1.out (by omega))
  clear HS1
  go_wp2_with fail
  refine (toTerm_of (toTermS_any d1) o1 a1 b1 nm1 _ ks1 _ h1 sm1.out).mono ?_; rintro e w2 ⟨s3, rfl, K3, hb⟩
  obtain ⟨p3, e3, z3, _⟩ := K3.now.form
  subst z3
  clear A0 A1 A2 A3 A4 A5
  replace A := A.keep hb
  replace h1 := h1.below hb
  replace K := below_two K hb
  clear hb
  have q3 := K3.now
  clear K3
  obtain ⟨A0, A1, A2, A3, A4, A5⟩ := A.cells
  go_wp2_with fail
  refine (termMany_spec d1 o1 a1 b1 nm1 _ ks1 _ q3).mono ?_; rintro e w3 ⟨c1, c2, rfl, c10, c11, c20, c21, T1, hb⟩
  clear A0 A1 A2 A3 A4 A5
  replace A := A.keep hb
  replace h1 := h1.below hb
  replace q3 := q3.below hb
  replace K := below_two K hb
  clear hb
  replace T1 := Lib.hid T1
  obtain ⟨A0, A1, A2, A3, A4, A5⟩ := A.cells
  go_wp2_with fail
  clear A0 A1 A2 A3 A4 A5
  clear q3
  refine (toTerm_of (toTermS_any d1) o1 a1 b1 nm1 _ ks1 _ h1 sm1.out).mono ?_; rintro e w4 ⟨s5, rfl, K5, hb⟩
  obtain ⟨p5, e5, z5, _⟩ := K5.now.form
  subst z5
  replace A := A.keep hb
  replace h1 := h1.below hb
  replace K := below_two K hb
  clear hb
  have q5 := K5.now
  clear K5
  have nA : ¬ w.heap.size = w4.heap.size := Nat.ne_of_lt A.lt
  replace A := A.alloc (.cells #[.int .i64 o1, .int .i64 a1, .int .i64 b1, .string nm1, .slice p5 ks1.length e5] 29)
  replace h1 := h1.below (below_self_alloc w4 (.cells #[.int .i64 o1, .int .i64 a1, .int .i64 b1, .string nm1, .slice p5 ks1.length e5] 29))
  replace q5 := q5.below (below_self_alloc w4 (.cells #[.int .i64 o1, .int .i64 a1, .int .i64 b1, .string nm1, .slice p5 ks1.length e5] 29))
  replace K := below_step K (.cells #[.int .i64 o1, .int .i64 a1, .int .i64 b1, .string nm1, .slice p5 ks1.length e5] 29)
  have C := blk5_new w4 (.int .i64 o1) (.int .i64 a1) (.int .i64 b1) (.string nm1) (.slice p5 ks1.length e5) 29
  obtain ⟨A0, A1, A2, A3, A4, A5⟩ := A.cells
  obtain ⟨C0, C1, C2, C3, C4, C5⟩ := C.cells
  go_wp2_with fail
  refine (termMany_impl d1 o1 a1 b1 nm1 _ ks1 _ q5).mono ?_; rintro e w5 ⟨c3, c4, rfl, c30, c31, c40, c41, T2, hb⟩
  obtain ⟨rfl, rfl⟩ := TMV.one T1.out T2
  clear T1 T2
  clear A0 A1 A2 A3 A4 A5 C0 C1 C2 C3 C4 C5
  clear nA
  replace A := A.keep hb
  replace C := C.keep hb
  replace h1 := h1.below hb
  replace q5 := q5.below hb
  replace K := below_two K hb
  clear hb
  obtain ⟨A0, A1, A2, A3, A4, A5⟩ := A.cells
  obtain ⟨C0, C1, C2, C3, C4, C5⟩ := C.cells
  go_wp2_with fail
  clear A0 A1 A2 A3 A4 A5 C0 C1 C2 C3 C4 C5
  replace A := A.drew
  replace C := C.drew
  replace h1 := h1.drew
  replace q5 := q5.drew
  replace K := K.drew
  have sS := And.intro (And.intro C.cells.1 (And.intro C.cells.2.1 (And.intro C.cells.2.2.1 (And.intro C.cells.2.2.2.1 (C.cells.2.2.2.2.1))))) (And.intro A.cells.1 (And.intro A.cells.2.1 (And.intro A.cells.2.2.1 (And.intro A.cells.2.2.2.1 (A.cells.2.2.2.2.1)))))
  first
    | (go_region_held3 (fun wx : World => (wx.cell? ⟨w4.heap.size, 0, none⟩ = some (.int .i64 o1) ∧ wx.cell? ⟨w4.heap.size, 1, none⟩ = some (.int .i64 a1) ∧ wx.cell? ⟨w4.heap.size, 2, none⟩ = some (.int .i64 b1) ∧ wx.cell? ⟨w4.heap.size, 3, none⟩ = some (.string nm1) ∧ wx.cell? ⟨w4.heap.size, 4, none⟩ = some (.slice p5 ks1.length e5)) ∧ (wx.cell? ⟨w.heap.size, 0, none⟩ = some (.int .i64 o1) ∧ wx.cell? ⟨w.heap.size, 1, none⟩ = some (.int .i64 a1) ∧ wx.cell? ⟨w.heap.size, 2, none⟩ = some (.int .i64 b1) ∧ wx.cell? ⟨w.heap.size, 3, none⟩ = some (.string nm1) ∧ wx.cell? ⟨w.heap.size, 4, none⟩ = some (.slice sa1 ks1.length sc1))) (first | (with_reducible assumption)) (first | (go_at_call 9; (with_reducible refine (toTerm_of (toTermS_any d1) o1 a1 b1 nm1 _ ks1 _ h1 sm1.out).mono ?_); rintro e w6 ⟨s7, rfl, K7, hb⟩; obtain ⟨p7, e7, z7, _⟩ := K7.now.form; subst z7; replace A := A.keep hb; replace C := C.keep hb; replace h1 := h1.below hb; replace q5 := q5.below hb; replace K := below_two K hb; clear hb; have q7 := K7.now; clear K7; replace sS := And.intro (And.intro C.cells.1 (And.intro C.cells.2.1 (And.intro C.cells.2.2.1 (And.intro C.cells.2.2.2.1 (C.cells.2.2.2.2.1))))) (And.intro A.cells.1 (And.intro A.cells.2.1 (And.intro A.cells.2.2.1 (And.intro A.cells.2.2.2.1 (A.cells.2.2.2.2.1)))))) | (go_at_call 11; (with_reducible refine (eqTerm_of (eqTermS_any d1 d1) o1 a1 b1 nm1 _ ks1 o1 a1 b1 nm1 _ ks1 _ q5 q7).mono ?_); rintro e w6 ⟨rfl, hb⟩; rw [eqv_true rfl]; replace A := A.keep hb; replace C := C.keep hb; replace h1 := h1.below hb; replace q5 := q5.below hb; replace q7 := q7.below hb; replace K := below_two K hb; clear hb; replace sS := And.intro (And.intro C.cells.1 (And.intro C.cells.2.1 (And.intro C.cells.2.2.1 (And.intro C.cells.2.2.2.1 (C.cells.2.2.2.2.1))))) (And.intro A.cells.1 (And.intro A.cells.2.1 (And.intro A.cells.2.2.1 (And.intro A.cells.2.2.2.1 (A.cells.2.2.2.2.1))))))))
    | fail
  clear sS
  obtain ⟨A0, A1, A2, A3, A4, A5⟩ := A.cells
  obtain ⟨C0, C1, C2, C3, C4, C5⟩ := C.cells
  go_wp2_with fail
  go_ret
  exact ⟨rfl, K⟩
end Go.Proofs.Ytfkanemjedndgaa
