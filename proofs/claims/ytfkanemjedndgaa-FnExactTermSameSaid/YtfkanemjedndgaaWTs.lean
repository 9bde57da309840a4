/- The walk of FnExactTermSame: for all arguments the law returns true and leaves alone what was there. -/
import Derived.Test.YtfkanemjedndgaaTe
import Derived.Deep.DeepCutAuto
namespace Go.Proofs.Ytfkanemjedndgaa
open Go.RowKit

set_option linter.unusedVariables false in
set_option maxRecDepth 20000 in
set_option maxHeartbeats 8000000 in
theorem walk_FnExactTermSame (o1 a1 b1 : Int) (nm1 : ByteArray) (s1 : Value) (d1 : Nat) (ks1 : List Tm) (hn1 : nm1.size ≤ 9223372036854775807) (o2 a2 b2 : Int) (nm2 : ByteArray) (s2 : Value) (d2 : Nat) (ks2 : List Tm) (hn2 : nm2.size ≤ 9223372036854775807) {w : World} (h1 : SIn d1 w s1 ks1) (h2 : SIn d2 w s2 ks2) :
    Calls Try.prog 3 #[.agg #[.int .i64 o1, .int .i64 a1, .int .i64 b1, .string nm1, s1], .agg #[.int .i64 o2, .int .i64 a2, .int .i64 b2, .string nm2, s2]] w fun e w' => e = .returned (.bool true) ∧ Below w.heap.size w w' := by
  obtain ⟨sa1, sc1, z1, _⟩ := h1.form
  subst z1
  obtain ⟨sa2, sc2, z2, _⟩ := h2.form
  subst z2
  go_enter Try.func3, Try.ntmps3
  go_wp2_with fail
  replace h1 := h1.below (below_step (below_self_alloc w (.cells #[.int .i64 o1, .int .i64 a1, .int .i64 b1, .string nm1, .slice sa1 ks1.length sc1] 24)) (.cells #[.int .i64 o2, .int .i64 a2, .int .i64 b2, .string nm2, .slice sa2 ks2.length sc2] 24))
  replace h2 := h2.below (below_step (below_self_alloc w (.cells #[.int .i64 o1, .int .i64 a1, .int .i64 b1, .string nm1, .slice sa1 ks1.length sc1] 24)) (.cells #[.int .i64 o2, .int .i64 a2, .int .i64 b2, .string nm2, .slice sa2 ks2.length sc2] 24))
  have K := below_step (below_self_alloc w (.cells #[.int .i64 o1, .int .i64 a1, .int .i64 b1, .string nm1, .slice sa1 ks1.length sc1] 24)) (.cells #[.int .i64 o2, .int .i64 a2, .int .i64 b2, .string nm2, .slice sa2 ks2.length sc2] 24)
  have A := (blk5_new w (.int .i64 o1) (.int .i64 a1) (.int .i64 b1) (.string nm1) (.slice sa1 ks1.length sc1) 24).alloc (.cells #[.int .i64 o2, .int .i64 a2, .int .i64 b2, .string nm2, .slice sa2 ks2.length sc2] 24)
  have B := blk5_new1 w (.cells #[.int .i64 o1, .int .i64 a1, .int .i64 b1, .string nm1, .slice sa1 ks1.length sc1] 24) (.int .i64 o2) (.int .i64 a2) (.int .i64 b2) (.string nm2) (.slice sa2 ks2.length sc2) 24
  obtain ⟨A0, A1, A2, A3, A4, A5⟩ := A.cells
  obtain ⟨B0, B1, B2, B3, B4, B5⟩ := B.cells
  refine (szTerm_of (szTermS_any d1) o1 a1 b1 nm1 _ ks1 1048576 _ h1 hn1 (by omega) (by omega)).mono ?_; rintro e w1 ⟨r1, rfl, r10, r11, hs1, hb⟩
  clear A0 A1 A2 A3 A4 A5 B0 B1 B2 B3 B4 B5
  replace A := A.keep hb
  replace B := B.keep hb
  replace h1 := h1.below hb
  replace h2 := h2.below hb
  replace K := below_two K hb
  clear hb
  have HS1 := Lib.hid hs1
  clear hs1
  obtain ⟨A0, A1, A2, A3, A4, A5⟩ := A.cells
  obtain ⟨B0, B1, B2, B3, B4, B5⟩ := B.cells
  by_cases hr1 : r1 < 0
  · go_wp2_with fail
    go_ret
    exact ⟨rfl, K⟩
  have sm1 := Lib.hid (HS1.out (by omega))
  clear HS1
  go_wp2_with fail
  refine (szTerm_of (szTermS_any d2) o2 a2 b2 nm2 _ ks2 r1 _ h2 hn2 (by omega) (by omega)).mono ?_; rintro e w2 ⟨r2, rfl, r20, r21, hs2, hb⟩
  clear A0 A1 A2 A3 A4 A5 B0 B1 B2 B3 B4 B5
  replace A := A.keep hb
  replace B := B.keep hb
  replace h1 := h1.below hb
  replace h2 := h2.below hb
  replace K := below_two K hb
  clear hb
  have HS2 := Lib.hid hs2
  clear hs2
  obtain ⟨A0, A1, A2, A3, A4, A5⟩ := A.cells
  obtain ⟨B0, B1, B2, B3, B4, B5⟩ := B.cells
  by_cases hr2 : r2 < 0
  · go_wp2_with fail
    go_ret
    exact ⟨rfl, K⟩
  have sm2 := Lib.hid (HS2.out (by omega))
  clear HS2
  go_wp2_with fail
  clear A0 A1 A2 A3 A4 A5 B0 B1 B2 B3 B4 B5
  replace A := A.drew
  replace B := B.drew
  replace h1 := h1.drew
  replace h2 := h2.drew
  replace K := K.drew
  have sS := And.intro (And.intro A.cells.1 (And.intro A.cells.2.1 (And.intro A.cells.2.2.1 (And.intro A.cells.2.2.2.1 (A.cells.2.2.2.2.1))))) (And.intro B.cells.1 (And.intro B.cells.2.1 (And.intro B.cells.2.2.1 (And.intro B.cells.2.2.2.1 (B.cells.2.2.2.2.1)))))
  first
    | (go_region_held3 (fun wx : World => (wx.cell? ⟨w.heap.size, 0, none⟩ = some (.int .i64 o1) ∧ wx.cell? ⟨w.heap.size, 1, none⟩ = some (.int .i64 a1) ∧ wx.cell? ⟨w.heap.size, 2, none⟩ = some (.int .i64 b1) ∧ wx.cell? ⟨w.heap.size, 3, none⟩ = some (.string nm1) ∧ wx.cell? ⟨w.heap.size, 4, none⟩ = some (.slice sa1 ks1.length sc1)) ∧ (wx.cell? ⟨(w.heap.size + 1), 0, none⟩ = some (.int .i64 o2) ∧ wx.cell? ⟨(w.heap.size + 1), 1, none⟩ = some (.int .i64 a2) ∧ wx.cell? ⟨(w.heap.size + 1), 2, none⟩ = some (.int .i64 b2) ∧ wx.cell? ⟨(w.heap.size + 1), 3, none⟩ = some (.string nm2) ∧ wx.cell? ⟨(w.heap.size + 1), 4, none⟩ = some (.slice sa2 ks2.length sc2))) (first | (with_reducible assumption)) (first | (go_at_call 9; (with_reducible refine (toTerm_of (toTermS_any d1) o1 a1 b1 nm1 _ ks1 _ h1 sm1.out).mono ?_); rintro e w3 ⟨s3, rfl, K3, hb⟩; obtain ⟨p3, e3, z3, _⟩ := K3.now.form; subst z3; replace A := A.keep hb; replace B := B.keep hb; replace h1 := h1.below hb; replace h2 := h2.below hb; replace K := below_two K hb; clear hb; have q3 := K3.now; clear K3; replace sS := And.intro (And.intro A.cells.1 (And.intro A.cells.2.1 (And.intro A.cells.2.2.1 (And.intro A.cells.2.2.2.1 (A.cells.2.2.2.2.1))))) (And.intro B.cells.1 (And.intro B.cells.2.1 (And.intro B.cells.2.2.1 (And.intro B.cells.2.2.2.1 (B.cells.2.2.2.2.1)))))) | (go_at_call 9; (with_reducible refine (toTerm_of (toTermS_any d2) o2 a2 b2 nm2 _ ks2 _ h2 sm2.out).mono ?_); rintro e w3 ⟨s4, rfl, K4, hb⟩; obtain ⟨p4, e4, z4, _⟩ := K4.now.form; subst z4; replace A := A.keep hb; replace B := B.keep hb; replace h1 := h1.below hb; replace h2 := h2.below hb; replace q3 := q3.below hb; replace K := below_two K hb; clear hb; have q4 := K4.now; clear K4; replace sS := And.intro (And.intro A.cells.1 (And.intro A.cells.2.1 (And.intro A.cells.2.2.1 (And.intro A.cells.2.2.2.1 (A.cells.2.2.2.2.1))))) (And.intro B.cells.1 (And.intro B.cells.2.1 (And.intro B.cells.2.2.1 (And.intro B.cells.2.2.2.1 (B.cells.2.2.2.2.1)))))) | (go_at_call 8; (with_reducible refine (termSame_spec d1 d2 o1 a1 b1 nm1 _ ks1 o2 a2 b2 nm2 _ ks2 _ q3 q4).mono ?_); rintro e w3 ⟨rfl, hb⟩; replace A := A.keep hb; replace B := B.keep hb; replace h1 := h1.below hb; replace h2 := h2.below hb; replace q3 := q3.below hb; replace q4 := q4.below hb; replace K := below_two K hb; clear hb; replace sS := And.intro (And.intro A.cells.1 (And.intro A.cells.2.1 (And.intro A.cells.2.2.1 (And.intro A.cells.2.2.2.1 (A.cells.2.2.2.2.1))))) (And.intro B.cells.1 (And.intro B.cells.2.1 (And.intro B.cells.2.2.1 (And.intro B.cells.2.2.2.1 (B.cells.2.2.2.2.1))))))))
    | fail
  clear sS
  obtain ⟨A0, A1, A2, A3, A4, A5⟩ := A.cells
  obtain ⟨B0, B1, B2, B3, B4, B5⟩ := B.cells
  go_wp2_with fail
  clear A0 A1 A2 A3 A4 A5 B0 B1 B2 B3 B4 B5
  clear q3 q4
  obtain ⟨A0, A1, A2, A3, A4, A5⟩ := A.cells
  obtain ⟨B0, B1, B2, B3, B4, B5⟩ := B.cells
  refine (toTerm_of (toTermS_any d1) o1 a1 b1 nm1 _ ks1 _ h1 sm1.out).mono ?_; rintro e w4 ⟨s5, rfl, K5, hb⟩
  obtain ⟨p5, e5, z5, _⟩ := K5.now.form
  subst z5
  clear A0 A1 A2 A3 A4 A5 B0 B1 B2 B3 B4 B5
  replace A := A.keep hb
  replace B := B.keep hb
  replace h1 := h1.below hb
  replace h2 := h2.below hb
  replace K := below_two K hb
  clear hb
  have q5 := K5.now
  clear K5
  have nA : ¬ w.heap.size = w4.heap.size := Nat.ne_of_lt A.lt
  have nB : ¬ (w.heap.size + 1) = w4.heap.size := Nat.ne_of_lt B.lt
  replace A := A.alloc (.cells #[.int .i64 o1, .int .i64 a1, .int .i64 b1, .string nm1, .slice p5 ks1.length e5] 29)
  replace B := B.alloc (.cells #[.int .i64 o1, .int .i64 a1, .int .i64 b1, .string nm1, .slice p5 ks1.length e5] 29)
  replace h1 := h1.below (below_self_alloc w4 (.cells #[.int .i64 o1, .int .i64 a1, .int .i64 b1, .string nm1, .slice p5 ks1.length e5] 29))
  replace h2 := h2.below (below_self_alloc w4 (.cells #[.int .i64 o1, .int .i64 a1, .int .i64 b1, .string nm1, .slice p5 ks1.length e5] 29))
  replace q5 := q5.below (below_self_alloc w4 (.cells #[.int .i64 o1, .int .i64 a1, .int .i64 b1, .string nm1, .slice p5 ks1.length e5] 29))
  replace K := below_step K (.cells #[.int .i64 o1, .int .i64 a1, .int .i64 b1, .string nm1, .slice p5 ks1.length e5] 29)
  have C := blk5_new w4 (.int .i64 o1) (.int .i64 a1) (.int .i64 b1) (.string nm1) (.slice p5 ks1.length e5) 29
  obtain ⟨A0, A1, A2, A3, A4, A5⟩ := A.cells
  obtain ⟨B0, B1, B2, B3, B4, B5⟩ := B.cells
  obtain ⟨C0, C1, C2, C3, C4, C5⟩ := C.cells
  go_wp2_with fail
  refine (toTerm_of (toTermS_any d2) o2 a2 b2 nm2 _ ks2 _ h2 sm2.out).mono ?_; rintro e w5 ⟨s6, rfl, K6, hb⟩
  obtain ⟨p6, e6, z6, _⟩ := K6.now.form
  subst z6
  clear A0 A1 A2 A3 A4 A5 B0 B1 B2 B3 B4 B5 C0 C1 C2 C3 C4 C5
  clear nA nB
  replace A := A.keep hb
  replace B := B.keep hb
  replace C := C.keep hb
  replace h1 := h1.below hb
  replace h2 := h2.below hb
  replace q5 := q5.below hb
  replace K := below_two K hb
  clear hb
  have q6 := K6.now
  clear K6
  have nA : ¬ w.heap.size = w5.heap.size := Nat.ne_of_lt A.lt
  have nB : ¬ (w.heap.size + 1) = w5.heap.size := Nat.ne_of_lt B.lt
  have nC : ¬ w4.heap.size = w5.heap.size := Nat.ne_of_lt C.lt
  replace A := A.alloc (.cells #[.int .i64 o2, .int .i64 a2, .int .i64 b2, .string nm2, .slice p6 ks2.length e6] 29)
  replace B := B.alloc (.cells #[.int .i64 o2, .int .i64 a2, .int .i64 b2, .string nm2, .slice p6 ks2.length e6] 29)
  replace C := C.alloc (.cells #[.int .i64 o2, .int .i64 a2, .int .i64 b2, .string nm2, .slice p6 ks2.length e6] 29)
  replace h1 := h1.below (below_self_alloc w5 (.cells #[.int .i64 o2, .int .i64 a2, .int .i64 b2, .string nm2, .slice p6 ks2.length e6] 29))
  replace h2 := h2.below (below_self_alloc w5 (.cells #[.int .i64 o2, .int .i64 a2, .int .i64 b2, .string nm2, .slice p6 ks2.length e6] 29))
  replace q5 := q5.below (below_self_alloc w5 (.cells #[.int .i64 o2, .int .i64 a2, .int .i64 b2, .string nm2, .slice p6 ks2.length e6] 29))
  replace q6 := q6.below (below_self_alloc w5 (.cells #[.int .i64 o2, .int .i64 a2, .int .i64 b2, .string nm2, .slice p6 ks2.length e6] 29))
  replace K := below_step K (.cells #[.int .i64 o2, .int .i64 a2, .int .i64 b2, .string nm2, .slice p6 ks2.length e6] 29)
  have D := blk5_new w5 (.int .i64 o2) (.int .i64 a2) (.int .i64 b2) (.string nm2) (.slice p6 ks2.length e6) 29
  obtain ⟨A0, A1, A2, A3, A4, A5⟩ := A.cells
  obtain ⟨B0, B1, B2, B3, B4, B5⟩ := B.cells
  obtain ⟨C0, C1, C2, C3, C4, C5⟩ := C.cells
  obtain ⟨D0, D1, D2, D3, D4, D5⟩ := D.cells
  go_wp2_with fail
  refine (termSame_of (equalFunc_any d1 d2) o1 a1 b1 nm1 _ ks1 o2 a2 b2 nm2 _ ks2 _ q5 q6).mono ?_; rintro e w6 ⟨rfl, hb⟩
  clear A0 A1 A2 A3 A4 A5 B0 B1 B2 B3 B4 B5 C0 C1 C2 C3 C4 C5 D0 D1 D2 D3 D4 D5
  clear nA nB nC
  replace A := A.keep hb
  replace B := B.keep hb
  replace C := C.keep hb
  replace D := D.keep hb
  replace h1 := h1.below hb
  replace h2 := h2.below hb
  replace q5 := q5.below hb
  replace q6 := q6.below hb
  replace K := below_two K hb
  clear hb
  obtain ⟨A0, A1, A2, A3, A4, A5⟩ := A.cells
  obtain ⟨B0, B1, B2, B3, B4, B5⟩ := B.cells
  obtain ⟨C0, C1, C2, C3, C4, C5⟩ := C.cells
  obtain ⟨D0, D1, D2, D3, D4, D5⟩ := D.cells
  go_wp2_with fail
  clear A0 A1 A2 A3 A4 A5 B0 B1 B2 B3 B4 B5 C0 C1 C2 C3 C4 C5 D0 D1 D2 D3 D4 D5
  replace A := A.drew
  replace B := B.drew
  replace C := C.drew
  replace D := D.drew
  replace h1 := h1.drew
  replace h2 := h2.drew
  replace q5 := q5.drew
  replace q6 := q6.drew
  replace K := K.drew
  have sS := And.intro (And.intro C.cells.1 (And.intro C.cells.2.1 (And.intro C.cells.2.2.1 (And.intro C.cells.2.2.2.1 (C.cells.2.2.2.2.1))))) (And.intro A.cells.1 (And.intro A.cells.2.1 (And.intro A.cells.2.2.1 (And.intro A.cells.2.2.2.1 (A.cells.2.2.2.2.1)))))
  first
    | (go_region_held3 (fun wx : World => (wx.cell? ⟨w4.heap.size, 0, none⟩ = some (.int .i64 o1) ∧ wx.cell? ⟨w4.heap.size, 1, none⟩ = some (.int .i64 a1) ∧ wx.cell? ⟨w4.heap.size, 2, none⟩ = some (.int .i64 b1) ∧ wx.cell? ⟨w4.heap.size, 3, none⟩ = some (.string nm1) ∧ wx.cell? ⟨w4.heap.size, 4, none⟩ = some (.slice p5 ks1.length e5)) ∧ (wx.cell? ⟨w.heap.size, 0, none⟩ = some (.int .i64 o1) ∧ wx.cell? ⟨w.heap.size, 1, none⟩ = some (.int .i64 a1) ∧ wx.cell? ⟨w.heap.size, 2, none⟩ = some (.int .i64 b1) ∧ wx.cell? ⟨w.heap.size, 3, none⟩ = some (.string nm1) ∧ wx.cell? ⟨w.heap.size, 4, none⟩ = some (.slice sa1 ks1.length sc1))) (first | (with_reducible assumption)) (first | (go_at_call 9; (with_reducible refine (toTerm_of (toTermS_any d1) o1 a1 b1 nm1 _ ks1 _ h1 sm1.out).mono ?_); rintro e w7 ⟨s7, rfl, K7, hb⟩; obtain ⟨p7, e7, z7, _⟩ := K7.now.form; subst z7; replace A := A.keep hb; replace B := B.keep hb; replace C := C.keep hb; replace D := D.keep hb; replace h1 := h1.below hb; replace h2 := h2.below hb; replace q5 := q5.below hb; replace q6 := q6.below hb; replace K := below_two K hb; clear hb; have q7 := K7.now; clear K7; replace sS := And.intro (And.intro C.cells.1 (And.intro C.cells.2.1 (And.intro C.cells.2.2.1 (And.intro C.cells.2.2.2.1 (C.cells.2.2.2.2.1))))) (And.intro A.cells.1 (And.intro A.cells.2.1 (And.intro A.cells.2.2.1 (And.intro A.cells.2.2.2.1 (A.cells.2.2.2.2.1)))))) | (go_at_call 11; (with_reducible refine (eqTerm_of (eqTermS_any d1 d1) o1 a1 b1 nm1 _ ks1 o1 a1 b1 nm1 _ ks1 _ q5 q7).mono ?_); rintro e w7 ⟨rfl, hb⟩; rw [eqv_true rfl]; replace A := A.keep hb; replace B := B.keep hb; replace C := C.keep hb; replace D := D.keep hb; replace h1 := h1.below hb; replace h2 := h2.below hb; replace q5 := q5.below hb; replace q6 := q6.below hb; replace q7 := q7.below hb; replace K := below_two K hb; clear hb; replace sS := And.intro (And.intro C.cells.1 (And.intro C.cells.2.1 (And.intro C.cells.2.2.1 (And.intro C.cells.2.2.2.1 (C.cells.2.2.2.2.1))))) (And.intro A.cells.1 (And.intro A.cells.2.1 (And.intro A.cells.2.2.1 (And.intro A.cells.2.2.2.1 (A.cells.2.2.2.2.1))))))))
    | fail
  clear sS
  obtain ⟨A0, A1, A2, A3, A4, A5⟩ := A.cells
  obtain ⟨B0, B1, B2, B3, B4, B5⟩ := B.cells
  obtain ⟨C0, C1, C2, C3, C4, C5⟩ := C.cells
  obtain ⟨D0, D1, D2, D3, D4, D5⟩ := D.cells
  go_wp2_with fail
  clear A0 A1 A2 A3 A4 A5 B0 B1 B2 B3 B4 B5 C0 C1 C2 C3 C4 C5 D0 D1 D2 D3 D4 D5
  replace A := A.drew
  replace B := B.drew
  replace C := C.drew
  replace D := D.drew
  replace h1 := h1.drew
  replace h2 := h2.drew
  replace q5 := q5.drew
  replace q6 := q6.drew
  replace q7 := q7.drew
  replace K := K.drew
  have sS := And.intro (And.intro D.cells.1 (And.intro D.cells.2.1 (And.intro D.cells.2.2.1 (And.intro D.cells.2.2.2.1 (D.cells.2.2.2.2.1))))) (And.intro B.cells.1 (And.intro B.cells.2.1 (And.intro B.cells.2.2.1 (And.intro B.cells.2.2.2.1 (B.cells.2.2.2.2.1)))))
  first
    | (go_region_held3 (fun wx : World => (wx.cell? ⟨w5.heap.size, 0, none⟩ = some (.int .i64 o2) ∧ wx.cell? ⟨w5.heap.size, 1, none⟩ = some (.int .i64 a2) ∧ wx.cell? ⟨w5.heap.size, 2, none⟩ = some (.int .i64 b2) ∧ wx.cell? ⟨w5.heap.size, 3, none⟩ = some (.string nm2) ∧ wx.cell? ⟨w5.heap.size, 4, none⟩ = some (.slice p6 ks2.length e6)) ∧ (wx.cell? ⟨(w.heap.size + 1), 0, none⟩ = some (.int .i64 o2) ∧ wx.cell? ⟨(w.heap.size + 1), 1, none⟩ = some (.int .i64 a2) ∧ wx.cell? ⟨(w.heap.size + 1), 2, none⟩ = some (.int .i64 b2) ∧ wx.cell? ⟨(w.heap.size + 1), 3, none⟩ = some (.string nm2) ∧ wx.cell? ⟨(w.heap.size + 1), 4, none⟩ = some (.slice sa2 ks2.length sc2))) (first | (with_reducible assumption)) (first | (go_at_call 9; (with_reducible refine (toTerm_of (toTermS_any d2) o2 a2 b2 nm2 _ ks2 _ h2 sm2.out).mono ?_); rintro e w8 ⟨s8, rfl, K8, hb⟩; obtain ⟨p8, e8, z8, _⟩ := K8.now.form; subst z8; replace A := A.keep hb; replace B := B.keep hb; replace C := C.keep hb; replace D := D.keep hb; replace h1 := h1.below hb; replace h2 := h2.below hb; replace q5 := q5.below hb; replace q6 := q6.below hb; replace q7 := q7.below hb; replace K := below_two K hb; clear hb; have q8 := K8.now; clear K8; replace sS := And.intro (And.intro D.cells.1 (And.intro D.cells.2.1 (And.intro D.cells.2.2.1 (And.intro D.cells.2.2.2.1 (D.cells.2.2.2.2.1))))) (And.intro B.cells.1 (And.intro B.cells.2.1 (And.intro B.cells.2.2.1 (And.intro B.cells.2.2.2.1 (B.cells.2.2.2.2.1)))))) | (go_at_call 11; (with_reducible refine (eqTerm_of (eqTermS_any d2 d2) o2 a2 b2 nm2 _ ks2 o2 a2 b2 nm2 _ ks2 _ q6 q8).mono ?_); rintro e w8 ⟨rfl, hb⟩; rw [eqv_true rfl]; replace A := A.keep hb; replace B := B.keep hb; replace C := C.keep hb; replace D := D.keep hb; replace h1 := h1.below hb; replace h2 := h2.below hb; replace q5 := q5.below hb; replace q6 := q6.below hb; replace q7 := q7.below hb; replace q8 := q8.below hb; replace K := below_two K hb; clear hb; replace sS := And.intro (And.intro D.cells.1 (And.intro D.cells.2.1 (And.intro D.cells.2.2.1 (And.intro D.cells.2.2.2.1 (D.cells.2.2.2.2.1))))) (And.intro B.cells.1 (And.intro B.cells.2.1 (And.intro B.cells.2.2.1 (And.intro B.cells.2.2.2.1 (B.cells.2.2.2.2.1))))))))
    | fail
  clear sS
  obtain ⟨A0, A1, A2, A3, A4, A5⟩ := A.cells
  obtain ⟨B0, B1, B2, B3, B4, B5⟩ := B.cells
  obtain ⟨C0, C1, C2, C3, C4, C5⟩ := C.cells
  obtain ⟨D0, D1, D2, D3, D4, D5⟩ := D.cells
  go_wp2_with fail
  go_ret
  exact ⟨rfl, K⟩
end Go.Proofs.Ytfkanemjedndgaa
