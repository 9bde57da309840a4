/- The walk of FnExactTermText: for all arguments the law returns true and leaves alone what was there. -/
import Derived.Test.YtfkanemjedndgaaGreatDoorXc
import Derived.Deep.DeepCutAuto
namespace Go.Proofs.YtfkanemjedndgaaGreatDoor
open Go.RowKit

set_option linter.unusedVariables false in
set_option maxRecDepth 20000 in
set_option maxHeartbeats 8000000 in
theorem walk_FnExactTermText (v1 : Value) (ds : List Dc) (o2 a2 b2 : Int) (nm2 : ByteArray) (s2 : Value) (d2 : Nat) (ks2 : List Tm) (hn2 : nm2.size ≤ 9223372036854775807) (hw2 : (Lit.int .i64 o2).wf = true) (ht2 : TW d2 ks2) {w : World} (h1 : Decls w v1 ds) (h2 : SIn d2 w s2 ks2) :
    Calls Tryz.prog 3 #[v1, .agg #[.int .i64 o2, .int .i64 a2, .int .i64 b2, .string nm2, s2]] w fun e w' => e = .returned (.bool true) ∧ Below w.heap.size w w' := by
  obtain ⟨a1, c1, z1, _⟩ := h1.form
  subst z1
  obtain ⟨sa2, sc2, z2, _⟩ := h2.form
  subst z2
  obtain ⟨z, hz⟩ : ∃ z, z = TXV ds d2 o2 a2 b2 nm2 ks2 := ⟨_, rfl⟩
  have Fs : Hid (∀ w' s t, Decls w' s ds → SIn d2 w' t ks2 → Calls Tryz.prog 6 #[s, .agg #[.int .i64 o2, .int .i64 a2, .int .i64 b2, .string nm2, t]] w' fun e w2 => e = .returned (.string z) ∧ Below w'.heap.size w' w2) := fun w' s t h h' => by rw [hz]; exact termText_spec s ds d2 o2 a2 b2 nm2 t ks2 w' h h'
  have Fi : Hid (∀ w' s t, Decls w' s ds → SIn d2 w' t ks2 → Calls Tryz.prog 9 #[s, .agg #[.int .i64 o2, .int .i64 a2, .int .i64 b2, .string nm2, t]] w' fun e w2 => e = .returned (.string z) ∧ Below w'.heap.size w' w2) := fun w' s t h h' => by rw [hz]; exact termText_impl s ds d2 o2 a2 b2 nm2 t ks2 w' h h' ht2 hw2
  clear hz ht2 hw2
  go_enter Tryz.func3, Tryz.ntmps3
  go_wp2_with fail
  replace h1 := h1.below (below_self_alloc w (.cells #[.int .i64 o2, .int .i64 a2, .int .i64 b2, .string nm2, .slice sa2 ks2.length sc2] 25))
  replace h2 := h2.below (below_self_alloc w (.cells #[.int .i64 o2, .int .i64 a2, .int .i64 b2, .string nm2, .slice sa2 ks2.length sc2] 25))
  have K := below_self_alloc w (.cells #[.int .i64 o2, .int .i64 a2, .int .i64 b2, .string nm2, .slice sa2 ks2.length sc2] 25)
  have A := blk5_new w (.int .i64 o2) (.int .i64 a2) (.int .i64 b2) (.string nm2) (.slice sa2 ks2.length sc2) 25
  obtain ⟨A0, A1, A2, A3, A4, A5⟩ := A.cells
  refine (szDeclS_any _ ds 1048576 _ h1 (by omega) (by omega)).mono ?_; rintro e w1 ⟨r1, rfl, r10, r11, hs1, hb⟩
  clear A0 A1 A2 A3 A4 A5
  replace A := A.keep hb
  replace h1 := h1.below hb
  replace h2 := h2.below hb
  replace K := below_two K hb
  clear hb
  have HS1 := Lib.hid hs1
  clear hs1
  obtain ⟨A0, A1, A2, A3, A4, A5⟩ := A.cells
  by_cases hr1 : r1 < 0
  · go_wp2_with fail
    go_ret
    exact ⟨rfl, K⟩
  have hn := HS1.out (by omega)
  clear HS1
  go_wp2_with fail
  refine (szTerm_of (szTermS_any d2) o2 a2 b2 nm2 _ ks2 r1 _ h2 hn2 (by omega) (by omega)).mono ?_; rintro e w2 ⟨r2, rfl, r20, r21, hs2, hb⟩
  clear A0 A1 A2 A3 A4 A5
  replace A := A.keep hb
  replace h1 := h1.below hb
  replace h2 := h2.below hb
  replace K := below_two K hb
  clear hb
  have HS2 := Lib.hid hs2
  clear hs2
  obtain ⟨A0, A1, A2, A3, A4, A5⟩ := A.cells
  by_cases hr2 : r2 < 0
  · go_wp2_with fail
    go_ret
    exact ⟨rfl, K⟩
  have sm2 := Lib.hid (HS2.out (by omega))
  clear HS2
  go_wp2_with fail
  clear A0 A1 A2 A3 A4 A5
  replace A := A.drew
  replace h1 := h1.drew
  replace h2 := h2.drew
  replace K := K.drew
  have sS := And.intro A.cells.1 (And.intro A.cells.2.1 (And.intro A.cells.2.2.1 (And.intro A.cells.2.2.2.1 (A.cells.2.2.2.2.1))))
  first
    | (go_region_held3 (fun wx : World => (wx.cell? ⟨w.heap.size, 0, none⟩ = some (.int .i64 o2) ∧ wx.cell? ⟨w.heap.size, 1, none⟩ = some (.int .i64 a2) ∧ wx.cell? ⟨w.heap.size, 2, none⟩ = some (.int .i64 b2) ∧ wx.cell? ⟨w.heap.size, 3, none⟩ = some (.string nm2) ∧ wx.cell? ⟨w.heap.size, 4, none⟩ = some (.slice sa2 ks2.length sc2))) (first | (with_reducible assumption)) (first | (go_at_call 7; (with_reducible refine (toDeclS_any _ ds _ h1 hn).mono ?_); rintro e w3 ⟨s3, rfl, o3, q3, hb⟩; obtain ⟨p3, e3, z3, _⟩ := q3.form; subst z3; clear o3; have t3 := q3; clear q3; replace A := A.keep hb; replace h1 := h1.below hb; replace h2 := h2.below hb; replace K := below_two K hb; clear hb; have q3 := t3; clear t3; replace sS := And.intro A.cells.1 (And.intro A.cells.2.1 (And.intro A.cells.2.2.1 (And.intro A.cells.2.2.2.1 (A.cells.2.2.2.2.1))))) | (go_at_call 8; (with_reducible refine (toTerm_of (toTermS_any d2) o2 a2 b2 nm2 _ ks2 _ h2 sm2.out).mono ?_); rintro e w3 ⟨s4, rfl, K4, hb⟩; obtain ⟨p4, e4, z4, _⟩ := K4.now.form; subst z4; replace A := A.keep hb; replace h1 := h1.below hb; replace h2 := h2.below hb; replace q3 := q3.below hb; replace K := below_two K hb; clear hb; have q4 := K4.now; clear K4; replace sS := And.intro A.cells.1 (And.intro A.cells.2.1 (And.intro A.cells.2.2.1 (And.intro A.cells.2.2.2.1 (A.cells.2.2.2.2.1))))) | (go_at_call 6; (with_reducible refine (Fs.out _ _ _ q3 q4).mono ?_); rintro e w3 ⟨rfl, hb⟩; replace A := A.keep hb; replace h1 := h1.below hb; replace h2 := h2.below hb; replace q3 := q3.below hb; replace q4 := q4.below hb; replace K := below_two K hb; clear hb; replace sS := And.intro A.cells.1 (And.intro A.cells.2.1 (And.intro A.cells.2.2.1 (And.intro A.cells.2.2.2.1 (A.cells.2.2.2.2.1)))))))
    | fail
  clear sS
  obtain ⟨A0, A1, A2, A3, A4, A5⟩ := A.cells
  go_wp2_with fail
  clear A0 A1 A2 A3 A4 A5
  clear q3 q4
  obtain ⟨A0, A1, A2, A3, A4, A5⟩ := A.cells
  clear Fs
  refine (toDeclS_any _ ds _ h1 hn).mono ?_; rintro e w4 ⟨s5, rfl, o5, q5, hb⟩
  obtain ⟨p5, e5, z5, _⟩ := q5.form
  subst z5
  clear o5
  have t5 := q5
  clear q5
  clear A0 A1 A2 A3 A4 A5
  replace A := A.keep hb
  replace h1 := h1.below hb
  replace h2 := h2.below hb
  replace K := below_two K hb
  clear hb
  have q5 := t5
  clear t5
  obtain ⟨A0, A1, A2, A3, A4, A5⟩ := A.cells
  go_wp2_with fail
  refine (toTerm_of (toTermS_any d2) o2 a2 b2 nm2 _ ks2 _ h2 sm2.out).mono ?_; rintro e w5 ⟨s6, rfl, K6, hb⟩
  obtain ⟨p6, e6, z6, _⟩ := K6.now.form
  subst z6
  clear A0 A1 A2 A3 A4 A5
  replace A := A.keep hb
  replace h1 := h1.below hb
  replace h2 := h2.below hb
  replace q5 := q5.below hb
  replace K := below_two K hb
  clear hb
  have q6 := K6.now
  clear K6
  have nA : ¬ w.heap.size = w5.heap.size := Nat.ne_of_lt A.lt
  replace A := A.alloc (.cells #[.int .i64 o2, .int .i64 a2, .int .i64 b2, .string nm2, .slice p6 ks2.length e6] 33)
  replace h1 := h1.below (below_self_alloc w5 (.cells #[.int .i64 o2, .int .i64 a2, .int .i64 b2, .string nm2, .slice p6 ks2.length e6] 33))
  replace h2 := h2.below (below_self_alloc w5 (.cells #[.int .i64 o2, .int .i64 a2, .int .i64 b2, .string nm2, .slice p6 ks2.length e6] 33))
  replace q5 := q5.below (below_self_alloc w5 (.cells #[.int .i64 o2, .int .i64 a2, .int .i64 b2, .string nm2, .slice p6 ks2.length e6] 33))
  replace q6 := q6.below (below_self_alloc w5 (.cells #[.int .i64 o2, .int .i64 a2, .int .i64 b2, .string nm2, .slice p6 ks2.length e6] 33))
  replace K := below_step K (.cells #[.int .i64 o2, .int .i64 a2, .int .i64 b2, .string nm2, .slice p6 ks2.length e6] 33)
  have C := blk5_new w5 (.int .i64 o2) (.int .i64 a2) (.int .i64 b2) (.string nm2) (.slice p6 ks2.length e6) 33
  obtain ⟨A0, A1, A2, A3, A4, A5⟩ := A.cells
  obtain ⟨C0, C1, C2, C3, C4, C5⟩ := C.cells
  go_wp2_with fail
  refine (Fi.out _ _ _ q5 q6).mono ?_; rintro e w6 ⟨rfl, hb⟩
  clear A0 A1 A2 A3 A4 A5 C0 C1 C2 C3 C4 C5
  clear nA
  replace A := A.keep hb
  replace C := C.keep hb
  replace h1 := h1.below hb
  replace h2 := h2.below hb
  replace q5 := q5.below hb
  replace q6 := q6.below hb
  replace K := below_two K hb
  clear hb
  obtain ⟨A0, A1, A2, A3, A4, A5⟩ := A.cells
  obtain ⟨C0, C1, C2, C3, C4, C5⟩ := C.cells
  go_wp2_with fail
  refine (toDeclS_any _ ds _ h1 hn).mono ?_; rintro e w7 ⟨s7, rfl, o7, q7, hb⟩
  obtain ⟨p7, e7, z7, _⟩ := q7.form
  subst z7
  clear o7
  have t7 := q7
  clear q7
  clear A0 A1 A2 A3 A4 A5 C0 C1 C2 C3 C4 C5
  replace A := A.keep hb
  replace C := C.keep hb
  replace h1 := h1.below hb
  replace h2 := h2.below hb
  replace q5 := q5.below hb
  replace q6 := q6.below hb
  replace K := below_two K hb
  clear hb
  have q7 := t7
  clear t7
  obtain ⟨A0, A1, A2, A3, A4, A5⟩ := A.cells
  obtain ⟨C0, C1, C2, C3, C4, C5⟩ := C.cells
  go_wp2_with fail
  refine (eqDeclS_same _ _ ds _ q5 q7).mono ?_; rintro e w8 ⟨rfl, hb⟩
  clear A0 A1 A2 A3 A4 A5 C0 C1 C2 C3 C4 C5
  replace A := A.keep hb
  replace C := C.keep hb
  replace h1 := h1.below hb
  replace h2 := h2.below hb
  replace q5 := q5.below hb
  replace q6 := q6.below hb
  replace q7 := q7.below hb
  replace K := below_two K hb
  clear hb
  obtain ⟨A0, A1, A2, A3, A4, A5⟩ := A.cells
  obtain ⟨C0, C1, C2, C3, C4, C5⟩ := C.cells
  go_wp2_with fail
  clear A0 A1 A2 A3 A4 A5 C0 C1 C2 C3 C4 C5
  clear q5 q7
  obtain ⟨A0, A1, A2, A3, A4, A5⟩ := A.cells
  obtain ⟨C0, C1, C2, C3, C4, C5⟩ := C.cells
  clear A0 A1 A2 A3 A4 A5 C0 C1 C2 C3 C4 C5
  replace A := A.drew
  replace C := C.drew
  replace h1 := h1.drew
  replace h2 := h2.drew
  replace q6 := q6.drew
  replace K := K.drew
  have sS := And.intro (And.intro C.cells.1 (And.intro C.cells.2.1 (And.intro C.cells.2.2.1 (And.intro C.cells.2.2.2.1 (C.cells.2.2.2.2.1))))) (And.intro A.cells.1 (And.intro A.cells.2.1 (And.intro A.cells.2.2.1 (And.intro A.cells.2.2.2.1 (A.cells.2.2.2.2.1)))))
  first
    | (go_region_held3 (fun wx : World => (wx.cell? ⟨w5.heap.size, 0, none⟩ = some (.int .i64 o2) ∧ wx.cell? ⟨w5.heap.size, 1, none⟩ = some (.int .i64 a2) ∧ wx.cell? ⟨w5.heap.size, 2, none⟩ = some (.int .i64 b2) ∧ wx.cell? ⟨w5.heap.size, 3, none⟩ = some (.string nm2) ∧ wx.cell? ⟨w5.heap.size, 4, none⟩ = some (.slice p6 ks2.length e6)) ∧ (wx.cell? ⟨w.heap.size, 0, none⟩ = some (.int .i64 o2) ∧ wx.cell? ⟨w.heap.size, 1, none⟩ = some (.int .i64 a2) ∧ wx.cell? ⟨w.heap.size, 2, none⟩ = some (.int .i64 b2) ∧ wx.cell? ⟨w.heap.size, 3, none⟩ = some (.string nm2) ∧ wx.cell? ⟨w.heap.size, 4, none⟩ = some (.slice sa2 ks2.length sc2))) (first | (with_reducible assumption)) (first | (go_at_call 8; (with_reducible refine (toTerm_of (toTermS_any d2) o2 a2 b2 nm2 _ ks2 _ h2 sm2.out).mono ?_); rintro e w9 ⟨s8, rfl, K8, hb⟩; obtain ⟨p8, e8, z8, _⟩ := K8.now.form; subst z8; replace A := A.keep hb; replace C := C.keep hb; replace h1 := h1.below hb; replace h2 := h2.below hb; replace q6 := q6.below hb; replace K := below_two K hb; clear hb; have q8 := K8.now; clear K8; replace sS := And.intro (And.intro C.cells.1 (And.intro C.cells.2.1 (And.intro C.cells.2.2.1 (And.intro C.cells.2.2.2.1 (C.cells.2.2.2.2.1))))) (And.intro A.cells.1 (And.intro A.cells.2.1 (And.intro A.cells.2.2.1 (And.intro A.cells.2.2.2.1 (A.cells.2.2.2.2.1)))))) | (go_at_call 11; (with_reducible refine (eqTerm_of (eqTermS_any d2 d2) o2 a2 b2 nm2 _ ks2 o2 a2 b2 nm2 _ ks2 _ q6 q8).mono ?_); rintro e w9 ⟨rfl, hb⟩; rw [eqv_true rfl]; replace A := A.keep hb; replace C := C.keep hb; replace h1 := h1.below hb; replace h2 := h2.below hb; replace q6 := q6.below hb; replace q8 := q8.below hb; replace K := below_two K hb; clear hb; replace sS := And.intro (And.intro C.cells.1 (And.intro C.cells.2.1 (And.intro C.cells.2.2.1 (And.intro C.cells.2.2.2.1 (C.cells.2.2.2.2.1))))) (And.intro A.cells.1 (And.intro A.cells.2.1 (And.intro A.cells.2.2.1 (And.intro A.cells.2.2.2.1 (A.cells.2.2.2.2.1))))))))
    | fail
  clear sS
  obtain ⟨A0, A1, A2, A3, A4, A5⟩ := A.cells
  obtain ⟨C0, C1, C2, C3, C4, C5⟩ := C.cells
  go_wp2_with fail
  go_ret
  exact ⟨rfl, K⟩
end Go.Proofs.YtfkanemjedndgaaGreatDoor
