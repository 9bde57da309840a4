/- The walk of FnExactNetCnf: for all arguments the law returns true and leaves alone what was there. -/
import Derived.Test.YteeaafdgkepaeaaOf
import Derived.Test.YteeaafdgkepaeaaNo
import Derived.Deep.DeepCutAuto
namespace Go.Proofs.Yteeaafdgkepaeaa
open Go.RowKit

set_option linter.unusedVariables false in
set_option maxRecDepth 20000 in
set_option maxHeartbeats 8000000 in
theorem walk_FnExactNetCnf (m1 : Int) (wm1 : (Lit.int .i64 m1).wf = true) (v1 : Value) (gs1 : List Gt) (wl1 : ∀ i, i < gs1.length → gtWf (gs1.getD i gz)) {w : World} (h1 : Gates w v1 gs1) :
    Calls Try.prog 9 #[.agg #[.int .i64 m1, v1]] w fun e w' => e = .returned (.bool true) ∧ Below w.heap.size w w' := by
  have h10 := h1
  obtain ⟨r, hr⟩ : ∃ r, r = cnfL m1 gs1 := ⟨_, rfl⟩
  obtain ⟨mc, hmc⟩ : ∃ mc, mc = cnfM m1 gs1 := ⟨_, rfl⟩
  have hrl : r.length ≤ 1048576 := by rw [hr]; exact Nat.le_trans (cnfL_len _ _) (by omega)
  have hrm : Hid (∀ i, i < r.length → (r.getD i []).length ≤ 1048576) := fun i hi => by rw [hr] at hi ⊢; exact Nat.le_trans (cnfL_rows _ _ i hi) (by omega)
  have CS : Hid (∀ v' w', Gates w' v' gs1 → Calls Try.prog 30 #[.agg #[.int .i64 m1, v']] w' (NewCnf mc r w')) := fun v' w' h => by rw [hr, hmc]; exact netCnf_spec m1 v' gs1 w' h
  have CI : Hid (∀ v' w', Gates w' v' gs1 → NilOrB v' → Calls Try.prog 31 #[.agg #[.int .i64 m1, v']] w' (NewCnf mc r w')) := fun v' w' h hn => by rw [hr, hmc]; exact netCnf_impl m1 v' gs1 w' h hn wl1
  clear hr hmc wl1
  obtain ⟨z, hz⟩ : ∃ z : Nat, z = stAt r r.length := ⟨_, rfl⟩
  have HM : Hid (∀ v' fs base tt w', OwnSS w' base tt 3 v' r r.length fs → Calls Try.prog 33 #[.agg #[.int .i64 mc, v'], .int .i64 1] w' fun e w2 => e = .returned (.int .i64 (z : Int)) ∧ Only (rowOf fs r.length) w' w2 ∧ OwnSS w2 base tt 3 v' (mksL r) (mksL r).length fs) := fun v' fs base tt w' h => by rw [hz]; exact markCnf_any mc v' r fs base tt w' h hrl hrm.out
  have HH : Hid (∀ v' w', IntSS w' v' (mksL r) → Calls Try.prog 34 #[.agg #[.int .i64 mc, v'], .int .i64 1] w' fun e w2 => e = .returned (.int .i64 (z : Int)) ∧ Below w'.heap.size w' w2) := fun v' w' h => by rw [hz]; exact heldCnf_any mc v' r w' h hrl hrm.out
  clear hz hrm
  have hz0 : ¬ (z : Int) < 0 := by omega
  have hl1 := h1.len
  obtain ⟨a1, c1, rfl⟩ := h1.form
  by_cases hz1 : 1048576 < (gs1.length : Int)
  · have D1 := fun w' h => szNet_any m1 (.slice a1 gs1.length c1) gs1 (1048576) w' h (by omega) (by omega)
    simp only [if_pos hz1] at D1
    replace D1 := Lib.hid D1
    go_enter Try.func9, Try.ntmps9
    go_wp2_with fail
    replace h1 := h1.below (below_self_alloc w (.cells #[.int .i64 m1, .slice a1 gs1.length c1] 34))
    have K := below_self_alloc w (.cells #[.int .i64 m1, .slice a1 gs1.length c1] 34)
    have A := blk_new w (.int .i64 m1) (.slice a1 gs1.length c1) 34
    obtain ⟨A0, A1, A2⟩ := A.cells
    refine (D1.out _ h1).mono ?_; rintro e w1 ⟨rfl, hb⟩
    clear A0 A1 A2
    replace A := A.keep hb
    replace h1 := h1.below hb
    replace K := below_two K hb
    clear hb
    obtain ⟨A0, A1, A2⟩ := A.cells
    go_wp2_with fail
    go_ret
    exact ⟨rfl, K⟩
  have D1 := fun w' h => szNet_any m1 (.slice a1 gs1.length c1) gs1 (1048576) w' h (by omega) (by omega)
  simp only [if_neg hz1] at D1
  replace D1 := Lib.hid D1
  have hn1 : gs1.length ≤ 1048576 := by omega
  go_enter Try.func9, Try.ntmps9
  go_wp2_with fail
  replace h1 := h1.below (below_self_alloc w (.cells #[.int .i64 m1, .slice a1 gs1.length c1] 34))
  have K := below_self_alloc w (.cells #[.int .i64 m1, .slice a1 gs1.length c1] 34)
  have A := blk_new w (.int .i64 m1) (.slice a1 gs1.length c1) 34
  obtain ⟨A0, A1, A2⟩ := A.cells
  refine (D1.out _ h1).mono ?_; rintro e w1 ⟨rfl, hb⟩
  clear A0 A1 A2
  replace A := A.keep hb
  replace h1 := h1.below hb
  replace K := below_two K hb
  clear hb
  obtain ⟨A0, A1, A2⟩ := A.cells
  clear D1 hl1
  go_wp2_with fail
  refine (toNet_any m1 _ gs1 _ h1 hn1).mono ?_; rintro e w2 ⟨v2, rfl, o2, hb⟩
  obtain ⟨p2, e2, rfl, _⟩ := RowS.of_own (by omega) o2
  clear A0 A1 A2
  replace A := A.keep hb
  replace h1 := h1.below hb
  replace K := below_two K hb
  clear hb
  have q2 := gates_own o2
  have n2 := nilOrB_own o2
  clear o2
  obtain ⟨A0, A1, A2⟩ := A.cells
  go_wp2_with fail
  refine (CS.out _ _ q2).mono ?_; rintro e w3 ⟨y4, fs4, rfl, u4, hb⟩
  obtain ⟨p4, e4, rfl, _⟩ := Row.of_own u4.top
  clear A0 A1 A2
  replace A := A.keep hb
  replace h1 := h1.below hb
  replace q2 := q2.below hb
  replace K := below_two K hb
  clear hb
  have nA : ¬ w.heap.size = w3.heap.size := Nat.ne_of_lt A.lt
  replace A := A.alloc (.cells #[.int .i64 mc, .slice p4 r.length e4] 54)
  replace h1 := h1.below (below_self_alloc w3 (.cells #[.int .i64 mc, .slice p4 r.length e4] 54))
  replace q2 := q2.below (below_self_alloc w3 (.cells #[.int .i64 mc, .slice p4 r.length e4] 54))
  replace u4 := u4.below (below_self_alloc w3 (.cells #[.int .i64 mc, .slice p4 r.length e4] 54))
  replace K := below_step K (.cells #[.int .i64 mc, .slice p4 r.length e4] 54)
  have D := blk_new w3 (.int .i64 mc) (.slice p4 r.length e4) 54
  obtain ⟨A0, A1, A2⟩ := A.cells
  obtain ⟨D0, D1, D2⟩ := D.cells
  go_wp2_with fail
  clear A0 A1 A2 D0 D1 D2
  clear nA
  clear q2
  clear n2
  obtain ⟨A0, A1, A2⟩ := A.cells
  obtain ⟨D0, D1, D2⟩ := D.cells
  refine (toNet_any m1 _ gs1 _ h1 hn1).mono ?_; rintro e w4 ⟨v5, rfl, o5, hb⟩
  obtain ⟨p5, e5, rfl, _⟩ := RowS.of_own (by omega) o5
  have nd45 : Hid (∀ k, Value.ownBlock (.slice p5 gs1.length e5) = some k → Far (.slice p4 r.length e4) r fs4 k) := fun k e => u4.far_ge (o5.lt k e).1
  have ndA5 : Hid (Value.ownBlock (.slice p5 gs1.length e5) ≠ some w.heap.size) := fun e => by have h1 := (o5.lt _ e).1; have h2 := A.lt; omega
  have ndD5 : Hid (Value.ownBlock (.slice p5 gs1.length e5) ≠ some w3.heap.size) := fun e => by have h1 := (o5.lt _ e).1; have h2 := D.lt; omega
  have ndK5 : Hid (∀ k, Value.ownBlock (.slice p5 gs1.length e5) = some k → w.heap.size ≤ k) := fun k e => by have h1 := (o5.lt _ e).1; have h2 := A.lt; omega
  clear A0 A1 A2 D0 D1 D2
  replace A := A.keep hb
  replace D := D.keep hb
  replace h1 := h1.below hb
  replace u4 := u4.below hb
  replace K := below_two K hb
  clear hb
  have n5 := nilOrB_own o5
  have nA : ¬ w.heap.size = w4.heap.size := Nat.ne_of_lt A.lt
  have nD : ¬ w3.heap.size = w4.heap.size := Nat.ne_of_lt D.lt
  replace A := A.alloc (.cells #[.int .i64 m1, .slice p5 gs1.length e5] 39)
  replace D := D.alloc (.cells #[.int .i64 m1, .slice p5 gs1.length e5] 39)
  replace h1 := h1.below (below_self_alloc w4 (.cells #[.int .i64 m1, .slice p5 gs1.length e5] 39))
  replace u4 := u4.below (below_self_alloc w4 (.cells #[.int .i64 m1, .slice p5 gs1.length e5] 39))
  replace o5 := o5.below (below_self_alloc w4 (.cells #[.int .i64 m1, .slice p5 gs1.length e5] 39))
  replace K := below_step K (.cells #[.int .i64 m1, .slice p5 gs1.length e5] 39)
  have B := blk_new w4 (.int .i64 m1) (.slice p5 gs1.length e5) 39
  obtain ⟨A0, A1, A2⟩ := A.cells
  obtain ⟨D0, D1, D2⟩ := D.cells
  obtain ⟨B0, B1, B2⟩ := B.cells
  go_wp2_with fail
  refine (CI.out _ _ (gates_own o5) n5).mono ?_; rintro e w5 ⟨y7, fs7, rfl, u7, hb⟩
  obtain ⟨p7, e7, rfl, _⟩ := Row.of_own u7.top
  have nd75 : Hid (∀ k, Value.ownBlock (.slice p5 gs1.length e5) = some k → Far (.slice p7 r.length e7) r fs7 k) := fun k e => u7.far_lt (o5.lt k e).2
  have nd47 : Hid (∀ k, rowOf fs7 r.length k → Far (.slice p4 r.length e4) r fs4 k) := fun k hk => u4.far_ge (rowOf_ge u7 k hk).1
  have ndA7 : Hid (¬ rowOf fs7 r.length w.heap.size) := fun e => by have h1 := (rowOf_ge u7 _ e).1; have h2 := A.lt; omega
  have ndD7 : Hid (¬ rowOf fs7 r.length w3.heap.size) := fun e => by have h1 := (rowOf_ge u7 _ e).1; have h2 := D.lt; omega
  have ndC7 : Hid (¬ rowOf fs7 r.length w5.heap.size) := fun e => by have h1 := (rowOf_ge u7 _ e).2; omega
  have ndK7 : Hid (∀ k, rowOf fs7 r.length k → w.heap.size ≤ k) := fun k hk => by have h1 := (rowOf_ge u7 k hk).1; have h2 := A.lt; omega
  have ndC5 : Hid (Value.ownBlock (.slice p5 gs1.length e5) ≠ some w5.heap.size) := fun e => by have h1 := (o5.lt _ e).2; have h2 := hb.size; omega
  clear A0 A1 A2 D0 D1 D2 B0 B1 B2
  clear nA nD
  replace A := A.keep hb
  replace D := D.keep hb
  replace B := B.keep hb
  replace h1 := h1.below hb
  replace u4 := u4.below hb
  replace o5 := o5.below hb
  replace K := below_two K hb
  clear hb
  have nA : ¬ w.heap.size = w5.heap.size := Nat.ne_of_lt A.lt
  have nD : ¬ w3.heap.size = w5.heap.size := Nat.ne_of_lt D.lt
  have nB : ¬ w4.heap.size = w5.heap.size := Nat.ne_of_lt B.lt
  replace A := A.alloc (.cells #[.int .i64 mc, .slice p7 r.length e7] 54)
  replace D := D.alloc (.cells #[.int .i64 mc, .slice p7 r.length e7] 54)
  replace B := B.alloc (.cells #[.int .i64 mc, .slice p7 r.length e7] 54)
  replace h1 := h1.below (below_self_alloc w5 (.cells #[.int .i64 mc, .slice p7 r.length e7] 54))
  replace u4 := u4.below (below_self_alloc w5 (.cells #[.int .i64 mc, .slice p7 r.length e7] 54))
  replace o5 := o5.below (below_self_alloc w5 (.cells #[.int .i64 mc, .slice p7 r.length e7] 54))
  replace u7 := u7.below (below_self_alloc w5 (.cells #[.int .i64 mc, .slice p7 r.length e7] 54))
  replace K := below_step K (.cells #[.int .i64 mc, .slice p7 r.length e7] 54)
  have C := blk_new w5 (.int .i64 mc) (.slice p7 r.length e7) 54
  obtain ⟨A0, A1, A2⟩ := A.cells
  obtain ⟨D0, D1, D2⟩ := D.cells
  obtain ⟨B0, B1, B2⟩ := B.cells
  obtain ⟨C0, C1, C2⟩ := C.cells
  go_wp2_with fail
  refine (eqCnf_same mc _ r _ _ u7.ints u4.ints).mono ?_; rintro e w6 ⟨rfl, hb⟩
  clear A0 A1 A2 D0 D1 D2 B0 B1 B2 C0 C1 C2
  clear nA nD nB
  replace A := A.keep hb
  replace D := D.keep hb
  replace B := B.keep hb
  replace C := C.keep hb
  replace h1 := h1.below hb
  replace u4 := u4.below hb
  replace o5 := o5.below hb
  replace u7 := u7.below hb
  replace K := below_two K hb
  clear hb
  obtain ⟨A0, A1, A2⟩ := A.cells
  obtain ⟨D0, D1, D2⟩ := D.cells
  obtain ⟨B0, B1, B2⟩ := B.cells
  obtain ⟨C0, C1, C2⟩ := C.cells
  go_wp2_with fail
  clear A0 A1 A2 D0 D1 D2 B0 B1 B2 C0 C1 C2
  replace A := A.drew
  replace D := D.drew
  replace B := B.drew
  replace C := C.drew
  replace h1 := h1.drew
  replace u4 := u4.drew
  replace o5 := o5.drew
  replace u7 := u7.drew
  replace K := K.drew
  have sS := And.intro (And.intro B.cells.1 (B.cells.2.1)) (And.intro A.cells.1 (A.cells.2.1))
  first
    | (go_region_held3 (fun wx : World => (wx.cell? ⟨w4.heap.size, 0, none⟩ = some (.int .i64 m1) ∧ wx.cell? ⟨w4.heap.size, 1, none⟩ = some (.slice p5 gs1.length e5)) ∧ (wx.cell? ⟨w.heap.size, 0, none⟩ = some (.int .i64 m1) ∧ wx.cell? ⟨w.heap.size, 1, none⟩ = some (.slice a1 gs1.length c1))) (first | (with_reducible assumption)) (first | (go_at_call 19; (with_reducible refine (toNet_any m1 _ gs1 _ h1 hn1).mono ?_); rintro e w7 ⟨v8, rfl, o8, hb⟩; obtain ⟨p8, e8, rfl, _⟩ := RowS.of_own (by omega) o8; replace A := A.keep hb; replace D := D.keep hb; replace B := B.keep hb; replace C := C.keep hb; replace h1 := h1.below hb; replace u4 := u4.below hb; replace o5 := o5.below hb; replace u7 := u7.below hb; replace K := below_two K hb; clear hb; have q8 := gates_own o8; clear o8; replace sS := And.intro (And.intro B.cells.1 (B.cells.2.1)) (And.intro A.cells.1 (A.cells.2.1))) | (go_at_call 21; (with_reducible refine (eqNet_same m1 _ gs1 _ _ (gates_own o5) q8).mono ?_); rintro e w7 ⟨rfl, hb⟩; replace A := A.keep hb; replace D := D.keep hb; replace B := B.keep hb; replace C := C.keep hb; replace h1 := h1.below hb; replace u4 := u4.below hb; replace o5 := o5.below hb; replace u7 := u7.below hb; replace q8 := q8.below hb; replace K := below_two K hb; clear hb; replace sS := And.intro (And.intro B.cells.1 (B.cells.2.1)) (And.intro A.cells.1 (A.cells.2.1)))))
    | fail
  clear sS
  obtain ⟨A0, A1, A2⟩ := A.cells
  obtain ⟨D0, D1, D2⟩ := D.cells
  obtain ⟨B0, B1, B2⟩ := B.cells
  obtain ⟨C0, C1, C2⟩ := C.cells
  go_wp2_with fail
  refine (markNet_any m1 _ _ gs1.length _ _ o5 (by omega)).mono ?_; rintro e w8 ⟨qq, rfl, hqq, hg⟩
  clear A0 A1 A2 D0 D1 D2 B0 B1 B2 C0 C1 C2
  have hqq0 : ¬ (qq : Int) < 0 := by omega
  replace u4 := u4.rowKept hg nd45.out
  replace u7 := u7.rowKept hg nd75.out
  replace A := blk_row A hg ndA5.out
  replace D := blk_row D hg ndD5.out
  replace C := blk_row C hg ndC5.out
  have K' := below_grows K hg ndK5.out
  clear K
  have K := K'
  clear K'
  replace h1 := h10.below K
  clear hg o5 B q8 nd45 nd75 ndA5 ndD5 ndC5 ndK5 n5
  obtain ⟨A0, A1, A2⟩ := A.cells
  obtain ⟨D0, D1, D2⟩ := D.cells
  obtain ⟨C0, C1, C2⟩ := C.cells
  go_wp2_with fail
  refine (eqCnf_same mc _ r _ _ u7.ints u4.ints).mono ?_; rintro e w9 ⟨rfl, hb⟩
  clear A0 A1 A2 D0 D1 D2 C0 C1 C2
  replace A := A.keep hb
  replace D := D.keep hb
  replace C := C.keep hb
  replace h1 := h1.below hb
  replace u4 := u4.below hb
  replace u7 := u7.below hb
  replace K := below_two K hb
  clear hb
  obtain ⟨A0, A1, A2⟩ := A.cells
  obtain ⟨D0, D1, D2⟩ := D.cells
  obtain ⟨C0, C1, C2⟩ := C.cells
  go_wp2_with fail
  refine (HM.out _ _ _ _ _ u7).mono ?_; rintro e w10 ⟨rfl, O, u7'⟩
  clear A0 A1 A2 D0 D1 D2 C0 C1 C2
  clear u7 HM
  have u7 := u7'
  clear u7'
  replace u4 := u4.only O nd47.out
  replace A := Only.blk A O ndA7.out
  replace D := Only.blk D O ndD7.out
  replace C := Only.blk C O ndC7.out
  have K' := Only.below K O ndK7.out
  clear K
  have K := K'
  clear K' O nd47 ndA7 ndD7 ndC7 ndK7
  replace h1 := h10.below K
  obtain ⟨A0, A1, A2⟩ := A.cells
  obtain ⟨D0, D1, D2⟩ := D.cells
  obtain ⟨C0, C1, C2⟩ := C.cells
  go_wp2_with fail
  refine (HH.out _ _ u7.ints).mono ?_; rintro e w11 ⟨rfl, hb⟩
  clear A0 A1 A2 D0 D1 D2 C0 C1 C2
  replace A := A.keep hb
  replace D := D.keep hb
  replace C := C.keep hb
  replace h1 := h1.below hb
  replace u4 := u4.below hb
  replace u7 := u7.below hb
  replace K := below_two K hb
  clear hb
  obtain ⟨A0, A1, A2⟩ := A.cells
  obtain ⟨D0, D1, D2⟩ := D.cells
  obtain ⟨C0, C1, C2⟩ := C.cells
  go_wp2_with fail
  refine (toNet_any m1 _ gs1 _ h1 hn1).mono ?_; rintro e w12 ⟨v10, rfl, o10, hb⟩
  obtain ⟨p10, e10, rfl, _⟩ := RowS.of_own (by omega) o10
  clear A0 A1 A2 D0 D1 D2 C0 C1 C2
  replace A := A.keep hb
  replace D := D.keep hb
  replace C := C.keep hb
  replace h1 := h1.below hb
  replace u4 := u4.below hb
  replace u7 := u7.below hb
  replace K := below_two K hb
  clear hb
  have q10 := gates_own o10
  have n10 := nilOrB_own o10
  clear o10
  obtain ⟨A0, A1, A2⟩ := A.cells
  obtain ⟨D0, D1, D2⟩ := D.cells
  obtain ⟨C0, C1, C2⟩ := C.cells
  go_wp2_with fail
  refine (CI.out _ _ q10 n10).mono ?_; rintro e w13 ⟨y12, fs12, rfl, u12, hb⟩
  obtain ⟨p12, e12, rfl, _⟩ := Row.of_own u12.top
  clear A0 A1 A2 D0 D1 D2 C0 C1 C2
  replace A := A.keep hb
  replace D := D.keep hb
  replace C := C.keep hb
  replace h1 := h1.below hb
  replace u4 := u4.below hb
  replace u7 := u7.below hb
  replace q10 := q10.below hb
  replace K := below_two K hb
  clear hb
  have nA : ¬ w.heap.size = w13.heap.size := Nat.ne_of_lt A.lt
  have nD : ¬ w3.heap.size = w13.heap.size := Nat.ne_of_lt D.lt
  have nC : ¬ w5.heap.size = w13.heap.size := Nat.ne_of_lt C.lt
  replace A := A.alloc (.cells #[.int .i64 mc, .slice p12 r.length e12] 54)
  replace D := D.alloc (.cells #[.int .i64 mc, .slice p12 r.length e12] 54)
  replace C := C.alloc (.cells #[.int .i64 mc, .slice p12 r.length e12] 54)
  replace h1 := h1.below (below_self_alloc w13 (.cells #[.int .i64 mc, .slice p12 r.length e12] 54))
  replace u4 := u4.below (below_self_alloc w13 (.cells #[.int .i64 mc, .slice p12 r.length e12] 54))
  replace u7 := u7.below (below_self_alloc w13 (.cells #[.int .i64 mc, .slice p12 r.length e12] 54))
  replace q10 := q10.below (below_self_alloc w13 (.cells #[.int .i64 mc, .slice p12 r.length e12] 54))
  replace u12 := u12.below (below_self_alloc w13 (.cells #[.int .i64 mc, .slice p12 r.length e12] 54))
  replace K := below_step K (.cells #[.int .i64 mc, .slice p12 r.length e12] 54)
  have H := blk_new w13 (.int .i64 mc) (.slice p12 r.length e12) 54
  obtain ⟨A0, A1, A2⟩ := A.cells
  obtain ⟨D0, D1, D2⟩ := D.cells
  obtain ⟨C0, C1, C2⟩ := C.cells
  obtain ⟨H0, H1, H2⟩ := H.cells
  go_wp2_with fail
  refine (eqCnf_same mc _ r _ _ u12.ints u4.ints).mono ?_; rintro e w14 ⟨rfl, hb⟩
  clear A0 A1 A2 D0 D1 D2 C0 C1 C2 H0 H1 H2
  clear nA nD nC
  replace A := A.keep hb
  replace D := D.keep hb
  replace C := C.keep hb
  replace H := H.keep hb
  replace h1 := h1.below hb
  replace u4 := u4.below hb
  replace u7 := u7.below hb
  replace q10 := q10.below hb
  replace u12 := u12.below hb
  replace K := below_two K hb
  clear hb
  obtain ⟨A0, A1, A2⟩ := A.cells
  obtain ⟨D0, D1, D2⟩ := D.cells
  obtain ⟨C0, C1, C2⟩ := C.cells
  obtain ⟨H0, H1, H2⟩ := H.cells
  go_wp2_with fail
  refine (HH.out _ _ u7.ints).mono ?_; rintro e w15 ⟨rfl, hb⟩
  clear A0 A1 A2 D0 D1 D2 C0 C1 C2 H0 H1 H2
  replace A := A.keep hb
  replace D := D.keep hb
  replace C := C.keep hb
  replace H := H.keep hb
  replace h1 := h1.below hb
  replace u4 := u4.below hb
  replace u7 := u7.below hb
  replace q10 := q10.below hb
  replace u12 := u12.below hb
  replace K := below_two K hb
  clear hb
  obtain ⟨A0, A1, A2⟩ := A.cells
  obtain ⟨D0, D1, D2⟩ := D.cells
  obtain ⟨C0, C1, C2⟩ := C.cells
  obtain ⟨H0, H1, H2⟩ := H.cells
  go_wp2_with fail
  go_ret
  exact ⟨rfl, K⟩
end Go.Proofs.Yteeaafdgkepaeaa
