/- The walk of FnExactNetVals: for all arguments the law returns true and leaves alone what was there. -/
import Derived.Test.YteeaafdgkepaeaaNz
import Derived.Test.YteeaafdgkepaeaaNo
import Derived.Deep.DeepCutAuto
namespace Go.Proofs.Yteeaafdgkepaeaa
open Go.RowKit

set_option linter.unusedVariables false in
set_option maxRecDepth 20000 in
set_option maxHeartbeats 8000000 in
theorem walk_FnExactNetVals (m1 : Int) (wm1 : (Lit.int .i64 m1).wf = true) (v1 : Value) (gs1 : List Gt) (wl1 : ∀ i, i < gs1.length → gtWf (gs1.getD i gz)) (v2 : Value) (l : List Bool) {w : World} (h1 : Gates w v1 gs1) (h2 : Bools w v2 l) :
    Calls Try.prog 8 #[.agg #[.int .i64 m1, v1], v2] w fun e w' => e = .returned (.bool true) ∧ Below w.heap.size w w' := by
  have h10 := h1
  have h20 := h2
  obtain ⟨r, hr⟩ : ∃ r, r = netVals m1 gs1 l := ⟨_, rfl⟩
  have hrl : r.length ≤ 100000 := by rw [hr]; exact netVals_len _ _ _
  have CS : Hid (∀ v' u' w', Gates w' v' gs1 → Bools w' u' l → NilOrB u' → Calls Try.prog 25 #[.agg #[.int .i64 m1, v'], u'] w' (NewBools r w')) := fun v' u' w' h h' hn => by rw [hr]; exact netVals_spec m1 v' gs1 u' l w' h h' hn
  have CI : Hid (∀ v' u' w', Gates w' v' gs1 → Bools w' u' l → NilOrB v' → NilOrB u' → Calls Try.prog 26 #[.agg #[.int .i64 m1, v'], u'] w' (NewBools r w')) := fun v' u' w' h h' hn hn' => by rw [hr]; exact netVals_impl m1 v' gs1 u' l w' h hn wl1 h' hn'
  clear hr wl1
  have hl1 := h1.len
  have hl2 := h2.len
  obtain ⟨a1, c1, rfl⟩ := h1.form
  obtain ⟨a2, c2, rfl⟩ := Bools.form h2
  by_cases hb0 : (1048576 : Int) < (l.length : Int)
  · go_enter Try.func8, Try.ntmps8
    go_wp2_with fail
    go_ret
    exact ⟨rfl, below_self_alloc _ _⟩
  have hn2 : l.length ≤ 1048576 := by omega
  by_cases hz1 : 1048576 < (gs1.length : Int)
  · have D1 := fun w' h => szNet_any m1 (.slice a1 gs1.length c1) gs1 (1048576) w' h (by omega) (by omega)
    simp only [if_pos hz1] at D1
    replace D1 := Lib.hid D1
    go_enter Try.func8, Try.ntmps8
    go_wp2_with fail
    replace h1 := h1.below (below_self_alloc w (.cells #[.int .i64 m1, .slice a1 gs1.length c1] 34))
    replace h2 := h2.below (below_self_alloc w (.cells #[.int .i64 m1, .slice a1 gs1.length c1] 34))
    have K := below_self_alloc w (.cells #[.int .i64 m1, .slice a1 gs1.length c1] 34)
    have A := blk_new w (.int .i64 m1) (.slice a1 gs1.length c1) 34
    obtain ⟨A0, A1, A2⟩ := A.cells
    refine (D1.out _ h1).mono ?_; rintro e w1 ⟨rfl, hb⟩
    clear A0 A1 A2
    replace A := A.keep hb
    replace h1 := h1.below hb
    replace h2 := h2.below hb
    replace K := below_two K hb
    clear hb
    obtain ⟨A0, A1, A2⟩ := A.cells
    go_wp2_with fail
    go_ret
    exact ⟨rfl, K⟩
  have D1 := fun w' h => szNet_any m1 (.slice a1 gs1.length c1) gs1 (1048576) w' h (by omega) (by omega)
  simp only [if_neg hz1] at D1
  replace D1 := Lib.hid D1
  have hn1 : gs1.length ≤ 1048576 := by omega
  go_enter Try.func8, Try.ntmps8
  go_wp2_with fail
  replace h1 := h1.below (below_self_alloc w (.cells #[.int .i64 m1, .slice a1 gs1.length c1] 34))
  replace h2 := h2.below (below_self_alloc w (.cells #[.int .i64 m1, .slice a1 gs1.length c1] 34))
  have K := below_self_alloc w (.cells #[.int .i64 m1, .slice a1 gs1.length c1] 34)
  have A := blk_new w (.int .i64 m1) (.slice a1 gs1.length c1) 34
  obtain ⟨A0, A1, A2⟩ := A.cells
  refine (D1.out _ h1).mono ?_; rintro e w1 ⟨rfl, hb⟩
  clear A0 A1 A2
  replace A := A.keep hb
  replace h1 := h1.below hb
  replace h2 := h2.below hb
  replace K := below_two K hb
  clear hb
  obtain ⟨A0, A1, A2⟩ := A.cells
  clear D1 hl1 hl2
  go_wp2_with fail
  refine (toNet_any m1 _ gs1 _ h1 hn1).mono ?_; rintro e w2 ⟨v2, rfl, o2, hb⟩
  obtain ⟨p2, e2, rfl, _⟩ := RowS.of_own (by omega) o2
  clear A0 A1 A2
  replace A := A.keep hb
  replace h1 := h1.below hb
  replace h2 := h2.below hb
  replace K := below_two K hb
  clear hb
  have q2 := gates_own o2
  have n2 := nilOrB_own o2
  clear o2
  obtain ⟨A0, A1, A2⟩ := A.cells
  go_wp2_with fail
  refine (toBoolS_any _ l _ h2 hn2).mono ?_; rintro e w3 ⟨v3, rfl, o3, hb⟩
  obtain ⟨p3, e3, rfl, _⟩ := Row.of_own o3
  clear A0 A1 A2
  replace A := A.keep hb
  replace h1 := h1.below hb
  replace h2 := h2.below hb
  replace q2 := q2.below hb
  replace K := below_two K hb
  clear hb
  have q3 := Bools.of_own o3
  have n3 := nilOrB_own o3
  clear o3
  obtain ⟨A0, A1, A2⟩ := A.cells
  go_wp2_with fail
  refine (CS.out _ _ _ q2 q3 n3).mono ?_; rintro e w4 ⟨y4, rfl, u4, hb⟩
  obtain ⟨p4, e4, rfl, _⟩ := Row.of_own u4
  clear A0 A1 A2
  replace A := A.keep hb
  replace h1 := h1.below hb
  replace h2 := h2.below hb
  replace q2 := q2.below hb
  replace q3 := q3.below hb
  replace K := below_two K hb
  clear hb
  obtain ⟨A0, A1, A2⟩ := A.cells
  clear A0 A1 A2
  clear q2 q3
  obtain ⟨A0, A1, A2⟩ := A.cells
  go_wp2_with fail
  refine (toNet_any m1 _ gs1 _ h1 hn1).mono ?_; rintro e w5 ⟨v5, rfl, o5, hb⟩
  obtain ⟨p5, e5, rfl, _⟩ := RowS.of_own (by omega) o5
  have nd45 : Hid (∀ k, Value.ownBlock (.slice p4 r.length e4) = some k → Value.ownBlock (.slice p5 gs1.length e5) ≠ some k) := fun k hk e => by have h1 := (u4.lt k hk).2; have h2 := (o5.lt k e).1; omega
  have ndA5 : Hid (Value.ownBlock (.slice p5 gs1.length e5) ≠ some w.heap.size) := fun e => by have h1 := (o5.lt _ e).1; have h2 := A.lt; omega
  have ndK5 : Hid (∀ k, Value.ownBlock (.slice p5 gs1.length e5) = some k → w.heap.size ≤ k) := fun k e => by have h1 := (o5.lt _ e).1; have h2 := A.lt; omega
  clear A0 A1 A2
  replace A := A.keep hb
  replace h1 := h1.below hb
  replace h2 := h2.below hb
  replace u4 := u4.below hb
  replace K := below_two K hb
  clear hb
  have n5 := nilOrB_own o5
  have nA : ¬ w.heap.size = w5.heap.size := Nat.ne_of_lt A.lt
  replace A := A.alloc (.cells #[.int .i64 m1, .slice p5 gs1.length e5] 39)
  replace h1 := h1.below (below_self_alloc w5 (.cells #[.int .i64 m1, .slice p5 gs1.length e5] 39))
  replace h2 := h2.below (below_self_alloc w5 (.cells #[.int .i64 m1, .slice p5 gs1.length e5] 39))
  replace u4 := u4.below (below_self_alloc w5 (.cells #[.int .i64 m1, .slice p5 gs1.length e5] 39))
  replace o5 := o5.below (below_self_alloc w5 (.cells #[.int .i64 m1, .slice p5 gs1.length e5] 39))
  replace K := below_step K (.cells #[.int .i64 m1, .slice p5 gs1.length e5] 39)
  have B := blk_new w5 (.int .i64 m1) (.slice p5 gs1.length e5) 39
  obtain ⟨A0, A1, A2⟩ := A.cells
  obtain ⟨B0, B1, B2⟩ := B.cells
  go_wp2_with fail
  refine (toBoolS_any _ l _ h2 hn2).mono ?_; rintro e w6 ⟨v6, rfl, o6, hb⟩
  obtain ⟨p6, e6, rfl, _⟩ := Row.of_own o6
  have nd65 : Hid (∀ k, Value.ownBlock (.slice p6 l.length e6) = some k → Value.ownBlock (.slice p5 gs1.length e5) ≠ some k) := fun k hk e => by have h1 := (o6.lt k hk).1; have h2 := (o5.lt k e).2; omega
  have nd46 : Hid (∀ k, Value.ownBlock (.slice p4 r.length e4) = some k → Value.ownBlock (.slice p6 l.length e6) ≠ some k) := fun k hk e => by have h1 := (u4.lt k hk).2; have h2 := (o6.lt k e).1; omega
  have ndA6 : Hid (Value.ownBlock (.slice p6 l.length e6) ≠ some w.heap.size) := fun e => by have h1 := (o6.lt _ e).1; have h2 := A.lt; omega
  have ndK6 : Hid (∀ k, Value.ownBlock (.slice p6 l.length e6) = some k → w.heap.size ≤ k) := fun k e => by have h1 := (o6.lt _ e).1; have h2 := A.lt; omega
  clear A0 A1 A2 B0 B1 B2
  clear nA
  replace A := A.keep hb
  replace B := B.keep hb
  replace h1 := h1.below hb
  replace h2 := h2.below hb
  replace u4 := u4.below hb
  replace o5 := o5.below hb
  replace K := below_two K hb
  clear hb
  have n6 := nilOrB_own o6
  obtain ⟨A0, A1, A2⟩ := A.cells
  obtain ⟨B0, B1, B2⟩ := B.cells
  go_wp2_with fail
  refine (CI.out _ _ _ (gates_own o5) (Bools.of_own o6) n5 n6).mono ?_; rintro e w7 ⟨y7, rfl, u7, hb⟩
  obtain ⟨p7, e7, rfl, _⟩ := Row.of_own u7
  have nd75 : Hid (∀ k, Value.ownBlock (.slice p7 r.length e7) = some k → Value.ownBlock (.slice p5 gs1.length e5) ≠ some k) := fun k hk e => by have h1 := (u7.lt k hk).1; have h2 := (o5.lt k e).2; omega
  have nd76 : Hid (∀ k, Value.ownBlock (.slice p7 r.length e7) = some k → Value.ownBlock (.slice p6 l.length e6) ≠ some k) := fun k hk e => by have h1 := (u7.lt k hk).1; have h2 := (o6.lt k e).2; omega
  have nd47 : Hid (∀ k, Value.ownBlock (.slice p4 r.length e4) = some k → Value.ownBlock (.slice p7 r.length e7) ≠ some k) := fun k hk e => by have h1 := (u4.lt k hk).2; have h2 := (u7.lt k e).1; omega
  have ndA7 : Hid (Value.ownBlock (.slice p7 r.length e7) ≠ some w.heap.size) := fun e => by have h1 := (u7.lt _ e).1; have h2 := A.lt; omega
  have ndK7 : Hid (∀ k, Value.ownBlock (.slice p7 r.length e7) = some k → w.heap.size ≤ k) := fun k e => by have h1 := (u7.lt _ e).1; have h2 := A.lt; omega
  clear A0 A1 A2 B0 B1 B2
  replace A := A.keep hb
  replace B := B.keep hb
  replace h1 := h1.below hb
  replace h2 := h2.below hb
  replace u4 := u4.below hb
  replace o5 := o5.below hb
  replace o6 := o6.below hb
  replace K := below_two K hb
  clear hb
  obtain ⟨A0, A1, A2⟩ := A.cells
  obtain ⟨B0, B1, B2⟩ := B.cells
  go_wp2_with fail
  refine (eqBoolS_any _ _ r r _ (Bools.of_own u7) (Bools.of_own u4)).mono ?_; rintro e w8 d
  obtain ⟨rfl, hb⟩ := d.below
  rw [decide_eq_true rfl]
  clear A0 A1 A2 B0 B1 B2
  replace A := A.keep hb
  replace B := B.keep hb
  replace h1 := h1.below hb
  replace h2 := h2.below hb
  replace u4 := u4.below hb
  replace o5 := o5.below hb
  replace o6 := o6.below hb
  replace u7 := u7.below hb
  replace K := below_two K hb
  clear hb
  obtain ⟨A0, A1, A2⟩ := A.cells
  obtain ⟨B0, B1, B2⟩ := B.cells
  go_wp2_with fail
  clear A0 A1 A2 B0 B1 B2
  replace A := A.drew
  replace B := B.drew
  replace h1 := h1.drew
  replace h2 := h2.drew
  replace u4 := u4.drew
  replace o5 := o5.drew
  replace o6 := o6.drew
  replace u7 := u7.drew
  replace K := K.drew
  have sS := And.intro (And.intro B.cells.1 (B.cells.2.1)) (And.intro A.cells.1 (A.cells.2.1))
  first
    | (go_region_held3 (fun wx : World => (wx.cell? ⟨w5.heap.size, 0, none⟩ = some (.int .i64 m1) ∧ wx.cell? ⟨w5.heap.size, 1, none⟩ = some (.slice p5 gs1.length e5)) ∧ (wx.cell? ⟨w.heap.size, 0, none⟩ = some (.int .i64 m1) ∧ wx.cell? ⟨w.heap.size, 1, none⟩ = some (.slice a1 gs1.length c1))) (first | (with_reducible assumption)) (first | (go_at_call 19; (with_reducible refine (toNet_any m1 _ gs1 _ h1 hn1).mono ?_); rintro e w9 ⟨v8, rfl, o8, hb⟩; obtain ⟨p8, e8, rfl, _⟩ := RowS.of_own (by omega) o8; replace A := A.keep hb; replace B := B.keep hb; replace h1 := h1.below hb; replace h2 := h2.below hb; replace u4 := u4.below hb; replace o5 := o5.below hb; replace o6 := o6.below hb; replace u7 := u7.below hb; replace K := below_two K hb; clear hb; have q8 := gates_own o8; clear o8; replace sS := And.intro (And.intro B.cells.1 (B.cells.2.1)) (And.intro A.cells.1 (A.cells.2.1))) | (go_at_call 21; (with_reducible refine (eqNet_same m1 _ gs1 _ _ (gates_own o5) q8).mono ?_); rintro e w9 ⟨rfl, hb⟩; replace A := A.keep hb; replace B := B.keep hb; replace h1 := h1.below hb; replace h2 := h2.below hb; replace u4 := u4.below hb; replace o5 := o5.below hb; replace o6 := o6.below hb; replace u7 := u7.below hb; replace q8 := q8.below hb; replace K := below_two K hb; clear hb; replace sS := And.intro (And.intro B.cells.1 (B.cells.2.1)) (And.intro A.cells.1 (A.cells.2.1)))))
    | fail
  clear sS
  obtain ⟨A0, A1, A2⟩ := A.cells
  obtain ⟨B0, B1, B2⟩ := B.cells
  go_wp2_with fail
  refine (toBoolS_any _ l _ h2 hn2).mono ?_; rintro e w10 ⟨v9, rfl, o9, hb⟩
  obtain ⟨p9, e9, rfl, _⟩ := Row.of_own o9
  clear A0 A1 A2 B0 B1 B2
  replace A := A.keep hb
  replace B := B.keep hb
  replace h1 := h1.below hb
  replace h2 := h2.below hb
  replace u4 := u4.below hb
  replace o5 := o5.below hb
  replace o6 := o6.below hb
  replace u7 := u7.below hb
  replace q8 := q8.below hb
  replace K := below_two K hb
  clear hb
  have q9 := Bools.of_own o9
  have n9 := nilOrB_own o9
  clear o9
  obtain ⟨A0, A1, A2⟩ := A.cells
  obtain ⟨B0, B1, B2⟩ := B.cells
  go_wp2_with fail
  refine (eqBoolS_any _ _ l l _ (Bools.of_own o6) q9).mono ?_; rintro e w11 d
  obtain ⟨rfl, hb⟩ := d.below
  rw [decide_eq_true rfl]
  clear A0 A1 A2 B0 B1 B2
  replace A := A.keep hb
  replace B := B.keep hb
  replace h1 := h1.below hb
  replace h2 := h2.below hb
  replace u4 := u4.below hb
  replace o5 := o5.below hb
  replace o6 := o6.below hb
  replace u7 := u7.below hb
  replace q8 := q8.below hb
  replace q9 := q9.below hb
  replace K := below_two K hb
  clear hb
  obtain ⟨A0, A1, A2⟩ := A.cells
  obtain ⟨B0, B1, B2⟩ := B.cells
  go_wp2_with fail
  refine (markNet_any m1 _ _ gs1.length _ _ o5 (by omega)).mono ?_; rintro e w12 ⟨qq, rfl, hqq, hg⟩
  clear A0 A1 A2 B0 B1 B2
  replace u4 := own_other u4 hg nd45.out
  replace o6 := own_other o6 hg nd65.out
  replace u7 := own_other u7 hg nd75.out
  replace A := blk_row A hg ndA5.out
  have K' := below_grows K hg ndK5.out
  clear K
  have K := K'
  clear K'
  replace h1 := h10.below K
  replace h2 := h20.below K
  clear hg o5 B q8 q9 nd45 nd65 nd75 ndA5 ndK5
  obtain ⟨A0, A1, A2⟩ := A.cells
  go_wp2_with fail
  obtain ⟨q6, hq6⟩ : ∃ q : Nat, q = qq + l.length := ⟨_, rfl⟩
  have T6 := markBoolS_any _ _ l.length qq _ _ o6 (by omega)
  unfold Marked at T6
  rw [← hq6] at T6
  have hq60 : ¬ (q6 : Int) < 0 := by omega
  clear hq6
  refine T6.mono ?_; rintro e w13 ⟨rfl, _, hg⟩
  clear A0 A1 A2
  clear T6
  replace u4 := own_other u4 hg nd46.out
  replace u7 := own_other u7 hg nd76.out
  replace A := blk_row A hg ndA6.out
  have K' := below_grows K hg ndK6.out
  clear K
  have K := K'
  clear K'
  replace h1 := h10.below K
  replace h2 := h20.below K
  clear hg o6 nd46 nd76 ndA6 ndK6
  obtain ⟨A0, A1, A2⟩ := A.cells
  go_wp2_with fail
  refine (eqBoolS_any _ _ r r _ (Bools.of_own u7) (Bools.of_own u4)).mono ?_; rintro e w14 d
  obtain ⟨rfl, hb⟩ := d.below
  rw [decide_eq_true rfl]
  clear A0 A1 A2
  replace A := A.keep hb
  replace h1 := h1.below hb
  replace h2 := h2.below hb
  replace u4 := u4.below hb
  replace u7 := u7.below hb
  replace K := below_two K hb
  clear hb
  obtain ⟨A0, A1, A2⟩ := A.cells
  go_wp2_with fail
  refine (markBoolS_any _ _ r.length 1 _ _ u7 (by omega)).mono ?_; rintro e w15 ⟨rfl, u7', hg⟩
  clear A0 A1 A2
  clear u7
  have u7 := u7'
  clear u7'
  replace u4 := own_other u4 hg nd47.out
  replace A := blk_row A hg ndA7.out
  have K' := below_grows K hg ndK7.out
  clear K
  have K := K'
  clear K' hg nd47 ndA7 ndK7
  replace h1 := h10.below K
  replace h2 := h20.below K
  obtain ⟨A0, A1, A2⟩ := A.cells
  go_wp2_with fail
  have UB := Bools.of_own (l := (List.range r.length).map (boolMark 1)) (by have e : ((List.range r.length).map (boolMark 1)).map Value.bool = (List.range r.length).map (fun i => Value.bool (boolMark 1 i)) := (by rw [List.map_map]; rfl); rw [e]; simpa using u7)
  have HC := Lib.hid (heldBoolS_any _ r.length 1 _ UB (by omega))
  clear UB
  refine HC.out.mono ?_; rintro e w16 ⟨rfl, rfl⟩
  clear HC
  go_wp2_with fail
  refine (toNet_any m1 _ gs1 _ h1 hn1).mono ?_; rintro e w17 ⟨v10, rfl, o10, hb⟩
  obtain ⟨p10, e10, rfl, _⟩ := RowS.of_own (by omega) o10
  clear A0 A1 A2
  replace A := A.keep hb
  replace h1 := h1.below hb
  replace h2 := h2.below hb
  replace u4 := u4.below hb
  replace u7 := u7.below hb
  replace K := below_two K hb
  clear hb
  have q10 := gates_own o10
  have n10 := nilOrB_own o10
  clear o10
  obtain ⟨A0, A1, A2⟩ := A.cells
  go_wp2_with fail
  refine (toBoolS_any _ l _ h2 hn2).mono ?_; rintro e w18 ⟨v11, rfl, o11, hb⟩
  obtain ⟨p11, e11, rfl, _⟩ := Row.of_own o11
  clear A0 A1 A2
  replace A := A.keep hb
  replace h1 := h1.below hb
  replace h2 := h2.below hb
  replace u4 := u4.below hb
  replace u7 := u7.below hb
  replace q10 := q10.below hb
  replace K := below_two K hb
  clear hb
  have q11 := Bools.of_own o11
  have n11 := nilOrB_own o11
  clear o11
  obtain ⟨A0, A1, A2⟩ := A.cells
  go_wp2_with fail
  refine (CI.out _ _ _ q10 q11 n10 n11).mono ?_; rintro e w19 ⟨y12, rfl, u12, hb⟩
  obtain ⟨p12, e12, rfl, _⟩ := Row.of_own u12
  clear A0 A1 A2
  replace A := A.keep hb
  replace h1 := h1.below hb
  replace h2 := h2.below hb
  replace u4 := u4.below hb
  replace u7 := u7.below hb
  replace q10 := q10.below hb
  replace q11 := q11.below hb
  replace K := below_two K hb
  clear hb
  obtain ⟨A0, A1, A2⟩ := A.cells
  go_wp2_with fail
  refine (eqBoolS_any _ _ r r _ (Bools.of_own u12) (Bools.of_own u4)).mono ?_; rintro e w20 d
  obtain ⟨rfl, hb⟩ := d.below
  rw [decide_eq_true rfl]
  clear A0 A1 A2
  replace A := A.keep hb
  replace h1 := h1.below hb
  replace h2 := h2.below hb
  replace u4 := u4.below hb
  replace u7 := u7.below hb
  replace q10 := q10.below hb
  replace q11 := q11.below hb
  replace u12 := u12.below hb
  replace K := below_two K hb
  clear hb
  obtain ⟨A0, A1, A2⟩ := A.cells
  go_wp2_with fail
  have UB := Bools.of_own (l := (List.range r.length).map (boolMark 1)) (by have e : ((List.range r.length).map (boolMark 1)).map Value.bool = (List.range r.length).map (fun i => Value.bool (boolMark 1 i)) := (by rw [List.map_map]; rfl); rw [e]; simpa using u7)
  have HC := Lib.hid (heldBoolS_any _ r.length 1 _ UB (by omega))
  clear UB
  refine HC.out.mono ?_; rintro e w21 ⟨rfl, rfl⟩
  clear HC
  go_wp2_with fail
  go_ret
  exact ⟨rfl, K⟩
end Go.Proofs.Yteeaafdgkepaeaa
