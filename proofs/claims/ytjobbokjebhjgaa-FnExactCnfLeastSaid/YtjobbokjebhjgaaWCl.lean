/- The walk of FnExactCnfLeast: for all arguments the law returns true and leaves alone what was there. -/
import Derived.Test.YtjobbokjebhjgaaCn
import Derived.Deep.DeepCutAuto
namespace Go.Proofs.Ytjobbokjebhjgaa
open Go.RowKit

set_option linter.unusedVariables false in
set_option maxRecDepth 20000 in
set_option maxHeartbeats 8000000 in
theorem walk_FnExactCnfLeast (m1 : Int) (_ : (Lit.int .i64 m1).wf = true) (v1 : Value) (ls1 : List (List Int)) (wl1 : ∀ i, i < ls1.length → ∀ x ∈ ls1.getD i [], (Lit.int .i64 x).wf = true) {w : World} (h1 : IntSS w v1 ls1) :
    Calls Try.prog 13 #[.agg #[.int .i64 m1, v1]] w fun e w' => e = .returned (.bool true) ∧ Below w.heap.size w w' := by
  have h10 := h1
  obtain ⟨z, hz⟩ : ∃ z, z = leastL m1 ls1 := ⟨_, rfl⟩
  have hl10 : z.1.length ≤ 10 := by rw [hz]; exact leastL_len _ _
  obtain ⟨l, b⟩ := z
  dsimp only at hl10
  have hwf0 : ssWf ls1 := fun i hi => intsWf_of (wl1 i hi)
  have CS : Hid (∀ v' w', IntSS w' v' ls1 → Calls Try.prog 39 #[.agg #[.int .i64 m1, v']] w' (LeastRet (l, b) w')) := fun v' w' h => by rw [hz]; exact cnfLeast_spec m1 v' ls1 w' h hwf0
  have CI : Hid (∀ v' w', IntSS w' v' ls1 → Calls Try.prog 38 #[.agg #[.int .i64 m1, v']] w' (LeastRet (l, b) w')) := fun v' w' h => by rw [hz]; exact cnfLeast_impl m1 v' ls1 w' h hwf0
  clear hz hwf0
  have hwf : Hid (ssWf ls1) := fun i hi => intsWf_of (wl1 i hi)
  clear wl1
  obtain ⟨a1, c1, rfl⟩ := h1.form
  obtain ⟨s1, s2, s3⟩ := szSS_le ls1 1048576 (by omega)
  have C1 : ∀ w', IntSS w' (.slice a1 ls1.length c1) ls1 → Calls Try.prog 21 #[.agg #[.int .i64 m1, .slice a1 ls1.length c1], .int .i64 1048576] w' fun e w'' => e = .returned (.int .i64 (szSS 1048576 ls1)) ∧ Below w'.heap.size w' w'' := fun w' h => szCnf_any m1 _ ls1 1048576 w' h (by omega) (by omega)
  generalize szSS 1048576 ls1 = z1 at *
  have D1 := Lib.hid C1
  clear C1
  by_cases hz1 : z1 < 0
  · clear s3
    go_enter Try.func13, Try.ntmps13
    go_wp2_with fail
    replace h1 := h1.below (below_self_alloc w (.cells #[.int .i64 m1, .slice a1 ls1.length c1] 35))
    have K := below_self_alloc w (.cells #[.int .i64 m1, .slice a1 ls1.length c1] 35)
    have A := blk_new w (.int .i64 m1) (.slice a1 ls1.length c1) 35
    obtain ⟨A0, A1, A2⟩ := A.cells
    refine (D1.out _ h1).mono ?_; rintro e w1 ⟨rfl, hb⟩
    clear A0 A1 A2
    replace A := A.keep hb
    replace h1 := h1.below hb
    replace K := below_two K hb
    clear hb
    obtain ⟨A0, A1, A2⟩ := A.cells
    go_wp2_with fail
    go_ret
    exact ⟨rfl, K⟩
  obtain ⟨t1, u1⟩ := s3 (by omega)
  have hn1 : ls1.length ≤ 1048576 := by omega
  have HM1 : Hid (∀ i, i < ls1.length → (ls1.getD i []).length ≤ 1048576) := fun i hi => by have := u1 i hi; omega
  clear s3 u1 t1
  go_enter Try.func13, Try.ntmps13
  go_wp2_with fail
  replace h1 := h1.below (below_self_alloc w (.cells #[.int .i64 m1, .slice a1 ls1.length c1] 35))
  have K := below_self_alloc w (.cells #[.int .i64 m1, .slice a1 ls1.length c1] 35)
  have A := blk_new w (.int .i64 m1) (.slice a1 ls1.length c1) 35
  obtain ⟨A0, A1, A2⟩ := A.cells
  refine (D1.out _ h1).mono ?_; rintro e w1 ⟨rfl, hb⟩
  clear A0 A1 A2
  replace A := A.keep hb
  replace h1 := h1.below hb
  replace K := below_two K hb
  clear hb
  obtain ⟨A0, A1, A2⟩ := A.cells
  clear D1
  go_wp2_with fail
  refine (toCnf_any m1 _ ls1 _ h1 hn1 HM1.out).mono ?_; rintro e w2 ⟨v2, fs2, rfl, o2, hb⟩
  obtain ⟨p2, e2, rfl, _⟩ := Row.of_own o2.top
  clear A0 A1 A2
  replace A := A.keep hb
  replace h1 := h1.below hb
  replace K := below_two K hb
  clear hb
  have q2 := o2.ints
  clear o2
  obtain ⟨A0, A1, A2⟩ := A.cells
  go_wp2_with fail
  refine (CS.out _ _ q2).mono ?_; rintro e w3 ⟨y3, rfl, u3, hb⟩
  obtain ⟨p3, c3, rfl, _⟩ := Row.of_own u3
  clear A0 A1 A2
  replace A := A.keep hb
  replace h1 := h1.below hb
  replace q2 := q2.below hb
  replace K := below_two K hb
  clear hb
  obtain ⟨A0, A1, A2⟩ := A.cells
  clear A0 A1 A2
  clear q2
  obtain ⟨A0, A1, A2⟩ := A.cells
  go_wp2_with fail
  refine (toCnf_any m1 _ ls1 _ h1 hn1 HM1.out).mono ?_; rintro e w4 ⟨v4, fs4, rfl, o4, hb⟩
  obtain ⟨p4, e4, rfl, _⟩ := Row.of_own o4.top
  have nd3 : Hid (∀ k, Value.ownBlock (.slice p3 l.length c3) = some k → ¬ rowOf fs4 ls1.length k) := fun k hk hs => by have h1 := (u3.lt k hk).2; have h2 := (rowOf_ge o4 k hs).1; omega
  have ndA : ¬ rowOf fs4 ls1.length w.heap.size := fun hs => by have h1 := A.lt; have h2 := (rowOf_ge o4 _ hs).1; omega
  have ndK : Hid (∀ k, rowOf fs4 ls1.length k → w.heap.size ≤ k) := fun k hs => by have h1 := A.lt; have h2 := (rowOf_ge o4 k hs).1; omega
  clear A0 A1 A2
  replace A := A.keep hb
  replace h1 := h1.below hb
  replace u3 := u3.below hb
  replace K := below_two K hb
  clear hb
  have nA : ¬ w.heap.size = w4.heap.size := Nat.ne_of_lt A.lt
  replace A := A.alloc (.cells #[.int .i64 m1, .slice p4 ls1.length e4] 38)
  replace h1 := h1.below (below_self_alloc w4 (.cells #[.int .i64 m1, .slice p4 ls1.length e4] 38))
  replace u3 := u3.below (below_self_alloc w4 (.cells #[.int .i64 m1, .slice p4 ls1.length e4] 38))
  replace o4 := o4.below (below_self_alloc w4 (.cells #[.int .i64 m1, .slice p4 ls1.length e4] 38))
  replace K := below_step K (.cells #[.int .i64 m1, .slice p4 ls1.length e4] 38)
  have B := blk_new w4 (.int .i64 m1) (.slice p4 ls1.length e4) 38
  obtain ⟨A0, A1, A2⟩ := A.cells
  obtain ⟨B0, B1, B2⟩ := B.cells
  go_wp2_with fail
  refine (CI.out _ _ o4.ints).mono ?_; rintro e w5 ⟨y5, rfl, u5, hb⟩
  obtain ⟨p5, c5, rfl, _⟩ := Row.of_own u5
  have nd5 : Hid (∀ k, Value.ownBlock (.slice p5 l.length c5) = some k → ¬ rowOf fs4 ls1.length k) := fun k hk hs => by have h1 := (u5.lt k hk).1; have h2 := (rowOf_ge o4 k hs).2; omega
  have nd35 : Hid (∀ k, Value.ownBlock (.slice p3 l.length c3) = some k → Value.ownBlock (.slice p5 l.length c5) ≠ some k) := fun k hk e => by have h1 := (u5.lt k e).1; have h2 := (u3.lt k hk).2; omega
  have ndA5 : Hid (Value.ownBlock (.slice p5 l.length c5) ≠ some w.heap.size) := fun e => by have h1 := (u5.lt _ e).1; have h2 := A.lt; omega
  have ndK5 : Hid (∀ k, Value.ownBlock (.slice p5 l.length c5) = some k → w.heap.size ≤ k) := fun k e => by have h1 := (u5.lt _ e).1; have h2 := A.lt; omega
  clear A0 A1 A2 B0 B1 B2
  clear nA
  replace A := A.keep hb
  replace B := B.keep hb
  replace h1 := h1.below hb
  replace u3 := u3.below hb
  replace o4 := o4.below hb
  replace K := below_two K hb
  clear hb
  obtain ⟨A0, A1, A2⟩ := A.cells
  obtain ⟨B0, B1, B2⟩ := B.cells
  go_wp2_with fail
  refine (eqBoolS_any _ _ l l _ (Bools.of_own u5) (Bools.of_own u3)).mono ?_; rintro e w6 d
  obtain ⟨rfl, hb⟩ := d.below
  rw [decide_eq_true rfl]
  clear A0 A1 A2 B0 B1 B2
  replace A := A.keep hb
  replace B := B.keep hb
  replace h1 := h1.below hb
  replace u3 := u3.below hb
  replace o4 := o4.below hb
  replace u5 := u5.below hb
  replace K := below_two K hb
  clear hb
  obtain ⟨A0, A1, A2⟩ := A.cells
  obtain ⟨B0, B1, B2⟩ := B.cells
  go_wp2_with fail
  clear A0 A1 A2 B0 B1 B2
  replace A := A.drew
  replace B := B.drew
  replace h1 := h1.drew
  replace u3 := u3.drew
  replace o4 := o4.drew
  replace u5 := u5.drew
  replace K := K.drew
  have sS := And.intro (And.intro B.cells.1 (B.cells.2.1)) (And.intro A.cells.1 (A.cells.2.1))
  first
    | (go_region_held3 (fun wx : World => (wx.cell? ⟨w4.heap.size, 0, none⟩ = some (.int .i64 m1) ∧ wx.cell? ⟨w4.heap.size, 1, none⟩ = some (.slice p4 ls1.length e4)) ∧ (wx.cell? ⟨w.heap.size, 0, none⟩ = some (.int .i64 m1) ∧ wx.cell? ⟨w.heap.size, 1, none⟩ = some (.slice a1 ls1.length c1))) (first | (with_reducible assumption)) (first | (go_at_call 23; (with_reducible refine (toCnf_any m1 _ ls1 _ h1 hn1 HM1.out).mono ?_); rintro e w7 ⟨v6, fs6, rfl, o6, hb⟩; obtain ⟨p6, e6, rfl, _⟩ := Row.of_own o6.top; replace A := A.keep hb; replace B := B.keep hb; replace h1 := h1.below hb; replace u3 := u3.below hb; replace o4 := o4.below hb; replace u5 := u5.below hb; replace K := below_two K hb; clear hb; have q6 := o6.ints; clear o6; replace sS := And.intro (And.intro B.cells.1 (B.cells.2.1)) (And.intro A.cells.1 (A.cells.2.1))) | (go_at_call 25; (with_reducible refine (eqCnf_same m1 _ ls1 _ _ o4.ints q6).mono ?_); rintro e w7 ⟨rfl, hb⟩; replace A := A.keep hb; replace B := B.keep hb; replace h1 := h1.below hb; replace u3 := u3.below hb; replace o4 := o4.below hb; replace u5 := u5.below hb; replace q6 := q6.below hb; replace K := below_two K hb; clear hb; replace sS := And.intro (And.intro B.cells.1 (B.cells.2.1)) (And.intro A.cells.1 (A.cells.2.1)))))
    | fail
  clear sS
  obtain ⟨A0, A1, A2⟩ := A.cells
  obtain ⟨B0, B1, B2⟩ := B.cells
  go_wp2_with fail
  refine (markCnf_any m1 _ ls1 fs4 _ _ _ o4 hn1 HM1.out).mono ?_; rintro e w8 ⟨qq, rfl, O⟩
  clear A0 A1 A2 B0 B1 B2
  replace u3 := O.own u3 nd3.out
  replace u5 := O.own u5 nd5.out
  replace A := Only.blk A O ndA
  have K' := Only.below K O ndK.out
  clear K
  have K := K'
  clear K'
  replace h1 := h10.below K
  clear O o4 B q6 nd3 nd5 ndA ndK
  obtain ⟨A0, A1, A2⟩ := A.cells
  have hq0 : ¬ (qq : Int) < 0 := by omega
  go_wp2_with fail
  refine (eqBoolS_any _ _ l l _ (Bools.of_own u5) (Bools.of_own u3)).mono ?_; rintro e w9 d
  obtain ⟨rfl, hb⟩ := d.below
  rw [decide_eq_true rfl]
  clear A0 A1 A2
  replace A := A.keep hb
  replace h1 := h1.below hb
  replace u3 := u3.below hb
  replace u5 := u5.below hb
  replace K := below_two K hb
  clear hb
  obtain ⟨A0, A1, A2⟩ := A.cells
  go_wp2_with fail
  refine (markBoolS_any _ _ l.length 1 _ _ u5 (by omega)).mono ?_; rintro e w10 ⟨rfl, u5', hg⟩
  clear A0 A1 A2
  clear u5
  have u5 := u5'
  clear u5'
  replace u3 := own_other u3 hg nd35.out
  replace A := blk_row A hg ndA5.out
  have K' := below_grows K hg ndK5.out
  clear K
  have K := K'
  clear K' hg nd35 ndA5 ndK5
  replace h1 := h10.below K
  obtain ⟨A0, A1, A2⟩ := A.cells
  go_wp2_with fail
  have UB := Bools.of_own (l := (List.range l.length).map (boolMark 1)) (by rw [List.map_map]; exact u5)
  have elen : ((List.range l.length).map (boolMark 1)).length = l.length := by simp
  have HC := Lib.hid (heldBoolS_any _ l.length 1 _ UB (by omega))
  clear UB elen
  refine HC.out.mono ?_; rintro e w11 ⟨rfl, rfl⟩
  clear HC
  go_wp2_with fail
  refine (toCnf_any m1 _ ls1 _ h1 hn1 HM1.out).mono ?_; rintro e w12 ⟨v7, fs7, rfl, o7, hb⟩
  obtain ⟨p7, e7, rfl, _⟩ := Row.of_own o7.top
  clear A0 A1 A2
  replace A := A.keep hb
  replace h1 := h1.below hb
  replace u3 := u3.below hb
  replace u5 := u5.below hb
  replace K := below_two K hb
  clear hb
  have q7 := o7.ints
  clear o7
  obtain ⟨A0, A1, A2⟩ := A.cells
  go_wp2_with fail
  refine (CI.out _ _ q7).mono ?_; rintro e w13 ⟨y8, rfl, u8, hb⟩
  obtain ⟨p8, c8, rfl, _⟩ := Row.of_own u8
  clear A0 A1 A2
  replace A := A.keep hb
  replace h1 := h1.below hb
  replace u3 := u3.below hb
  replace u5 := u5.below hb
  replace q7 := q7.below hb
  replace K := below_two K hb
  clear hb
  obtain ⟨A0, A1, A2⟩ := A.cells
  go_wp2_with fail
  refine (eqBoolS_any _ _ l l _ (Bools.of_own u8) (Bools.of_own u3)).mono ?_; rintro e w14 d
  obtain ⟨rfl, hb⟩ := d.below
  rw [decide_eq_true rfl]
  clear A0 A1 A2
  replace A := A.keep hb
  replace h1 := h1.below hb
  replace u3 := u3.below hb
  replace u5 := u5.below hb
  replace q7 := q7.below hb
  replace u8 := u8.below hb
  replace K := below_two K hb
  clear hb
  obtain ⟨A0, A1, A2⟩ := A.cells
  go_wp2_with fail
  have UB := Bools.of_own (l := (List.range l.length).map (boolMark 1)) (by rw [List.map_map]; exact u5)
  have elen : ((List.range l.length).map (boolMark 1)).length = l.length := by simp
  have HC := Lib.hid (heldBoolS_any _ l.length 1 _ UB (by omega))
  clear UB elen
  refine HC.out.mono ?_; rintro e w15 ⟨rfl, rfl⟩
  clear HC
  go_wp2_with fail
  go_ret
  exact ⟨rfl, K⟩
end Go.Proofs.Ytjobbokjebhjgaa
