/- The walk of FnExactSatSame: for all arguments the law returns true and leaves alone what was there. -/
import Derived.Test.YtjobbokjebhjgaaCa
import Derived.Deep.DeepCutAuto
namespace Go.Proofs.Ytjobbokjebhjgaa
open Go.RowKit

set_option linter.unusedVariables false in
set_option maxRecDepth 20000 in
set_option maxHeartbeats 8000000 in
theorem walk_FnExactSatSame (vp1 : Value) (p1 : List Int) (_ : ∀ x ∈ p1, (Lit.int .i64 x).wf = true) (vq1 : Value) (q1 : List Int) (_ : ∀ x ∈ q1, (Lit.int .i64 x).wf = true) (vl1 : Value) (ls1 : List (List Int)) (_ : ∀ i, i < ls1.length → ∀ x ∈ ls1.getD i [], (Lit.int .i64 x).wf = true) (m1 : Int) (_ : (Lit.int .i64 m1).wf = true) (vp2 : Value) (p2 : List Int) (_ : ∀ x ∈ p2, (Lit.int .i64 x).wf = true) (vq2 : Value) (q2 : List Int) (_ : ∀ x ∈ q2, (Lit.int .i64 x).wf = true) (vl2 : Value) (ls2 : List (List Int)) (_ : ∀ i, i < ls2.length → ∀ x ∈ ls2.getD i [], (Lit.int .i64 x).wf = true) (m2 : Int) (_ : (Lit.int .i64 m2).wf = true) {w : World} (hp1 : Ints w vp1 p1) (hq1 : Ints w vq1 q1) (hl1 : IntSS w vl1 ls1) (hp2 : Ints w vp2 p2) (hq2 : Ints w vq2 q2) (hl2 : IntSS w vl2 ls2) :
    Calls Try.prog 7 #[.agg #[vp1, vq1, vl1, .int .i64 m1], .agg #[vp2, vq2, vl2, .int .i64 m2]] w fun e w' => e = .returned (.bool true) ∧ Below w.heap.size w w' := by
  obtain ⟨ap1, cp1, rfl⟩ := hp1.form
  obtain ⟨aq1, cq1, rfl⟩ := hq1.form
  obtain ⟨al1, cl1, rfl⟩ := hl1.form
  obtain ⟨ap2, cp2, rfl⟩ := hp2.form
  obtain ⟨aq2, cq2, rfl⟩ := hq2.form
  obtain ⟨al2, cl2, rfl⟩ := hl2.form
  obtain ⟨s1a, s1b, s3⟩ := szSat_le p1 q1 ls1 1048576 (by omega)
  have C1 : ∀ w', Ints w' (.slice ap1 p1.length cp1) p1 → Ints w' (.slice aq1 q1.length cq1) q1 → IntSS w' (.slice al1 ls1.length cl1) ls1 → Calls Try.prog 28 #[.agg #[.slice ap1 p1.length cp1, .slice aq1 q1.length cq1, .slice al1 ls1.length cl1, .int .i64 m1], .int .i64 1048576] w' fun e w'' => e = .returned (.int .i64 (szSat 1048576 p1 q1 ls1)) ∧ Below w'.heap.size w' w'' := fun w' h1 h2 h3 => szSat_any _ _ _ m1 p1 q1 ls1 1048576 w' h1 h2 h3 (by omega) (by omega)
  generalize szSat 1048576 p1 q1 ls1 = z1 at *
  have D1 := Lib.hid C1
  clear C1
  by_cases hz1 : z1 < 0
  · clear s3
    go_enter Try.func7, Try.ntmps7
    go_wp2_with fail
    replace hp1 := hp1.below (below_step (below_self_alloc w (.cells #[.slice ap1 p1.length cp1, .slice aq1 q1.length cq1, .slice al1 ls1.length cl1, .int .i64 m1] 44)) (.cells #[.slice ap2 p2.length cp2, .slice aq2 q2.length cq2, .slice al2 ls2.length cl2, .int .i64 m2] 44))
    replace hq1 := hq1.below (below_step (below_self_alloc w (.cells #[.slice ap1 p1.length cp1, .slice aq1 q1.length cq1, .slice al1 ls1.length cl1, .int .i64 m1] 44)) (.cells #[.slice ap2 p2.length cp2, .slice aq2 q2.length cq2, .slice al2 ls2.length cl2, .int .i64 m2] 44))
    replace hl1 := hl1.below (below_step (below_self_alloc w (.cells #[.slice ap1 p1.length cp1, .slice aq1 q1.length cq1, .slice al1 ls1.length cl1, .int .i64 m1] 44)) (.cells #[.slice ap2 p2.length cp2, .slice aq2 q2.length cq2, .slice al2 ls2.length cl2, .int .i64 m2] 44))
    replace hp2 := hp2.below (below_step (below_self_alloc w (.cells #[.slice ap1 p1.length cp1, .slice aq1 q1.length cq1, .slice al1 ls1.length cl1, .int .i64 m1] 44)) (.cells #[.slice ap2 p2.length cp2, .slice aq2 q2.length cq2, .slice al2 ls2.length cl2, .int .i64 m2] 44))
    replace hq2 := hq2.below (below_step (below_self_alloc w (.cells #[.slice ap1 p1.length cp1, .slice aq1 q1.length cq1, .slice al1 ls1.length cl1, .int .i64 m1] 44)) (.cells #[.slice ap2 p2.length cp2, .slice aq2 q2.length cq2, .slice al2 ls2.length cl2, .int .i64 m2] 44))
    replace hl2 := hl2.below (below_step (below_self_alloc w (.cells #[.slice ap1 p1.length cp1, .slice aq1 q1.length cq1, .slice al1 ls1.length cl1, .int .i64 m1] 44)) (.cells #[.slice ap2 p2.length cp2, .slice aq2 q2.length cq2, .slice al2 ls2.length cl2, .int .i64 m2] 44))
    have K := below_step (below_self_alloc w (.cells #[.slice ap1 p1.length cp1, .slice aq1 q1.length cq1, .slice al1 ls1.length cl1, .int .i64 m1] 44)) (.cells #[.slice ap2 p2.length cp2, .slice aq2 q2.length cq2, .slice al2 ls2.length cl2, .int .i64 m2] 44)
    have A := (blk4_new w (.slice ap1 p1.length cp1) (.slice aq1 q1.length cq1) (.slice al1 ls1.length cl1) (.int .i64 m1) 44).alloc (.cells #[.slice ap2 p2.length cp2, .slice aq2 q2.length cq2, .slice al2 ls2.length cl2, .int .i64 m2] 44)
    have B := blk4_new1 w (.cells #[.slice ap1 p1.length cp1, .slice aq1 q1.length cq1, .slice al1 ls1.length cl1, .int .i64 m1] 44) (.slice ap2 p2.length cp2) (.slice aq2 q2.length cq2) (.slice al2 ls2.length cl2) (.int .i64 m2) 44
    obtain ⟨A0, A1, A2, A3, A4⟩ := A.cells
    obtain ⟨B0, B1, B2, B3, B4⟩ := B.cells
    refine (D1.out _ hp1 hq1 hl1).mono ?_; rintro e w1 ⟨rfl, hb⟩
    clear A0 A1 A2 A3 A4 B0 B1 B2 B3 B4
    replace A := A.keep hb
    replace B := B.keep hb
    replace hp1 := hp1.below hb
    replace hq1 := hq1.below hb
    replace hl1 := hl1.below hb
    replace hp2 := hp2.below hb
    replace hq2 := hq2.below hb
    replace hl2 := hl2.below hb
    replace K := below_two K hb
    clear hb
    obtain ⟨A0, A1, A2, A3, A4⟩ := A.cells
    obtain ⟨B0, B1, B2, B3, B4⟩ := B.cells
    go_wp2_with fail
    go_ret
    exact ⟨rfl, K⟩
  obtain ⟨t1, t2, t3, u1⟩ := s3 (by omega)
  have np1 : p1.length ≤ 1048576 := by omega
  have nq1 : q1.length ≤ 1048576 := by omega
  have nl1 : ls1.length ≤ 1048576 := by omega
  have HM1 : Hid (∀ i, i < ls1.length → (ls1.getD i []).length ≤ 1048576) := fun i hi => by have := u1 i hi; omega
  clear s3 u1 t1 t2 t3
  obtain ⟨s2a, s2b, s3⟩ := szSat_le p2 q2 ls2 z1 (by omega)
  have C1 : ∀ w', Ints w' (.slice ap2 p2.length cp2) p2 → Ints w' (.slice aq2 q2.length cq2) q2 → IntSS w' (.slice al2 ls2.length cl2) ls2 → Calls Try.prog 28 #[.agg #[.slice ap2 p2.length cp2, .slice aq2 q2.length cq2, .slice al2 ls2.length cl2, .int .i64 m2], .int .i64 z1] w' fun e w'' => e = .returned (.int .i64 (szSat z1 p2 q2 ls2)) ∧ Below w'.heap.size w' w'' := fun w' h1 h2 h3 => szSat_any _ _ _ m2 p2 q2 ls2 z1 w' h1 h2 h3 (by omega) (by omega)
  generalize szSat z1 p2 q2 ls2 = z2 at *
  have D2 := Lib.hid C1
  clear C1
  by_cases hz2 : z2 < 0
  · clear s3
    go_enter Try.func7, Try.ntmps7
    go_wp2_with fail
    replace hp1 := hp1.below (below_step (below_self_alloc w (.cells #[.slice ap1 p1.length cp1, .slice aq1 q1.length cq1, .slice al1 ls1.length cl1, .int .i64 m1] 44)) (.cells #[.slice ap2 p2.length cp2, .slice aq2 q2.length cq2, .slice al2 ls2.length cl2, .int .i64 m2] 44))
    replace hq1 := hq1.below (below_step (below_self_alloc w (.cells #[.slice ap1 p1.length cp1, .slice aq1 q1.length cq1, .slice al1 ls1.length cl1, .int .i64 m1] 44)) (.cells #[.slice ap2 p2.length cp2, .slice aq2 q2.length cq2, .slice al2 ls2.length cl2, .int .i64 m2] 44))
    replace hl1 := hl1.below (below_step (below_self_alloc w (.cells #[.slice ap1 p1.length cp1, .slice aq1 q1.length cq1, .slice al1 ls1.length cl1, .int .i64 m1] 44)) (.cells #[.slice ap2 p2.length cp2, .slice aq2 q2.length cq2, .slice al2 ls2.length cl2, .int .i64 m2] 44))
    replace hp2 := hp2.below (below_step (below_self_alloc w (.cells #[.slice ap1 p1.length cp1, .slice aq1 q1.length cq1, .slice al1 ls1.length cl1, .int .i64 m1] 44)) (.cells #[.slice ap2 p2.length cp2, .slice aq2 q2.length cq2, .slice al2 ls2.length cl2, .int .i64 m2] 44))
    replace hq2 := hq2.below (below_step (below_self_alloc w (.cells #[.slice ap1 p1.length cp1, .slice aq1 q1.length cq1, .slice al1 ls1.length cl1, .int .i64 m1] 44)) (.cells #[.slice ap2 p2.length cp2, .slice aq2 q2.length cq2, .slice al2 ls2.length cl2, .int .i64 m2] 44))
    replace hl2 := hl2.below (below_step (below_self_alloc w (.cells #[.slice ap1 p1.length cp1, .slice aq1 q1.length cq1, .slice al1 ls1.length cl1, .int .i64 m1] 44)) (.cells #[.slice ap2 p2.length cp2, .slice aq2 q2.length cq2, .slice al2 ls2.length cl2, .int .i64 m2] 44))
    have K := below_step (below_self_alloc w (.cells #[.slice ap1 p1.length cp1, .slice aq1 q1.length cq1, .slice al1 ls1.length cl1, .int .i64 m1] 44)) (.cells #[.slice ap2 p2.length cp2, .slice aq2 q2.length cq2, .slice al2 ls2.length cl2, .int .i64 m2] 44)
    have A := (blk4_new w (.slice ap1 p1.length cp1) (.slice aq1 q1.length cq1) (.slice al1 ls1.length cl1) (.int .i64 m1) 44).alloc (.cells #[.slice ap2 p2.length cp2, .slice aq2 q2.length cq2, .slice al2 ls2.length cl2, .int .i64 m2] 44)
    have B := blk4_new1 w (.cells #[.slice ap1 p1.length cp1, .slice aq1 q1.length cq1, .slice al1 ls1.length cl1, .int .i64 m1] 44) (.slice ap2 p2.length cp2) (.slice aq2 q2.length cq2) (.slice al2 ls2.length cl2) (.int .i64 m2) 44
    obtain ⟨A0, A1, A2, A3, A4⟩ := A.cells
    obtain ⟨B0, B1, B2, B3, B4⟩ := B.cells
    refine (D1.out _ hp1 hq1 hl1).mono ?_; rintro e w1 ⟨rfl, hb⟩
    clear A0 A1 A2 A3 A4 B0 B1 B2 B3 B4
    replace A := A.keep hb
    replace B := B.keep hb
    replace hp1 := hp1.below hb
    replace hq1 := hq1.below hb
    replace hl1 := hl1.below hb
    replace hp2 := hp2.below hb
    replace hq2 := hq2.below hb
    replace hl2 := hl2.below hb
    replace K := below_two K hb
    clear hb
    obtain ⟨A0, A1, A2, A3, A4⟩ := A.cells
    obtain ⟨B0, B1, B2, B3, B4⟩ := B.cells
    go_wp2_with fail
    refine (D2.out _ hp2 hq2 hl2).mono ?_; rintro e w2 ⟨rfl, hb⟩
    clear A0 A1 A2 A3 A4 B0 B1 B2 B3 B4
    replace A := A.keep hb
    replace B := B.keep hb
    replace hp1 := hp1.below hb
    replace hq1 := hq1.below hb
    replace hl1 := hl1.below hb
    replace hp2 := hp2.below hb
    replace hq2 := hq2.below hb
    replace hl2 := hl2.below hb
    replace K := below_two K hb
    clear hb
    obtain ⟨A0, A1, A2, A3, A4⟩ := A.cells
    obtain ⟨B0, B1, B2, B3, B4⟩ := B.cells
    go_wp2_with fail
    go_ret
    exact ⟨rfl, K⟩
  obtain ⟨t1, t2, t3, u1⟩ := s3 (by omega)
  have np2 : p2.length ≤ 1048576 := by omega
  have nq2 : q2.length ≤ 1048576 := by omega
  have nl2 : ls2.length ≤ 1048576 := by omega
  have HM2 : Hid (∀ i, i < ls2.length → (ls2.getD i []).length ≤ 1048576) := fun i hi => by have := u1 i hi; omega
  clear s3 u1 t1 t2 t3
  go_enter Try.func7, Try.ntmps7
  go_wp2_with fail
  replace hp1 := hp1.below (below_step (below_self_alloc w (.cells #[.slice ap1 p1.length cp1, .slice aq1 q1.length cq1, .slice al1 ls1.length cl1, .int .i64 m1] 44)) (.cells #[.slice ap2 p2.length cp2, .slice aq2 q2.length cq2, .slice al2 ls2.length cl2, .int .i64 m2] 44))
  replace hq1 := hq1.below (below_step (below_self_alloc w (.cells #[.slice ap1 p1.length cp1, .slice aq1 q1.length cq1, .slice al1 ls1.length cl1, .int .i64 m1] 44)) (.cells #[.slice ap2 p2.length cp2, .slice aq2 q2.length cq2, .slice al2 ls2.length cl2, .int .i64 m2] 44))
  replace hl1 := hl1.below (below_step (below_self_alloc w (.cells #[.slice ap1 p1.length cp1, .slice aq1 q1.length cq1, .slice al1 ls1.length cl1, .int .i64 m1] 44)) (.cells #[.slice ap2 p2.length cp2, .slice aq2 q2.length cq2, .slice al2 ls2.length cl2, .int .i64 m2] 44))
  replace hp2 := hp2.below (below_step (below_self_alloc w (.cells #[.slice ap1 p1.length cp1, .slice aq1 q1.length cq1, .slice al1 ls1.length cl1, .int .i64 m1] 44)) (.cells #[.slice ap2 p2.length cp2, .slice aq2 q2.length cq2, .slice al2 ls2.length cl2, .int .i64 m2] 44))
  replace hq2 := hq2.below (below_step (below_self_alloc w (.cells #[.slice ap1 p1.length cp1, .slice aq1 q1.length cq1, .slice al1 ls1.length cl1, .int .i64 m1] 44)) (.cells #[.slice ap2 p2.length cp2, .slice aq2 q2.length cq2, .slice al2 ls2.length cl2, .int .i64 m2] 44))
  replace hl2 := hl2.below (below_step (below_self_alloc w (.cells #[.slice ap1 p1.length cp1, .slice aq1 q1.length cq1, .slice al1 ls1.length cl1, .int .i64 m1] 44)) (.cells #[.slice ap2 p2.length cp2, .slice aq2 q2.length cq2, .slice al2 ls2.length cl2, .int .i64 m2] 44))
  have K := below_step (below_self_alloc w (.cells #[.slice ap1 p1.length cp1, .slice aq1 q1.length cq1, .slice al1 ls1.length cl1, .int .i64 m1] 44)) (.cells #[.slice ap2 p2.length cp2, .slice aq2 q2.length cq2, .slice al2 ls2.length cl2, .int .i64 m2] 44)
  have A := (blk4_new w (.slice ap1 p1.length cp1) (.slice aq1 q1.length cq1) (.slice al1 ls1.length cl1) (.int .i64 m1) 44).alloc (.cells #[.slice ap2 p2.length cp2, .slice aq2 q2.length cq2, .slice al2 ls2.length cl2, .int .i64 m2] 44)
  have B := blk4_new1 w (.cells #[.slice ap1 p1.length cp1, .slice aq1 q1.length cq1, .slice al1 ls1.length cl1, .int .i64 m1] 44) (.slice ap2 p2.length cp2) (.slice aq2 q2.length cq2) (.slice al2 ls2.length cl2) (.int .i64 m2) 44
  obtain ⟨A0, A1, A2, A3, A4⟩ := A.cells
  obtain ⟨B0, B1, B2, B3, B4⟩ := B.cells
  refine (D1.out _ hp1 hq1 hl1).mono ?_; rintro e w1 ⟨rfl, hb⟩
  clear A0 A1 A2 A3 A4 B0 B1 B2 B3 B4
  replace A := A.keep hb
  replace B := B.keep hb
  replace hp1 := hp1.below hb
  replace hq1 := hq1.below hb
  replace hl1 := hl1.below hb
  replace hp2 := hp2.below hb
  replace hq2 := hq2.below hb
  replace hl2 := hl2.below hb
  replace K := below_two K hb
  clear hb
  obtain ⟨A0, A1, A2, A3, A4⟩ := A.cells
  obtain ⟨B0, B1, B2, B3, B4⟩ := B.cells
  go_wp2_with fail
  refine (D2.out _ hp2 hq2 hl2).mono ?_; rintro e w2 ⟨rfl, hb⟩
  clear A0 A1 A2 A3 A4 B0 B1 B2 B3 B4
  replace A := A.keep hb
  replace B := B.keep hb
  replace hp1 := hp1.below hb
  replace hq1 := hq1.below hb
  replace hl1 := hl1.below hb
  replace hp2 := hp2.below hb
  replace hq2 := hq2.below hb
  replace hl2 := hl2.below hb
  replace K := below_two K hb
  clear hb
  obtain ⟨A0, A1, A2, A3, A4⟩ := A.cells
  obtain ⟨B0, B1, B2, B3, B4⟩ := B.cells
  clear D1 D2
  go_wp2_with fail
  clear A0 A1 A2 A3 A4 B0 B1 B2 B3 B4
  replace A := A.drew
  replace B := B.drew
  replace hp1 := hp1.drew
  replace hq1 := hq1.drew
  replace hl1 := hl1.drew
  replace hp2 := hp2.drew
  replace hq2 := hq2.drew
  replace hl2 := hl2.drew
  replace K := K.drew
  have sS := And.intro (And.intro A.cells.1 (And.intro A.cells.2.1 (And.intro A.cells.2.2.1 (A.cells.2.2.2.1)))) (And.intro B.cells.1 (And.intro B.cells.2.1 (And.intro B.cells.2.2.1 (B.cells.2.2.2.1))))
  first
    | (go_region_held3 (fun wx : World => (wx.cell? ⟨w.heap.size, 0, none⟩ = some (.slice ap1 p1.length cp1) ∧ wx.cell? ⟨w.heap.size, 1, none⟩ = some (.slice aq1 q1.length cq1) ∧ wx.cell? ⟨w.heap.size, 2, none⟩ = some (.slice al1 ls1.length cl1) ∧ wx.cell? ⟨w.heap.size, 3, none⟩ = some (.int .i64 m1)) ∧ (wx.cell? ⟨(w.heap.size + 1), 0, none⟩ = some (.slice ap2 p2.length cp2) ∧ wx.cell? ⟨(w.heap.size + 1), 1, none⟩ = some (.slice aq2 q2.length cq2) ∧ wx.cell? ⟨(w.heap.size + 1), 2, none⟩ = some (.slice al2 ls2.length cl2) ∧ wx.cell? ⟨(w.heap.size + 1), 3, none⟩ = some (.int .i64 m2))) (first | (with_reducible assumption)) (first | (go_at_call 30; (with_reducible refine (toSat_any _ _ _ m1 p1 q1 ls1 _ hp1 hq1 hl1 np1 nq1 nl1 HM1.out).mono ?_); rintro e w3 ⟨vp3, vq3, vl3, rfl, jp3, jq3, jl3, hb⟩; obtain ⟨ap3, cp3, rfl⟩ := jp3.form; obtain ⟨aq3, cq3, rfl⟩ := jq3.form; obtain ⟨al3, cl3, rfl⟩ := jl3.form; replace A := A.keep hb; replace B := B.keep hb; replace hp1 := hp1.below hb; replace hq1 := hq1.below hb; replace hl1 := hl1.below hb; replace hp2 := hp2.below hb; replace hq2 := hq2.below hb; replace hl2 := hl2.below hb; replace K := below_two K hb; clear hb; replace sS := And.intro (And.intro A.cells.1 (And.intro A.cells.2.1 (And.intro A.cells.2.2.1 (A.cells.2.2.2.1)))) (And.intro B.cells.1 (And.intro B.cells.2.1 (And.intro B.cells.2.2.1 (B.cells.2.2.2.1))))) | (go_at_call 30; (with_reducible refine (toSat_any _ _ _ m2 p2 q2 ls2 _ hp2 hq2 hl2 np2 nq2 nl2 HM2.out).mono ?_); rintro e w3 ⟨vp4, vq4, vl4, rfl, jp4, jq4, jl4, hb⟩; obtain ⟨ap4, cp4, rfl⟩ := jp4.form; obtain ⟨aq4, cq4, rfl⟩ := jq4.form; obtain ⟨al4, cl4, rfl⟩ := jl4.form; replace A := A.keep hb; replace B := B.keep hb; replace hp1 := hp1.below hb; replace hq1 := hq1.below hb; replace hl1 := hl1.below hb; replace hp2 := hp2.below hb; replace hq2 := hq2.below hb; replace hl2 := hl2.below hb; replace jp3 := jp3.below hb; replace jq3 := jq3.below hb; replace jl3 := jl3.below hb; replace K := below_two K hb; clear hb; replace sS := And.intro (And.intro A.cells.1 (And.intro A.cells.2.1 (And.intro A.cells.2.2.1 (A.cells.2.2.2.1)))) (And.intro B.cells.1 (And.intro B.cells.2.1 (And.intro B.cells.2.2.1 (B.cells.2.2.2.1))))) | (go_at_call 29; (with_reducible refine (satSame_spec _ _ _ m1 p1 q1 ls1 _ _ _ m2 p2 q2 ls2 _ jp3 jq3 jl3 jp4 jq4 jl4).mono ?_); rintro e w3 ⟨rfl, hb⟩; replace A := A.keep hb; replace B := B.keep hb; replace hp1 := hp1.below hb; replace hq1 := hq1.below hb; replace hl1 := hl1.below hb; replace hp2 := hp2.below hb; replace hq2 := hq2.below hb; replace hl2 := hl2.below hb; replace jp3 := jp3.below hb; replace jq3 := jq3.below hb; replace jl3 := jl3.below hb; replace jp4 := jp4.below hb; replace jq4 := jq4.below hb; replace jl4 := jl4.below hb; replace K := below_two K hb; clear hb; replace sS := And.intro (And.intro A.cells.1 (And.intro A.cells.2.1 (And.intro A.cells.2.2.1 (A.cells.2.2.2.1)))) (And.intro B.cells.1 (And.intro B.cells.2.1 (And.intro B.cells.2.2.1 (B.cells.2.2.2.1)))))))
    | fail
  clear sS
  obtain ⟨A0, A1, A2, A3, A4⟩ := A.cells
  obtain ⟨B0, B1, B2, B3, B4⟩ := B.cells
  go_wp2_with fail
  clear A0 A1 A2 A3 A4 B0 B1 B2 B3 B4
  clear jp3 jq3 jl3 jp4 jq4 jl4
  obtain ⟨A0, A1, A2, A3, A4⟩ := A.cells
  obtain ⟨B0, B1, B2, B3, B4⟩ := B.cells
  refine (toSat_any _ _ _ m1 p1 q1 ls1 _ hp1 hq1 hl1 np1 nq1 nl1 HM1.out).mono ?_; rintro e w4 ⟨vp5, vq5, vl5, rfl, jp5, jq5, jl5, hb⟩
  obtain ⟨ap5, cp5, rfl⟩ := jp5.form
  obtain ⟨aq5, cq5, rfl⟩ := jq5.form
  obtain ⟨al5, cl5, rfl⟩ := jl5.form
  clear A0 A1 A2 A3 A4 B0 B1 B2 B3 B4
  replace A := A.keep hb
  replace B := B.keep hb
  replace hp1 := hp1.below hb
  replace hq1 := hq1.below hb
  replace hl1 := hl1.below hb
  replace hp2 := hp2.below hb
  replace hq2 := hq2.below hb
  replace hl2 := hl2.below hb
  replace K := below_two K hb
  clear hb
  have nA : ¬ w.heap.size = w4.heap.size := Nat.ne_of_lt A.lt
  have nB : ¬ (w.heap.size + 1) = w4.heap.size := Nat.ne_of_lt B.lt
  replace A := A.alloc (.cells #[.slice ap5 p1.length cp5, .slice aq5 q1.length cq5, .slice al5 ls1.length cl5, .int .i64 m1] 47)
  replace B := B.alloc (.cells #[.slice ap5 p1.length cp5, .slice aq5 q1.length cq5, .slice al5 ls1.length cl5, .int .i64 m1] 47)
  replace hp1 := hp1.below (below_self_alloc w4 (.cells #[.slice ap5 p1.length cp5, .slice aq5 q1.length cq5, .slice al5 ls1.length cl5, .int .i64 m1] 47))
  replace hq1 := hq1.below (below_self_alloc w4 (.cells #[.slice ap5 p1.length cp5, .slice aq5 q1.length cq5, .slice al5 ls1.length cl5, .int .i64 m1] 47))
  replace hl1 := hl1.below (below_self_alloc w4 (.cells #[.slice ap5 p1.length cp5, .slice aq5 q1.length cq5, .slice al5 ls1.length cl5, .int .i64 m1] 47))
  replace hp2 := hp2.below (below_self_alloc w4 (.cells #[.slice ap5 p1.length cp5, .slice aq5 q1.length cq5, .slice al5 ls1.length cl5, .int .i64 m1] 47))
  replace hq2 := hq2.below (below_self_alloc w4 (.cells #[.slice ap5 p1.length cp5, .slice aq5 q1.length cq5, .slice al5 ls1.length cl5, .int .i64 m1] 47))
  replace hl2 := hl2.below (below_self_alloc w4 (.cells #[.slice ap5 p1.length cp5, .slice aq5 q1.length cq5, .slice al5 ls1.length cl5, .int .i64 m1] 47))
  replace jp5 := jp5.below (below_self_alloc w4 (.cells #[.slice ap5 p1.length cp5, .slice aq5 q1.length cq5, .slice al5 ls1.length cl5, .int .i64 m1] 47))
  replace jq5 := jq5.below (below_self_alloc w4 (.cells #[.slice ap5 p1.length cp5, .slice aq5 q1.length cq5, .slice al5 ls1.length cl5, .int .i64 m1] 47))
  replace jl5 := jl5.below (below_self_alloc w4 (.cells #[.slice ap5 p1.length cp5, .slice aq5 q1.length cq5, .slice al5 ls1.length cl5, .int .i64 m1] 47))
  replace K := below_step K (.cells #[.slice ap5 p1.length cp5, .slice aq5 q1.length cq5, .slice al5 ls1.length cl5, .int .i64 m1] 47)
  have C := blk4_new w4 (.slice ap5 p1.length cp5) (.slice aq5 q1.length cq5) (.slice al5 ls1.length cl5) (.int .i64 m1) 47
  obtain ⟨A0, A1, A2, A3, A4⟩ := A.cells
  obtain ⟨B0, B1, B2, B3, B4⟩ := B.cells
  obtain ⟨C0, C1, C2, C3, C4⟩ := C.cells
  go_wp2_with fail
  refine (toSat_any _ _ _ m2 p2 q2 ls2 _ hp2 hq2 hl2 np2 nq2 nl2 HM2.out).mono ?_; rintro e w5 ⟨vp6, vq6, vl6, rfl, jp6, jq6, jl6, hb⟩
  obtain ⟨ap6, cp6, rfl⟩ := jp6.form
  obtain ⟨aq6, cq6, rfl⟩ := jq6.form
  obtain ⟨al6, cl6, rfl⟩ := jl6.form
  clear A0 A1 A2 A3 A4 B0 B1 B2 B3 B4 C0 C1 C2 C3 C4
  clear nA nB
  replace A := A.keep hb
  replace B := B.keep hb
  replace C := C.keep hb
  replace hp1 := hp1.below hb
  replace hq1 := hq1.below hb
  replace hl1 := hl1.below hb
  replace hp2 := hp2.below hb
  replace hq2 := hq2.below hb
  replace hl2 := hl2.below hb
  replace jp5 := jp5.below hb
  replace jq5 := jq5.below hb
  replace jl5 := jl5.below hb
  replace K := below_two K hb
  clear hb
  have nA : ¬ w.heap.size = w5.heap.size := Nat.ne_of_lt A.lt
  have nB : ¬ (w.heap.size + 1) = w5.heap.size := Nat.ne_of_lt B.lt
  have nC : ¬ w4.heap.size = w5.heap.size := Nat.ne_of_lt C.lt
  replace A := A.alloc (.cells #[.slice ap6 p2.length cp6, .slice aq6 q2.length cq6, .slice al6 ls2.length cl6, .int .i64 m2] 47)
  replace B := B.alloc (.cells #[.slice ap6 p2.length cp6, .slice aq6 q2.length cq6, .slice al6 ls2.length cl6, .int .i64 m2] 47)
  replace C := C.alloc (.cells #[.slice ap6 p2.length cp6, .slice aq6 q2.length cq6, .slice al6 ls2.length cl6, .int .i64 m2] 47)
  replace hp1 := hp1.below (below_self_alloc w5 (.cells #[.slice ap6 p2.length cp6, .slice aq6 q2.length cq6, .slice al6 ls2.length cl6, .int .i64 m2] 47))
  replace hq1 := hq1.below (below_self_alloc w5 (.cells #[.slice ap6 p2.length cp6, .slice aq6 q2.length cq6, .slice al6 ls2.length cl6, .int .i64 m2] 47))
  replace hl1 := hl1.below (below_self_alloc w5 (.cells #[.slice ap6 p2.length cp6, .slice aq6 q2.length cq6, .slice al6 ls2.length cl6, .int .i64 m2] 47))
  replace hp2 := hp2.below (below_self_alloc w5 (.cells #[.slice ap6 p2.length cp6, .slice aq6 q2.length cq6, .slice al6 ls2.length cl6, .int .i64 m2] 47))
  replace hq2 := hq2.below (below_self_alloc w5 (.cells #[.slice ap6 p2.length cp6, .slice aq6 q2.length cq6, .slice al6 ls2.length cl6, .int .i64 m2] 47))
  replace hl2 := hl2.below (below_self_alloc w5 (.cells #[.slice ap6 p2.length cp6, .slice aq6 q2.length cq6, .slice al6 ls2.length cl6, .int .i64 m2] 47))
  replace jp5 := jp5.below (below_self_alloc w5 (.cells #[.slice ap6 p2.length cp6, .slice aq6 q2.length cq6, .slice al6 ls2.length cl6, .int .i64 m2] 47))
  replace jq5 := jq5.below (below_self_alloc w5 (.cells #[.slice ap6 p2.length cp6, .slice aq6 q2.length cq6, .slice al6 ls2.length cl6, .int .i64 m2] 47))
  replace jl5 := jl5.below (below_self_alloc w5 (.cells #[.slice ap6 p2.length cp6, .slice aq6 q2.length cq6, .slice al6 ls2.length cl6, .int .i64 m2] 47))
  replace jp6 := jp6.below (below_self_alloc w5 (.cells #[.slice ap6 p2.length cp6, .slice aq6 q2.length cq6, .slice al6 ls2.length cl6, .int .i64 m2] 47))
  replace jq6 := jq6.below (below_self_alloc w5 (.cells #[.slice ap6 p2.length cp6, .slice aq6 q2.length cq6, .slice al6 ls2.length cl6, .int .i64 m2] 47))
  replace jl6 := jl6.below (below_self_alloc w5 (.cells #[.slice ap6 p2.length cp6, .slice aq6 q2.length cq6, .slice al6 ls2.length cl6, .int .i64 m2] 47))
  replace K := below_step K (.cells #[.slice ap6 p2.length cp6, .slice aq6 q2.length cq6, .slice al6 ls2.length cl6, .int .i64 m2] 47)
  have D := blk4_new w5 (.slice ap6 p2.length cp6) (.slice aq6 q2.length cq6) (.slice al6 ls2.length cl6) (.int .i64 m2) 47
  obtain ⟨A0, A1, A2, A3, A4⟩ := A.cells
  obtain ⟨B0, B1, B2, B3, B4⟩ := B.cells
  obtain ⟨C0, C1, C2, C3, C4⟩ := C.cells
  obtain ⟨D0, D1, D2, D3, D4⟩ := D.cells
  go_wp2_with fail
  refine (satSame_impl _ _ _ m1 p1 q1 ls1 _ _ _ m2 p2 q2 ls2 _ jp5 jq5 jl5 jp6 jq6 jl6).mono ?_; rintro e w6 ⟨rfl, hb⟩
  clear A0 A1 A2 A3 A4 B0 B1 B2 B3 B4 C0 C1 C2 C3 C4 D0 D1 D2 D3 D4
  clear nA nB nC
  replace A := A.keep hb
  replace B := B.keep hb
  replace C := C.keep hb
  replace D := D.keep hb
  replace hp1 := hp1.below hb
  replace hq1 := hq1.below hb
  replace hl1 := hl1.below hb
  replace hp2 := hp2.below hb
  replace hq2 := hq2.below hb
  replace hl2 := hl2.below hb
  replace jp5 := jp5.below hb
  replace jq5 := jq5.below hb
  replace jl5 := jl5.below hb
  replace jp6 := jp6.below hb
  replace jq6 := jq6.below hb
  replace jl6 := jl6.below hb
  replace K := below_two K hb
  clear hb
  obtain ⟨A0, A1, A2, A3, A4⟩ := A.cells
  obtain ⟨B0, B1, B2, B3, B4⟩ := B.cells
  obtain ⟨C0, C1, C2, C3, C4⟩ := C.cells
  obtain ⟨D0, D1, D2, D3, D4⟩ := D.cells
  go_wp2_with fail
  clear A0 A1 A2 A3 A4 B0 B1 B2 B3 B4 C0 C1 C2 C3 C4 D0 D1 D2 D3 D4
  replace A := A.drew
  replace B := B.drew
  replace C := C.drew
  replace D := D.drew
  replace hp1 := hp1.drew
  replace hq1 := hq1.drew
  replace hl1 := hl1.drew
  replace hp2 := hp2.drew
  replace hq2 := hq2.drew
  replace hl2 := hl2.drew
  replace jp5 := jp5.drew
  replace jq5 := jq5.drew
  replace jl5 := jl5.drew
  replace jp6 := jp6.drew
  replace jq6 := jq6.drew
  replace jl6 := jl6.drew
  replace K := K.drew
  have sS := And.intro (And.intro C.cells.1 (And.intro C.cells.2.1 (And.intro C.cells.2.2.1 (C.cells.2.2.2.1)))) (And.intro A.cells.1 (And.intro A.cells.2.1 (And.intro A.cells.2.2.1 (A.cells.2.2.2.1))))
  first
    | (go_region_held3 (fun wx : World => (wx.cell? ⟨w4.heap.size, 0, none⟩ = some (.slice ap5 p1.length cp5) ∧ wx.cell? ⟨w4.heap.size, 1, none⟩ = some (.slice aq5 q1.length cq5) ∧ wx.cell? ⟨w4.heap.size, 2, none⟩ = some (.slice al5 ls1.length cl5) ∧ wx.cell? ⟨w4.heap.size, 3, none⟩ = some (.int .i64 m1)) ∧ (wx.cell? ⟨w.heap.size, 0, none⟩ = some (.slice ap1 p1.length cp1) ∧ wx.cell? ⟨w.heap.size, 1, none⟩ = some (.slice aq1 q1.length cq1) ∧ wx.cell? ⟨w.heap.size, 2, none⟩ = some (.slice al1 ls1.length cl1) ∧ wx.cell? ⟨w.heap.size, 3, none⟩ = some (.int .i64 m1))) (first | (with_reducible assumption)) (first | (go_at_call 30; (with_reducible refine (toSat_any _ _ _ m1 p1 q1 ls1 _ hp1 hq1 hl1 np1 nq1 nl1 HM1.out).mono ?_); rintro e w7 ⟨vp7, vq7, vl7, rfl, jp7, jq7, jl7, hb⟩; obtain ⟨ap7, cp7, rfl⟩ := jp7.form; obtain ⟨aq7, cq7, rfl⟩ := jq7.form; obtain ⟨al7, cl7, rfl⟩ := jl7.form; replace A := A.keep hb; replace B := B.keep hb; replace C := C.keep hb; replace D := D.keep hb; replace hp1 := hp1.below hb; replace hq1 := hq1.below hb; replace hl1 := hl1.below hb; replace hp2 := hp2.below hb; replace hq2 := hq2.below hb; replace hl2 := hl2.below hb; replace jp5 := jp5.below hb; replace jq5 := jq5.below hb; replace jl5 := jl5.below hb; replace jp6 := jp6.below hb; replace jq6 := jq6.below hb; replace jl6 := jl6.below hb; replace K := below_two K hb; clear hb; replace sS := And.intro (And.intro C.cells.1 (And.intro C.cells.2.1 (And.intro C.cells.2.2.1 (C.cells.2.2.2.1)))) (And.intro A.cells.1 (And.intro A.cells.2.1 (And.intro A.cells.2.2.1 (A.cells.2.2.2.1))))) | (go_at_call 32; (with_reducible refine (eqSat_any _ _ _ m1 p1 q1 ls1 _ _ _ m1 p1 q1 ls1 _ jp5 jq5 jl5 jp7 jq7 jl7).mono ?_); rintro e w7 ⟨rfl, hb⟩; rw [sameS_self]; replace A := A.keep hb; replace B := B.keep hb; replace C := C.keep hb; replace D := D.keep hb; replace hp1 := hp1.below hb; replace hq1 := hq1.below hb; replace hl1 := hl1.below hb; replace hp2 := hp2.below hb; replace hq2 := hq2.below hb; replace hl2 := hl2.below hb; replace jp5 := jp5.below hb; replace jq5 := jq5.below hb; replace jl5 := jl5.below hb; replace jp6 := jp6.below hb; replace jq6 := jq6.below hb; replace jl6 := jl6.below hb; replace jp7 := jp7.below hb; replace jq7 := jq7.below hb; replace jl7 := jl7.below hb; replace K := below_two K hb; clear hb; replace sS := And.intro (And.intro C.cells.1 (And.intro C.cells.2.1 (And.intro C.cells.2.2.1 (C.cells.2.2.2.1)))) (And.intro A.cells.1 (And.intro A.cells.2.1 (And.intro A.cells.2.2.1 (A.cells.2.2.2.1)))))))
    | fail
  clear sS
  obtain ⟨A0, A1, A2, A3, A4⟩ := A.cells
  obtain ⟨B0, B1, B2, B3, B4⟩ := B.cells
  obtain ⟨C0, C1, C2, C3, C4⟩ := C.cells
  obtain ⟨D0, D1, D2, D3, D4⟩ := D.cells
  go_wp2_with fail
  clear A0 A1 A2 A3 A4 B0 B1 B2 B3 B4 C0 C1 C2 C3 C4 D0 D1 D2 D3 D4
  replace A := A.drew
  replace B := B.drew
  replace C := C.drew
  replace D := D.drew
  replace hp1 := hp1.drew
  replace hq1 := hq1.drew
  replace hl1 := hl1.drew
  replace hp2 := hp2.drew
  replace hq2 := hq2.drew
  replace hl2 := hl2.drew
  replace jp5 := jp5.drew
  replace jq5 := jq5.drew
  replace jl5 := jl5.drew
  replace jp6 := jp6.drew
  replace jq6 := jq6.drew
  replace jl6 := jl6.drew
  replace jp7 := jp7.drew
  replace jq7 := jq7.drew
  replace jl7 := jl7.drew
  replace K := K.drew
  have sS := And.intro (And.intro D.cells.1 (And.intro D.cells.2.1 (And.intro D.cells.2.2.1 (D.cells.2.2.2.1)))) (And.intro B.cells.1 (And.intro B.cells.2.1 (And.intro B.cells.2.2.1 (B.cells.2.2.2.1))))
  first
    | (go_region_held3 (fun wx : World => (wx.cell? ⟨w5.heap.size, 0, none⟩ = some (.slice ap6 p2.length cp6) ∧ wx.cell? ⟨w5.heap.size, 1, none⟩ = some (.slice aq6 q2.length cq6) ∧ wx.cell? ⟨w5.heap.size, 2, none⟩ = some (.slice al6 ls2.length cl6) ∧ wx.cell? ⟨w5.heap.size, 3, none⟩ = some (.int .i64 m2)) ∧ (wx.cell? ⟨(w.heap.size + 1), 0, none⟩ = some (.slice ap2 p2.length cp2) ∧ wx.cell? ⟨(w.heap.size + 1), 1, none⟩ = some (.slice aq2 q2.length cq2) ∧ wx.cell? ⟨(w.heap.size + 1), 2, none⟩ = some (.slice al2 ls2.length cl2) ∧ wx.cell? ⟨(w.heap.size + 1), 3, none⟩ = some (.int .i64 m2))) (first | (with_reducible assumption)) (first | (go_at_call 30; (with_reducible refine (toSat_any _ _ _ m2 p2 q2 ls2 _ hp2 hq2 hl2 np2 nq2 nl2 HM2.out).mono ?_); rintro e w8 ⟨vp8, vq8, vl8, rfl, jp8, jq8, jl8, hb⟩; obtain ⟨ap8, cp8, rfl⟩ := jp8.form; obtain ⟨aq8, cq8, rfl⟩ := jq8.form; obtain ⟨al8, cl8, rfl⟩ := jl8.form; replace A := A.keep hb; replace B := B.keep hb; replace C := C.keep hb; replace D := D.keep hb; replace hp1 := hp1.below hb; replace hq1 := hq1.below hb; replace hl1 := hl1.below hb; replace hp2 := hp2.below hb; replace hq2 := hq2.below hb; replace hl2 := hl2.below hb; replace jp5 := jp5.below hb; replace jq5 := jq5.below hb; replace jl5 := jl5.below hb; replace jp6 := jp6.below hb; replace jq6 := jq6.below hb; replace jl6 := jl6.below hb; replace jp7 := jp7.below hb; replace jq7 := jq7.below hb; replace jl7 := jl7.below hb; replace K := below_two K hb; clear hb; replace sS := And.intro (And.intro D.cells.1 (And.intro D.cells.2.1 (And.intro D.cells.2.2.1 (D.cells.2.2.2.1)))) (And.intro B.cells.1 (And.intro B.cells.2.1 (And.intro B.cells.2.2.1 (B.cells.2.2.2.1))))) | (go_at_call 32; (with_reducible refine (eqSat_any _ _ _ m2 p2 q2 ls2 _ _ _ m2 p2 q2 ls2 _ jp6 jq6 jl6 jp8 jq8 jl8).mono ?_); rintro e w8 ⟨rfl, hb⟩; rw [sameS_self]; replace A := A.keep hb; replace B := B.keep hb; replace C := C.keep hb; replace D := D.keep hb; replace hp1 := hp1.below hb; replace hq1 := hq1.below hb; replace hl1 := hl1.below hb; replace hp2 := hp2.below hb; replace hq2 := hq2.below hb; replace hl2 := hl2.below hb; replace jp5 := jp5.below hb; replace jq5 := jq5.below hb; replace jl5 := jl5.below hb; replace jp6 := jp6.below hb; replace jq6 := jq6.below hb; replace jl6 := jl6.below hb; replace jp7 := jp7.below hb; replace jq7 := jq7.below hb; replace jl7 := jl7.below hb; replace jp8 := jp8.below hb; replace jq8 := jq8.below hb; replace jl8 := jl8.below hb; replace K := below_two K hb; clear hb; replace sS := And.intro (And.intro D.cells.1 (And.intro D.cells.2.1 (And.intro D.cells.2.2.1 (D.cells.2.2.2.1)))) (And.intro B.cells.1 (And.intro B.cells.2.1 (And.intro B.cells.2.2.1 (B.cells.2.2.2.1)))))))
    | fail
  clear sS
  obtain ⟨A0, A1, A2, A3, A4⟩ := A.cells
  obtain ⟨B0, B1, B2, B3, B4⟩ := B.cells
  obtain ⟨C0, C1, C2, C3, C4⟩ := C.cells
  obtain ⟨D0, D1, D2, D3, D4⟩ := D.cells
  go_wp2_with fail
  go_ret
  exact ⟨rfl, K⟩
end Go.Proofs.Ytjobbokjebhjgaa
