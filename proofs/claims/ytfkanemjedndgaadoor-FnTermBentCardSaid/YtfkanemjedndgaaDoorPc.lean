/- Terms that are drawn: l2Term. The conditions stand in each statement. -/
import Derived.Test.YtfkanemjedndgaaDoorPb
namespace Go.Proofs.YtfkanemjedndgaaDoor
open Go.RowKit

set_option linter.unusedVariables false in
set_option maxRecDepth 100000 in
set_option maxHeartbeats 8000000 in
theorem l2Term_zero : TermC 0 := by
  intro g P v s ds sort dd w hdd hr hP h s0 s4
  subst hdd
  have hc : cst 0 = 20 := rfl
  have gl := hr.lt
  have hD := Lib.hid h
  obtain ⟨a, cap, rfl, _⟩ := (h.1 w (World.grownBy.refl _ _)).form
  have A := blk5_new w (.int .i64 0) (.int .i64 0) (.int .i64 0) (.string ⟨#[]⟩) (.slice none 0 0) 33
  have G := World.grownBy_alloc w (.cells #[.int .i64 0, .int .i64 0, .int .i64 0, .string ⟨#[]⟩, .slice none 0 0] 33) (some g)
  have R := hr.alloc (.cells #[.int .i64 0, .int .i64 0, .int .i64 0, .string ⟨#[]⟩, .slice none 0 0] 33)
  replace hr := Lib.hid hr
  clear h
  go_enter Tryd.func62, Tryd.ntmps62
  go_wp2_with fail
  refine (l2Leafy_any (w.heap.size + 1) 0 g _ v _ ds sort _ R (by omega) (hD.out.grow G).1 hD.out.2.1 hD.out.2.2.1 hD.out.2.2.2.1 s0 s4).mono ?_
  rintro e w1 ⟨t1, s1, rfl, K1, ok1, td1, l1, hg, R2⟩
  replace G := grown_two G hg; replace A := A.keepG hg (by omega); replace R := R2; clear R2 hg
  obtain ⟨A0, A1, A2, A3, A4, A5⟩ := A.cells
  obtain ⟨F0, F1, F2, F3, F4⟩ := A.frozen
  obtain ⟨sa, sp, rfl, _⟩ := K1.now.form
  replace K1 := Lib.hid K1; replace ok1 := Lib.hid ok1; replace td1 := Lib.hid td1; replace l1 := Lib.hid l1
  go_wp2_with fail
  obtain ⟨Af, Gf, Rf, Kf⟩ := put5 A G R hr.out (Nat.le_refl _) (.int .i64 t1.op) (.int .i64 t1.a) (.int .i64 t1.b) (.string t1.nm) (.slice sa t1.ks.length sp)
  obtain ⟨r0, r1, r2, r3, r4, _⟩ := Af.cells
  exact bodyPost_ret (v := .agg #[.int .i64 t1.op, .int .i64 t1.a, .int .i64 t1.b, .string t1.nm, .slice sa t1.ks.length sp]) (by simp [results, Tryd.results62, go_sem, r0, r1, r2, r3, r4]) rfl
    ⟨t1, _, rfl, (K1.out.on Kf).mono (Nat.le_succ _), ok1.out, td1.out, (l1.out.on Kf).mono (Nat.le_succ _), Gf, Rf.le (by omega)⟩

set_option linter.unusedVariables false in
set_option maxRecDepth 100000 in
set_option maxHeartbeats 8000000 in
theorem l2Term_succ (d : Nat) (hd9 : d ≤ 9) (ih : Hid (TermC d)) : TermC (d + 1) := by
  intro g P v s ds sort dd w hdd hr hP h s0 s4
  have hd : dd = (d : Int) + 1 := by omega
  clear hdd
  have gl := hr.lt
  have hc := cst_succ d
  have hc0 := cst_pos d
  obtain ⟨a, cap, rfl, _⟩ := (h.1 w (World.grownBy.refl _ _)).form
  have A := blk5_new w (.int .i64 0) (.int .i64 0) (.int .i64 0) (.string ⟨#[]⟩) (.slice none 0 0) 33
  have G := World.grownBy_alloc w (.cells #[.int .i64 0, .int .i64 0, .int .i64 0, .string ⟨#[]⟩, .slice none 0 0] 33) (some g)
  have R := hr.alloc (.cells #[.int .i64 0, .int .i64 0, .int .i64 0, .string ⟨#[]⟩, .slice none 0 0] 33)
  replace hr := Lib.hid hr
  have hD := Lib.hid h
  clear h
  have hd1 : decide (dd < 1) = false := by simp; omega
  go_enter Tryd.func62, Tryd.ntmps62
  by_cases hs : sort = 0
  · subst hs
    go_wp2_with fail
    refine (pick_any g _ v 12 _ R (by omega)).mono ?_
    rintro e w1 ⟨p, rfl, p0, p1, _, hg, R2⟩
    replace p1 := p1 (by omega)
    replace G := grown_two G hg; replace A := A.keepG hg (by omega); replace R := R2; clear R2 hg
    by_cases c0 : p = 0
    · subst c0
      go_wp2_with fail
      refine (ih.out g _ v _ ds _ _ _ (by omega) R (by omega) (hD.out.grow G) (by omega) (by omega)).mono ?_
      rintro e w2 ⟨t1, s1, rfl, K1, ok1, td1, _, hg, R2⟩
      have Q1 := Lib.hid (Kid.mk (K1.mono (B' := w.heap.size + 1) (by have := A.lt; omega)) ok1 td1); clear K1 ok1 td1
      replace G := grown_two G hg; replace A := A.keepG hg (by omega); replace R := R2; clear R2 hg
      go_wp2_with fail
      refine (ih.out g _ v _ ds _ _ _ (by omega) R (by omega) (hD.out.grow G) (by omega) (by omega)).mono ?_
      rintro e w3 ⟨t2, s2, rfl, K2, ok2, td2, _, hg, R2⟩
      have Q2 := Lib.hid (Kid.mk (K2.mono (B' := w.heap.size + 1) (by have := A.lt; omega)) ok2 td2); clear K2 ok2 td2
      replace Q1 := Lib.hid (Q1.out.on (kept_grownT hg (by omega)))
      replace G := grown_two G hg; replace A := A.keepG hg (by omega); replace R := R2; clear R2 hg
      go_wp2_with fail
      refine (ih.out g _ v _ ds _ _ _ (by omega) R (by omega) (hD.out.grow G) (by omega) (by omega)).mono ?_
      rintro e w4 ⟨t3, s3, rfl, K3, ok3, td3, _, hg, R2⟩
      have Q3 := Lib.hid (Kid.mk (K3.mono (B' := w.heap.size + 1) (by have := A.lt; omega)) ok3 td3); clear K3 ok3 td3
      replace Q1 := Lib.hid (Q1.out.on (kept_grownT hg (by omega)))
      replace Q2 := Lib.hid (Q2.out.on (kept_grownT hg (by omega)))
      replace G := grown_two G hg; replace A := A.keepG hg (by omega); replace R := R2; clear R2 hg
      have A7 := A.alloc (.cells #[.int .i64 t1.op, .int .i64 t1.a, .int .i64 t1.b, .string t1.nm, s1, .int .i64 t2.op, .int .i64 t2.a, .int .i64 t2.b, .string t2.nm, s2, .int .i64 t3.op, .int .i64 t3.a, .int .i64 t3.b, .string t3.nm, s3] 33)
      have EN := Lib.hid (end3 23 0 0 A G R hr.out Q1.out Q2.out Q3.out (by simp [TOk, Tm.op, Tm.a, Tm.b, Tm.nm, ByteArray.size]))
      clear A G
      obtain ⟨A0, A1, A2, A3, A4, A5⟩ := A7.cells
      obtain ⟨F0, F1, F2, F3, F4⟩ := A7.frozen
      go_wp2_with fail
      obtain ⟨Af, Gf⟩ := EN.out
      obtain ⟨r0, r1, r2, r3, r4, _⟩ := Af.cells
      exact bodyPost_ret (v := .agg #[.int .i64 23, .int .i64 0, .int .i64 0, .string ⟨#[]⟩, .slice (some ⟨w4.heap.size, 0, none⟩) 3 3]) (by simp [results, Tryd.results62, go_sem, r0, r1, r2, r3, r4]) rfl (Gf.le (by omega))
    · have n0 : (p == 0) = false := by simpa using c0
      go_wp2_with fail
      refine (l2Asks_any d ih g _ v _ ds _ _ (by omega) hd9 R (by omega) (hD.out.grow G)).mono ?_
      rintro e w2 ⟨t1, s1, rfl, K1, ok1, td1, l1, hg, R2⟩
      obtain ⟨sa, sp, rfl, _⟩ := K1.now.form
      replace l1 := l1.mono (B' := w.heap.size + 1) (by have := A.lt; omega); replace K1 := Lib.hid (K1.mono (B' := w.heap.size + 1) (by have := A.lt; omega)); replace ok1 := Lib.hid ok1; replace td1 := Lib.hid td1; replace l1 := Lib.hid l1
      replace G := grown_two G hg; replace A := A.keepG hg (by omega); replace R := R2; clear R2 hg
      obtain ⟨A0, A1, A2, A3, A4, A5⟩ := A.cells
      obtain ⟨F0, F1, F2, F3, F4⟩ := A.frozen
      go_wp2_with fail
      obtain ⟨Af, Gf, Rf, Kf⟩ := put5 A G R hr.out (Nat.le_refl _) (.int .i64 t1.op) (.int .i64 t1.a) (.int .i64 t1.b) (.string t1.nm) (.slice sa t1.ks.length sp)
      obtain ⟨r0, r1, r2, r3, r4, _⟩ := Af.cells
      exact bodyPost_ret (v := .agg #[.int .i64 t1.op, .int .i64 t1.a, .int .i64 t1.b, .string t1.nm, .slice sa t1.ks.length sp]) (by simp [results, Tryd.results62, go_sem, r0, r1, r2, r3, r4]) rfl ⟨t1, _, rfl, (K1.out.on Kf).mono (Nat.le_succ _), ok1.out, td1.out, (l1.out.on Kf).mono (Nat.le_succ _), Gf, Rf.le (by omega)⟩
  · have hs1 : 0 < sort := by omega
    have hs0 : (sort == 0) = false := by simpa using hs
    go_wp2_with fail
    refine (pick_any g _ v 3 _ R (by omega)).mono ?_
    rintro e w1 ⟨y, rfl, y0, y1, _, hg, R2⟩
    replace y1 := y1 (by omega)
    replace G := grown_two G hg; replace A := A.keepG hg (by omega); replace R := R2; clear R2 hg
    by_cases cy : y = 0
    · subst cy
      go_wp2_with fail
      refine (l2Leafy_any (w.heap.size + 1) (d + 1) g _ v _ ds sort _ R (by omega) (hD.out.grow G).1 hD.out.2.1 hD.out.2.2.1 hD.out.2.2.2.1 s0 s4).mono ?_
      rintro e w2 ⟨t1, s1, rfl, K1, ok1, td1, l1, hg, R2⟩
      obtain ⟨sa, sp, rfl, _⟩ := K1.now.form
      replace l1 := l1.mono (B' := w.heap.size + 1) (by have := A.lt; omega); replace K1 := Lib.hid (K1.mono (B' := w.heap.size + 1) (by have := A.lt; omega)); replace ok1 := Lib.hid ok1; replace td1 := Lib.hid td1; replace l1 := Lib.hid l1
      replace G := grown_two G hg; replace A := A.keepG hg (by omega); replace R := R2; clear R2 hg
      obtain ⟨A0, A1, A2, A3, A4, A5⟩ := A.cells
      obtain ⟨F0, F1, F2, F3, F4⟩ := A.frozen
      go_wp2_with fail
      obtain ⟨Af, Gf, Rf, Kf⟩ := put5 A G R hr.out (Nat.le_refl _) (.int .i64 t1.op) (.int .i64 t1.a) (.int .i64 t1.b) (.string t1.nm) (.slice sa t1.ks.length sp)
      obtain ⟨r0, r1, r2, r3, r4, _⟩ := Af.cells
      exact bodyPost_ret (v := .agg #[.int .i64 t1.op, .int .i64 t1.a, .int .i64 t1.b, .string t1.nm, .slice sa t1.ks.length sp]) (by simp [results, Tryd.results62, go_sem, r0, r1, r2, r3, r4]) rfl ⟨t1, _, rfl, (K1.out.on Kf).mono (Nat.le_succ _), ok1.out, td1.out, (l1.out.on Kf).mono (Nat.le_succ _), Gf, Rf.le (by omega)⟩
    have ny : (y == 0) = false := by simpa using cy
    go_wp2_with fail
    refine (pick_any g _ v 12 _ R (by omega)).mono ?_
    rintro e w2 ⟨p, rfl, p0, p1, _, hg, R2⟩
    replace p1 := p1 (by omega)
    replace G := grown_two G hg; replace A := A.keepG hg (by omega); replace R := R2; clear R2 hg
    by_cases c0 : p = 0
    · subst c0
      go_wp2_with fail
      refine (ih.out g _ v _ ds _ _ _ (by omega) R (by omega) (hD.out.grow G) (by omega) (by omega)).mono ?_
      rintro e w3 ⟨t1, s1, rfl, K1, ok1, td1, _, hg, R2⟩
      have Q1 := Lib.hid (Kid.mk (K1.mono (B' := w.heap.size + 1) (by have := A.lt; omega)) ok1 td1); clear K1 ok1 td1
      replace G := grown_two G hg; replace A := A.keepG hg (by omega); replace R := R2; clear R2 hg
      go_wp2_with fail
      refine (ih.out g _ v _ ds _ _ _ (by omega) R (by omega) (hD.out.grow G) (by omega) (by omega)).mono ?_
      rintro e w4 ⟨t2, s2, rfl, K2, ok2, td2, _, hg, R2⟩
      have Q2 := Lib.hid (Kid.mk (K2.mono (B' := w.heap.size + 1) (by have := A.lt; omega)) ok2 td2); clear K2 ok2 td2
      replace Q1 := Lib.hid (Q1.out.on (kept_grownT hg (by omega)))
      replace G := grown_two G hg; replace A := A.keepG hg (by omega); replace R := R2; clear R2 hg
      go_wp2_with fail
      refine (ih.out g _ v _ ds _ _ _ (by omega) R (by omega) (hD.out.grow G) (by omega) (by omega)).mono ?_
      rintro e w5 ⟨t3, s3, rfl, K3, ok3, td3, _, hg, R2⟩
      have Q3 := Lib.hid (Kid.mk (K3.mono (B' := w.heap.size + 1) (by have := A.lt; omega)) ok3 td3); clear K3 ok3 td3
      replace Q1 := Lib.hid (Q1.out.on (kept_grownT hg (by omega)))
      replace Q2 := Lib.hid (Q2.out.on (kept_grownT hg (by omega)))
      replace G := grown_two G hg; replace A := A.keepG hg (by omega); replace R := R2; clear R2 hg
      have A7 := A.alloc (.cells #[.int .i64 t1.op, .int .i64 t1.a, .int .i64 t1.b, .string t1.nm, s1, .int .i64 t2.op, .int .i64 t2.a, .int .i64 t2.b, .string t2.nm, s2, .int .i64 t3.op, .int .i64 t3.a, .int .i64 t3.b, .string t3.nm, s3] 33)
      have EN := Lib.hid (end3 23 0 0 A G R hr.out Q1.out Q2.out Q3.out (by simp [TOk, Tm.op, Tm.a, Tm.b, Tm.nm, ByteArray.size]))
      clear A G
      obtain ⟨A0, A1, A2, A3, A4, A5⟩ := A7.cells
      obtain ⟨F0, F1, F2, F3, F4⟩ := A7.frozen
      go_wp2_with fail
      obtain ⟨Af, Gf⟩ := EN.out
      obtain ⟨r0, r1, r2, r3, r4, _⟩ := Af.cells
      exact bodyPost_ret (v := .agg #[.int .i64 23, .int .i64 0, .int .i64 0, .string ⟨#[]⟩, .slice (some ⟨w5.heap.size, 0, none⟩) 3 3]) (by simp [results, Tryd.results62, go_sem, r0, r1, r2, r3, r4]) rfl (Gf.le (by omega))
    have n0 : (p == 0) = false := by simpa using c0
    by_cases c1 : p = 1
    · subst c1
      clear n0
      go_wp2_with fail
      refine (pick_any g _ v (5 - sort) _ R (by omega)).mono ?_
      rintro e w3 ⟨x, rfl, x0, x1, _, hg, R2⟩
      replace x1 := x1 (by omega)
      replace G := grown_two G hg; replace A := A.keepG hg (by omega); replace R := R2; clear R2 hg
      go_wp2_with fail
      refine (pick_any g _ v (sort + x - sort + 1) _ R (by omega)).mono ?_
      rintro e w4 ⟨lo, rfl, lo0, lo1, _, hg, R2⟩
      replace lo1 := lo1 (by omega)
      replace G := grown_two G hg; replace A := A.keepG hg (by omega); replace R := R2; clear R2 hg
      go_wp2_with fail
      refine (ih.out g _ v _ ds _ _ _ (by omega) R (by omega) (hD.out.grow G) (by omega) (by omega)).mono ?_
      rintro e w5 ⟨t1, s1, rfl, K1, ok1, td1, _, hg, R2⟩
      have Q1 := Lib.hid (Kid.mk (K1.mono (B' := w.heap.size + 1) (by have := A.lt; omega)) ok1 td1); clear K1 ok1 td1
      replace G := grown_two G hg; replace A := A.keepG hg (by omega); replace R := R2; clear R2 hg
      have A7 := A.alloc (.cells #[.int .i64 t1.op, .int .i64 t1.a, .int .i64 t1.b, .string t1.nm, s1] 33)
      have EN := Lib.hid (end1 22 (lo + sort - 1) (lo) A G R hr.out Q1.out (⟨by simp [Tm.op], by simp [Tm.op], by simp [Tm.a]; omega, by simp [Tm.a]; omega, by simp [Tm.b]; omega, by simp [Tm.b]; omega, by simp [Tm.nm, ByteArray.size]⟩))
      clear A G
      obtain ⟨A0, A1, A2, A3, A4, A5⟩ := A7.cells
      obtain ⟨F0, F1, F2, F3, F4⟩ := A7.frozen
      go_wp2_with fail
      obtain ⟨Af, Gf⟩ := EN.out
      obtain ⟨r0, r1, r2, r3, r4, _⟩ := Af.cells
      exact bodyPost_ret (v := .agg #[.int .i64 22, .int .i64 (lo + sort - 1), .int .i64 (lo), .string ⟨#[]⟩, .slice (some ⟨w5.heap.size, 0, none⟩) 1 1]) (by simp [results, Tryd.results62, go_sem, r0, r1, r2, r3, r4]) rfl (Gf.le (by omega))
    have n1 : (p == 1) = false := by simpa using c1
    by_cases c2 : p = 2 ∧ 1 < sort
    · obtain ⟨rfl, c2s⟩ := c2
      clear n0 n1
      go_wp2_with fail
      refine (pick_any g _ v (sort - 1) _ R (by omega)).mono ?_
      rintro e w3 ⟨x, rfl, x0, x1, _, hg, R2⟩
      replace x1 := x1 (by omega)
      replace G := grown_two G hg; replace A := A.keepG hg (by omega); replace R := R2; clear R2 hg
      go_wp2_with fail
      refine (ih.out g _ v _ ds _ _ _ (by omega) R (by omega) (hD.out.grow G) (by omega) (by omega)).mono ?_
      rintro e w4 ⟨t1, s1, rfl, K1, ok1, td1, _, hg, R2⟩
      have Q1 := Lib.hid (Kid.mk (K1.mono (B' := w.heap.size + 1) (by have := A.lt; omega)) ok1 td1); clear K1 ok1 td1
      replace G := grown_two G hg; replace A := A.keepG hg (by omega); replace R := R2; clear R2 hg
      go_wp2_with fail
      refine (ih.out g _ v _ ds _ _ _ (by omega) R (by omega) (hD.out.grow G) (by omega) (by omega)).mono ?_
      rintro e w5 ⟨t2, s2, rfl, K2, ok2, td2, _, hg, R2⟩
      have Q2 := Lib.hid (Kid.mk (K2.mono (B' := w.heap.size + 1) (by have := A.lt; omega)) ok2 td2); clear K2 ok2 td2
      replace Q1 := Lib.hid (Q1.out.on (kept_grownT hg (by omega)))
      replace G := grown_two G hg; replace A := A.keepG hg (by omega); replace R := R2; clear R2 hg
      have A7 := A.alloc (.cells #[.int .i64 t1.op, .int .i64 t1.a, .int .i64 t1.b, .string t1.nm, s1, .int .i64 t2.op, .int .i64 t2.a, .int .i64 t2.b, .string t2.nm, s2] 33)
      have EN := Lib.hid (end2 14 0 0 A G R hr.out Q1.out Q2.out (by simp [TOk, Tm.op, Tm.a, Tm.b, Tm.nm, ByteArray.size]))
      clear A G
      obtain ⟨A0, A1, A2, A3, A4, A5⟩ := A7.cells
      obtain ⟨F0, F1, F2, F3, F4⟩ := A7.frozen
      go_wp2_with fail
      obtain ⟨Af, Gf⟩ := EN.out
      obtain ⟨r0, r1, r2, r3, r4, _⟩ := Af.cells
      exact bodyPost_ret (v := .agg #[.int .i64 14, .int .i64 0, .int .i64 0, .string ⟨#[]⟩, .slice (some ⟨w5.heap.size, 0, none⟩) 2 2]) (by simp [results, Tryd.results62, go_sem, r0, r1, r2, r3, r4]) rfl (Gf.le (by omega))
    by_cases c3 : p = 2
    · subst c3
      have n2 : decide (1 < sort) = false := by simp; omega
      clear n0 n1
      go_wp2_with fail
      refine (pick_any g _ v 2 _ R (by omega)).mono ?_
      rintro e w3 ⟨x, rfl, x0, x1, _, hg, R2⟩
      replace x1 := x1 (by omega)
      replace G := grown_two G hg; replace A := A.keepG hg (by omega); replace R := R2; clear R2 hg
      go_wp2_with fail
      refine (ih.out g _ v _ ds _ _ _ (by omega) R (by omega) (hD.out.grow G) (by omega) (by omega)).mono ?_
      rintro e w4 ⟨t1, s1, rfl, K1, ok1, td1, _, hg, R2⟩
      have Q1 := Lib.hid (Kid.mk (K1.mono (B' := w.heap.size + 1) (by have := A.lt; omega)) ok1 td1); clear K1 ok1 td1
      replace G := grown_two G hg; replace A := A.keepG hg (by omega); replace R := R2; clear R2 hg
      have A7 := A.alloc (.cells #[.int .i64 t1.op, .int .i64 t1.a, .int .i64 t1.b, .string t1.nm, s1] 33)
      have EN := Lib.hid (end1 (1 + x) 0 0 A G R hr.out Q1.out (⟨by simp [Tm.op]; omega, by simp [Tm.op]; omega, by simp [Tm.a], by simp [Tm.a], by simp [Tm.b], by simp [Tm.b], by simp [Tm.nm, ByteArray.size]⟩))
      clear A G
      obtain ⟨A0, A1, A2, A3, A4, A5⟩ := A7.cells
      obtain ⟨F0, F1, F2, F3, F4⟩ := A7.frozen
      go_wp2_with fail
      obtain ⟨Af, Gf⟩ := EN.out
      obtain ⟨r0, r1, r2, r3, r4, _⟩ := Af.cells
      exact bodyPost_ret (v := .agg #[.int .i64 (1 + x), .int .i64 0, .int .i64 0, .string ⟨#[]⟩, .slice (some ⟨w4.heap.size, 0, none⟩) 1 1]) (by simp [results, Tryd.results62, go_sem, r0, r1, r2, r3, r4]) rfl (Gf.le (by omega))
    have n2 : (p == 2) = false := by simpa using c3
    by_cases c5 : p < 5
    · skip
      go_wp2_with fail
      refine (pick_any g _ v 2 _ R (by omega)).mono ?_
      rintro e w3 ⟨x, rfl, x0, x1, _, hg, R2⟩
      replace x1 := x1 (by omega)
      replace G := grown_two G hg; replace A := A.keepG hg (by omega); replace R := R2; clear R2 hg
      go_wp2_with fail
      refine (ih.out g _ v _ ds _ _ _ (by omega) R (by omega) (hD.out.grow G) (by omega) (by omega)).mono ?_
      rintro e w4 ⟨t1, s1, rfl, K1, ok1, td1, _, hg, R2⟩
      have Q1 := Lib.hid (Kid.mk (K1.mono (B' := w.heap.size + 1) (by have := A.lt; omega)) ok1 td1); clear K1 ok1 td1
      replace G := grown_two G hg; replace A := A.keepG hg (by omega); replace R := R2; clear R2 hg
      have A7 := A.alloc (.cells #[.int .i64 t1.op, .int .i64 t1.a, .int .i64 t1.b, .string t1.nm, s1] 33)
      have EN := Lib.hid (end1 (1 + x) 0 0 A G R hr.out Q1.out (⟨by simp [Tm.op]; omega, by simp [Tm.op]; omega, by simp [Tm.a], by simp [Tm.a], by simp [Tm.b], by simp [Tm.b], by simp [Tm.nm, ByteArray.size]⟩))
      clear A G
      obtain ⟨A0, A1, A2, A3, A4, A5⟩ := A7.cells
      obtain ⟨F0, F1, F2, F3, F4⟩ := A7.frozen
      go_wp2_with fail
      obtain ⟨Af, Gf⟩ := EN.out
      obtain ⟨r0, r1, r2, r3, r4, _⟩ := Af.cells
      exact bodyPost_ret (v := .agg #[.int .i64 (1 + x), .int .i64 0, .int .i64 0, .string ⟨#[]⟩, .slice (some ⟨w4.heap.size, 0, none⟩) 1 1]) (by simp [results, Tryd.results62, go_sem, r0, r1, r2, r3, r4]) rfl (Gf.le (by omega))
    · have n5 : decide (p < 5) = false := by simpa using c5
      go_wp2_with fail
      refine (pick_any g _ v 11 _ R (by omega)).mono ?_
      rintro e w3 ⟨x, rfl, x0, x1, _, hg, R2⟩
      replace x1 := x1 (by omega)
      replace G := grown_two G hg; replace A := A.keepG hg (by omega); replace R := R2; clear R2 hg
      go_wp2_with fail
      refine (ih.out g _ v _ ds _ _ _ (by omega) R (by omega) (hD.out.grow G) (by omega) (by omega)).mono ?_
      rintro e w4 ⟨t1, s1, rfl, K1, ok1, td1, _, hg, R2⟩
      have Q1 := Lib.hid (Kid.mk (K1.mono (B' := w.heap.size + 1) (by have := A.lt; omega)) ok1 td1); clear K1 ok1 td1
      replace G := grown_two G hg; replace A := A.keepG hg (by omega); replace R := R2; clear R2 hg
      go_wp2_with fail
      refine (ih.out g _ v _ ds _ _ _ (by omega) R (by omega) (hD.out.grow G) (by omega) (by omega)).mono ?_
      rintro e w5 ⟨t2, s2, rfl, K2, ok2, td2, _, hg, R2⟩
      have Q2 := Lib.hid (Kid.mk (K2.mono (B' := w.heap.size + 1) (by have := A.lt; omega)) ok2 td2); clear K2 ok2 td2
      replace Q1 := Lib.hid (Q1.out.on (kept_grownT hg (by omega)))
      replace G := grown_two G hg; replace A := A.keepG hg (by omega); replace R := R2; clear R2 hg
      have A7 := A.alloc (.cells #[.int .i64 t1.op, .int .i64 t1.a, .int .i64 t1.b, .string t1.nm, s1, .int .i64 t2.op, .int .i64 t2.a, .int .i64 t2.b, .string t2.nm, s2] 33)
      have EN := Lib.hid (end2 (3 + x) 0 0 A G R hr.out Q1.out Q2.out (⟨by simp [Tm.op]; omega, by simp [Tm.op]; omega, by simp [Tm.a], by simp [Tm.a], by simp [Tm.b], by simp [Tm.b], by simp [Tm.nm, ByteArray.size]⟩))
      clear A G
      obtain ⟨A0, A1, A2, A3, A4, A5⟩ := A7.cells
      obtain ⟨F0, F1, F2, F3, F4⟩ := A7.frozen
      go_wp2_with fail
      obtain ⟨Af, Gf⟩ := EN.out
      obtain ⟨r0, r1, r2, r3, r4, _⟩ := Af.cells
      exact bodyPost_ret (v := .agg #[.int .i64 (3 + x), .int .i64 0, .int .i64 0, .string ⟨#[]⟩, .slice (some ⟨w5.heap.size, 0, none⟩) 2 2]) (by simp [results, Tryd.results62, go_sem, r0, r1, r2, r3, r4]) rfl (Gf.le (by omega))

theorem l2Term_any : ∀ d : Nat, d ≤ 10 → TermC d
  | 0, _ => l2Term_zero
  | d + 1, h => l2Term_succ d (by omega) (Lib.hid (l2Term_any d (by omega)))
end Go.Proofs.YtfkanemjedndgaaDoor
