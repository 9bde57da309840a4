/- The walk of FnVecRing: for every argument the law returns true and leaves alone what was there. -/
import Derived.Test.YtpnpjdebmakamaaRg
import Derived.Test.YtpnpjdebmakamaaWq
import Derived.Test.YtpnpjdebmakamaaBy
import Derived.Test.YtpnpjdebmakamaaVs
import Derived.Test.YtpnpjdebmakamaaVq
namespace Go.Proofs.Ytpnpjdebmakamaa
open Go.RowKit

theorem add_eq {a x y : Int} (h : vokB a x = true) (h' : vokB a y = true) : binN 6 a x a y = (x + y) % two a.toNat := by
  rw [(bin_ok (op := 6) (by decide) (by decide) h h').2.2]; simp [binR]
theorem mul_eq {a x y : Int} (h : vokB a x = true) (h' : vokB a y = true) : binN 8 a x a y = (x * y) % two a.toNat := by
  rw [(bin_ok (op := 8) (by decide) (by decide) h h').2.2]; simp [binR]
theorem sub_eq {a x y : Int} (h : vokB a x = true) (h' : vokB a y = true) : binN 7 a x a y = (x - y) % two a.toNat := by
  have := vokB_bd h
  rw [(bin_ok (op := 7) (by decide) (by decide) h h').2.2, show binR 7 a x y = IntKind.u64.wrap (x - y) by simp [binR], sub_mod (by omega)]
theorem ring_facts {a b d f : Int} (hb : vokB a b = true) (hd : vokB a d = true) (hf : vokB a f = true) :
    binN 6 a d a b = binN 6 a b a d ∧ binN 8 a d a b = binN 8 a b a d ∧ binN 7 a (binN 6 a b a d) a d = b ∧
    binN 6 a b a (binN 6 a d a f) = binN 6 a (binN 6 a b a d) a f ∧ binN 8 a b a (binN 8 a d a f) = binN 8 a (binN 8 a b a d) a f ∧
    binN 6 a (binN 8 a b a f) a (binN 8 a d a f) = binN 8 a (binN 6 a b a d) a f := by
  have s1 := (bin_ok (op := 6) (by decide) (by decide) hb hd).2.1
  have s2 := (bin_ok (op := 6) (by decide) (by decide) hd hf).2.1
  have p1 := (bin_ok (op := 8) (by decide) (by decide) hb hd).2.1
  have p2 := (bin_ok (op := 8) (by decide) (by decide) hd hf).2.1
  have p3 := (bin_ok (op := 8) (by decide) (by decide) hb hf).2.1
  obtain ⟨_, _, q3, q4⟩ := vokB_bd hb
  rw [add_eq hd hb, mul_eq hd hb, sub_eq s1 hd, add_eq hb s2, add_eq s1 hf, mul_eq hb p2, mul_eq p1 hf, add_eq p3 p2, mul_eq s1 hf, add_eq hb hd, mul_eq hb hd, add_eq hd hf, mul_eq hd hf, mul_eq hb hf]
  refine ⟨by rw [Int.add_comm], by rw [Int.mul_comm], ?_, ?_, ?_, ?_⟩
  · rw [Int.sub_emod, Int.emod_emod, ← Int.sub_emod, Int.add_sub_cancel, Int.emod_eq_of_lt q3 q4]
  · rw [Int.add_emod b, Int.emod_emod, ← Int.add_emod, Int.add_emod _ f, Int.emod_emod, ← Int.add_emod, Int.add_assoc]
  · rw [Int.mul_emod b, Int.emod_emod, ← Int.mul_emod, Int.mul_emod _ f, Int.emod_emod, ← Int.mul_emod, Int.mul_assoc]
  · rw [← Int.add_emod, Int.mul_emod _ f, Int.emod_emod, ← Int.mul_emod, Int.add_mul]

set_option linter.unusedSimpArgs false in
set_option linter.unusedVariables false in
set_option maxRecDepth 20000 in
set_option maxHeartbeats 8000000 in
theorem walk_FnVecRing (v : Value) {w : World} (h : BytesIn w v) (v' : Value) (h' : BytesIn w v') :
    Calls Try.prog 17 #[v, v'] w fun e w' => e = .returned (.bool true) ∧ Below w.heap.size w w' := by
  obtain ⟨a0, len, cap, rfl⟩ : ∃ a len cap, v = .slice a len cap := by
    rcases h with ⟨a, c, rfl⟩ | ⟨b, off, len, cap, rfl, _⟩ <;> exact ⟨_, _, _, rfl⟩
  obtain ⟨a0', len', cap', rfl⟩ : ∃ a len cap, v' = .slice a len cap := by
    rcases h' with ⟨a, c, rfl⟩ | ⟨b, off, len, cap, rfl, _⟩ <;> exact ⟨_, _, _, rfl⟩
  by_cases hb : (1048576 : Int) < len
  · go_enter Try.func17, Try.ntmps17
    go_wp2_with fail
    go_ret
    exact ⟨rfl, Below.refl _ _⟩
  by_cases hb' : (1048576 : Int) < len'
  · go_enter Try.func17, Try.ntmps17
    go_wp2_with fail
    go_ret
    exact ⟨rfl, Below.refl _ _⟩
  go_enter Try.func17, Try.ntmps17
  go_wp2_with fail
  refine (drawVecBin_any _ _ h).mono ?_
  rintro e w1 ⟨_, rfl, ⟨op, a, b, c, d, rfl⟩, hb1⟩
  have K := hb1
  clear hb1
  replace K := below_step (below_step K (.cells #[.int .i64 a, .int .i64 b] 26)) (.cells #[.int .i64 c, .int .i64 d] 26)
  have A := (blk_new w1 (.int .i64 a) (.int .i64 b) 26).alloc (.cells #[.int .i64 c, .int .i64 d] 26)
  have B := blk_new1 w1 (.cells #[.int .i64 a, .int .i64 b] 26) (.int .i64 c) (.int .i64 d) 26
  obtain ⟨A0, A1, A2⟩ := A.cells
  obtain ⟨B0, B1, B2⟩ := B.cells
  go_wp2_with fail
  refine (drawVecBin_any _ _ (h'.below K)).mono ?_
  rintro e w2 ⟨_, rfl, ⟨op2, e, f, g, i, rfl⟩, hb1⟩
  clear A0 A1 A2 B0 B1 B2
  replace A := A.keep hb1
  replace B := B.keep hb1
  replace K := below_two K hb1
  clear hb1
  have zC : w.heap.size ≤ w2.heap.size := K.size
  have nA : ¬ w1.heap.size = w2.heap.size := Nat.ne_of_lt A.lt
  have nA1 : ¬ w1.heap.size = w2.heap.size + 1 := Nat.ne_of_lt (Nat.lt_of_lt_of_le A.lt (by omega))
  have nB : ¬ (w1.heap.size + 1) = w2.heap.size := Nat.ne_of_lt B.lt
  have nB1 : ¬ (w1.heap.size + 1) = w2.heap.size + 1 := Nat.ne_of_lt (Nat.lt_of_lt_of_le B.lt (by omega))
  have oC : (w1.heap.size + 1) < w2.heap.size := B.lt
  replace A := (A.alloc (.cells #[.int .i64 e, .int .i64 f] 26)).alloc (.cells #[.int .i64 g, .int .i64 i] 26)
  replace B := (B.alloc (.cells #[.int .i64 e, .int .i64 f] 26)).alloc (.cells #[.int .i64 g, .int .i64 i] 26)
  replace K := below_step (below_step K (.cells #[.int .i64 e, .int .i64 f] 26)) (.cells #[.int .i64 g, .int .i64 i] 26)
  have C := (blk_new w2 (.int .i64 e) (.int .i64 f) 26).alloc (.cells #[.int .i64 g, .int .i64 i] 26)
  have D := blk_new1 w2 (.cells #[.int .i64 e, .int .i64 f] 26) (.int .i64 g) (.int .i64 i) 26
  obtain ⟨A0, A1, A2⟩ := A.cells
  obtain ⟨B0, B1, B2⟩ := B.cells
  obtain ⟨C0, C1, C2⟩ := C.cells
  obtain ⟨D0, D1, D2⟩ := D.cells
  go_wp2_with fail
  refine (vecBin_impl op a b c d _).mono ?_; rintro e w3 ⟨rfl, hb⟩
  clear A0 A1 A2 B0 B1 B2 C0 C1 C2 D0 D1 D2
  clear nA nA1 nB nB1
  replace A := A.keep hb
  replace B := B.keep hb
  replace C := C.keep hb
  replace D := D.keep hb
  replace K := below_two K hb
  clear hb
  have nA : ¬ w1.heap.size = w3.heap.size := Nat.ne_of_lt A.lt
  have nB : ¬ (w1.heap.size + 1) = w3.heap.size := Nat.ne_of_lt B.lt
  have nC : ¬ w2.heap.size = w3.heap.size := Nat.ne_of_lt C.lt
  have nD : ¬ (w2.heap.size + 1) = w3.heap.size := Nat.ne_of_lt D.lt
  have oX : (w2.heap.size + 1) < w3.heap.size := D.lt
  replace A := A.alloc (.cells #[.int .i64 (binW op a b c d), .int .i64 (binN op a b c d)] 26)
  replace B := B.alloc (.cells #[.int .i64 (binW op a b c d), .int .i64 (binN op a b c d)] 26)
  replace C := C.alloc (.cells #[.int .i64 (binW op a b c d), .int .i64 (binN op a b c d)] 26)
  replace D := D.alloc (.cells #[.int .i64 (binW op a b c d), .int .i64 (binN op a b c d)] 26)
  replace K := below_step K (.cells #[.int .i64 (binW op a b c d), .int .i64 (binN op a b c d)] 26)
  have X := blk_new w3 (.int .i64 (binW op a b c d)) (.int .i64 (binN op a b c d)) 26
  obtain ⟨A0, A1, A2⟩ := A.cells
  obtain ⟨B0, B1, B2⟩ := B.cells
  obtain ⟨C0, C1, C2⟩ := C.cells
  obtain ⟨D0, D1, D2⟩ := D.cells
  obtain ⟨X0, X1, X2⟩ := X.cells
  go_wp2_with fail
  refine (vecBin_spec op a b c d _).mono ?_; rintro e w4 ⟨rfl, hb⟩
  clear A0 A1 A2 B0 B1 B2 C0 C1 C2 D0 D1 D2 X0 X1 X2
  clear nA nB nC nD
  replace A := A.keep hb
  replace B := B.keep hb
  replace C := C.keep hb
  replace D := D.keep hb
  replace X := X.keep hb
  replace K := below_two K hb
  clear hb
  have nA : ¬ w1.heap.size = w4.heap.size := Nat.ne_of_lt A.lt
  have nB : ¬ (w1.heap.size + 1) = w4.heap.size := Nat.ne_of_lt B.lt
  have nC : ¬ w2.heap.size = w4.heap.size := Nat.ne_of_lt C.lt
  have nD : ¬ (w2.heap.size + 1) = w4.heap.size := Nat.ne_of_lt D.lt
  have nX : ¬ w3.heap.size = w4.heap.size := Nat.ne_of_lt X.lt
  have oY : w3.heap.size < w4.heap.size := X.lt
  replace A := A.alloc (.cells #[.int .i64 (binW op a b c d), .int .i64 (binN op a b c d)] 26)
  replace B := B.alloc (.cells #[.int .i64 (binW op a b c d), .int .i64 (binN op a b c d)] 26)
  replace C := C.alloc (.cells #[.int .i64 (binW op a b c d), .int .i64 (binN op a b c d)] 26)
  replace D := D.alloc (.cells #[.int .i64 (binW op a b c d), .int .i64 (binN op a b c d)] 26)
  replace X := X.alloc (.cells #[.int .i64 (binW op a b c d), .int .i64 (binN op a b c d)] 26)
  replace K := below_step K (.cells #[.int .i64 (binW op a b c d), .int .i64 (binN op a b c d)] 26)
  have Y := blk_new w4 (.int .i64 (binW op a b c d)) (.int .i64 (binN op a b c d)) 26
  obtain ⟨A0, A1, A2⟩ := A.cells
  obtain ⟨B0, B1, B2⟩ := B.cells
  obtain ⟨C0, C1, C2⟩ := C.cells
  obtain ⟨D0, D1, D2⟩ := D.cells
  obtain ⟨X0, X1, X2⟩ := X.cells
  obtain ⟨Y0, Y1, Y2⟩ := Y.cells
  go_wp2_with fail
  cases hv : vokB a b
  · refine (vecOk_impl a b _).mono ?_; rintro e w5 ⟨rfl, hb⟩
    rw [hv]
    clear A0 A1 A2 B0 B1 B2 C0 C1 C2 D0 D1 D2 X0 X1 X2 Y0 Y1 Y2
    clear nA nB nC nD nX
    replace A := A.keep hb
    replace B := B.keep hb
    replace C := C.keep hb
    replace D := D.keep hb
    replace X := X.keep hb
    replace Y := Y.keep hb
    replace K := below_two K hb
    clear hb
    obtain ⟨A0, A1, A2⟩ := A.cells
    obtain ⟨B0, B1, B2⟩ := B.cells
    obtain ⟨C0, C1, C2⟩ := C.cells
    obtain ⟨D0, D1, D2⟩ := D.cells
    obtain ⟨X0, X1, X2⟩ := X.cells
    obtain ⟨Y0, Y1, Y2⟩ := Y.cells
    go_wp2_with fail
    go_ret
    exact ⟨rfl, K⟩
  · refine (vecOk_impl a b _).mono ?_; rintro e w5 ⟨rfl, hb⟩
    rw [hv]
    clear A0 A1 A2 B0 B1 B2 C0 C1 C2 D0 D1 D2 X0 X1 X2 Y0 Y1 Y2
    clear nA nB nC nD nX
    replace A := A.keep hb
    replace B := B.keep hb
    replace C := C.keep hb
    replace D := D.keep hb
    replace X := X.keep hb
    replace Y := Y.keep hb
    replace K := below_two K hb
    clear hb
    obtain ⟨A0, A1, A2⟩ := A.cells
    obtain ⟨B0, B1, B2⟩ := B.cells
    obtain ⟨C0, C1, C2⟩ := C.cells
    obtain ⟨D0, D1, D2⟩ := D.cells
    obtain ⟨X0, X1, X2⟩ := X.cells
    obtain ⟨Y0, Y1, Y2⟩ := Y.cells
    go_wp2_with fail
    cases hv2 : vokB c d
    · refine (vecOk_impl c d _).mono ?_; rintro e w6 ⟨rfl, hb⟩
      rw [hv2]
      clear A0 A1 A2 B0 B1 B2 C0 C1 C2 D0 D1 D2 X0 X1 X2 Y0 Y1 Y2
      replace A := A.keep hb
      replace B := B.keep hb
      replace C := C.keep hb
      replace D := D.keep hb
      replace X := X.keep hb
      replace Y := Y.keep hb
      replace K := below_two K hb
      clear hb
      obtain ⟨A0, A1, A2⟩ := A.cells
      obtain ⟨B0, B1, B2⟩ := B.cells
      obtain ⟨C0, C1, C2⟩ := C.cells
      obtain ⟨D0, D1, D2⟩ := D.cells
      obtain ⟨X0, X1, X2⟩ := X.cells
      obtain ⟨Y0, Y1, Y2⟩ := Y.cells
      go_wp2_with fail
      go_ret
      exact ⟨rfl, K⟩
    · refine (vecOk_impl c d _).mono ?_; rintro e w6 ⟨rfl, hb⟩
      rw [hv2]
      clear A0 A1 A2 B0 B1 B2 C0 C1 C2 D0 D1 D2 X0 X1 X2 Y0 Y1 Y2
      replace A := A.keep hb
      replace B := B.keep hb
      replace C := C.keep hb
      replace D := D.keep hb
      replace X := X.keep hb
      replace Y := Y.keep hb
      replace K := below_two K hb
      clear hb
      obtain ⟨A0, A1, A2⟩ := A.cells
      obtain ⟨B0, B1, B2⟩ := B.cells
      obtain ⟨C0, C1, C2⟩ := C.cells
      obtain ⟨D0, D1, D2⟩ := D.cells
      obtain ⟨X0, X1, X2⟩ := X.cells
      obtain ⟨Y0, Y1, Y2⟩ := Y.cells
      go_wp2_with fail
      cases hv3 : vokB e f
      · refine (vecOk_impl e f _).mono ?_; rintro e w7 ⟨rfl, hb⟩
        rw [hv3]
        clear A0 A1 A2 B0 B1 B2 C0 C1 C2 D0 D1 D2 X0 X1 X2 Y0 Y1 Y2
        replace A := A.keep hb
        replace B := B.keep hb
        replace C := C.keep hb
        replace D := D.keep hb
        replace X := X.keep hb
        replace Y := Y.keep hb
        replace K := below_two K hb
        clear hb
        obtain ⟨A0, A1, A2⟩ := A.cells
        obtain ⟨B0, B1, B2⟩ := B.cells
        obtain ⟨C0, C1, C2⟩ := C.cells
        obtain ⟨D0, D1, D2⟩ := D.cells
        obtain ⟨X0, X1, X2⟩ := X.cells
        obtain ⟨Y0, Y1, Y2⟩ := Y.cells
        go_wp2_with fail
        go_ret
        exact ⟨rfl, K⟩
      · by_cases hac : a = c
        · subst hac
          refine (vecOk_impl e f _).mono ?_; rintro e w7 ⟨rfl, hb⟩
          rw [hv3]
          clear A0 A1 A2 B0 B1 B2 C0 C1 C2 D0 D1 D2 X0 X1 X2 Y0 Y1 Y2
          replace A := A.keep hb
          replace B := B.keep hb
          replace C := C.keep hb
          replace D := D.keep hb
          replace X := X.keep hb
          replace Y := Y.keep hb
          replace K := below_two K hb
          clear hb
          obtain ⟨A0, A1, A2⟩ := A.cells
          obtain ⟨B0, B1, B2⟩ := B.cells
          obtain ⟨C0, C1, C2⟩ := C.cells
          obtain ⟨D0, D1, D2⟩ := D.cells
          obtain ⟨X0, X1, X2⟩ := X.cells
          obtain ⟨Y0, Y1, Y2⟩ := Y.cells
          obtain ⟨ka1, ka2, kb1, kb2⟩ := vokB_bd hv
          obtain ⟨_, _, kf1, kf2⟩ := vokB_bd hv3
          have kt := two_pos a.toNat
          have Vl : vokB a (f % two a.toNat) = true := vok_mk ka1 ka2 (Int.emod_nonneg _ (by omega)) (Int.emod_lt_of_pos _ (by omega))
          generalize hl : f % two a.toNat = l at *
          have HL := Lib.hid hl
          clear hl kt kb1 kb2 kf2
          go_wp2_with fail
          refine wp_region_still_tail 8 (by kernel_rfl) (by kernel_rfl) ?_
          simp only [List.take_succ_cons, List.take_zero, List.drop_succ_cons, List.drop_zero]
          repeat still_step
          still_call ((wpLow_any f a _ (by omega) (by omega)).mono (fun e w h => ⟨h.1, h.2.symm⟩))
          repeat still_step
          refine wpStill_nil ?_
          rw [HL.out]
          clear A0 A1 A2 B0 B1 B2 C0 C1 C2 D0 D1 D2 X0 X1 X2 Y0 Y1 Y2
          have eA : ¬ w1.heap.size = w2.heap.size := by omega
          have eA' : ¬ w2.heap.size = w1.heap.size := by omega
          have eB : ¬ (w1.heap.size + 1) = w2.heap.size := by omega
          have eB' : ¬ w2.heap.size = (w1.heap.size + 1) := by omega
          obtain ⟨A0, A1, A2⟩ := A.cells
          obtain ⟨B0, B1, B2⟩ := B.cells
          obtain ⟨C0, C1, C2⟩ := C.cells
          obtain ⟨C3, C4⟩ := C.frozen
          go_wp2_with fail
          clear C3 C4 eA eB eA' eB'
          clear A0 A1 A2 B0 B1 B2 C0 C1 C2
          replace A := ((A.set_other (p := ⟨w2.heap.size, 0, none⟩) (z := .int .i64 a) (by simp <;> omega)).set_other (p := ⟨w2.heap.size, 1, none⟩) (z := .int .i64 l) (by simp <;> omega)).drew
          replace B := ((B.set_other (p := ⟨w2.heap.size, 0, none⟩) (z := .int .i64 a) (by simp <;> omega)).set_other (p := ⟨w2.heap.size, 1, none⟩) (z := .int .i64 l) (by simp <;> omega)).drew
          replace C := ((C.set0 (.int .i64 a)).set1 (.int .i64 l)).drew
          replace D := ((D.set_other (p := ⟨w2.heap.size, 0, none⟩) (z := .int .i64 a) (by simp <;> omega)).set_other (p := ⟨w2.heap.size, 1, none⟩) (z := .int .i64 l) (by simp <;> omega)).drew
          replace X := ((X.set_other (p := ⟨w2.heap.size, 0, none⟩) (z := .int .i64 a) (by simp <;> omega)).set_other (p := ⟨w2.heap.size, 1, none⟩) (z := .int .i64 l) (by simp <;> omega)).drew
          replace Y := ((Y.set_other (p := ⟨w2.heap.size, 0, none⟩) (z := .int .i64 a) (by simp <;> omega)).set_other (p := ⟨w2.heap.size, 1, none⟩) (z := .int .i64 l) (by simp <;> omega)).drew
          replace K := (below_set2 K (g := w2.heap.size) zC (.int .i64 a) (.int .i64 l)).drew
          obtain ⟨f1, f2, f3, f4, f5, f6⟩ := ring_facts hv hv2 Vl
          have Vb := hv
          have Vd := hv2
          have So := bin_ok (op := 6) (by decide) (by decide) Vb Vd
          generalize Se : binN 6 a b a d = s at *
          have Vs := So.2.1
          have Sn := Lib.hid Se
          have Sw := Lib.hid So.1
          clear Se So
          have S2o := bin_ok (op := 6) (by decide) (by decide) Vd Vb
          have S2n := Lib.hid (f1 : binN 6 a d a b = s)
          have S2w := Lib.hid S2o.1
          clear S2o
          have Po := bin_ok (op := 8) (by decide) (by decide) Vb Vd
          generalize Pe : binN 8 a b a d = p at *
          have Vp := Po.2.1
          have Pn := Lib.hid Pe
          have Pw := Lib.hid Po.1
          clear Pe Po
          have P2o := bin_ok (op := 8) (by decide) (by decide) Vd Vb
          have P2n := Lib.hid (f2 : binN 8 a d a b = p)
          have P2w := Lib.hid P2o.1
          clear P2o
          have Mo := bin_ok (op := 7) (by decide) (by decide) Vs Vd
          have Mn := Lib.hid (f3 : binN 7 a s a d = b)
          have Mw := Lib.hid Mo.1
          clear Mo
          have Uo := bin_ok (op := 6) (by decide) (by decide) Vd Vl
          generalize Ue : binN 6 a d a l = u at *
          have Vu := Uo.2.1
          have Un := Lib.hid Ue
          have Uw := Lib.hid Uo.1
          clear Ue Uo
          have To := bin_ok (op := 6) (by decide) (by decide) Vs Vl
          generalize Te : binN 6 a s a l = t at *
          have Vt := To.2.1
          have Tn := Lib.hid Te
          have Tw := Lib.hid To.1
          clear Te To
          have T2o := bin_ok (op := 6) (by decide) (by decide) Vb Vu
          have T2n := Lib.hid (f4 : binN 6 a b a u = t)
          have T2w := Lib.hid T2o.1
          clear T2o
          have XDo := bin_ok (op := 8) (by decide) (by decide) Vd Vl
          generalize XDe : binN 8 a d a l = x at *
          have Vx := XDo.2.1
          have XDn := Lib.hid XDe
          have XDw := Lib.hid XDo.1
          clear XDe XDo
          have VVo := bin_ok (op := 8) (by decide) (by decide) Vp Vl
          generalize VVe : binN 8 a p a l = vv at *
          have Vvv := VVo.2.1
          have VVn := Lib.hid VVe
          have VVw := Lib.hid VVo.1
          clear VVe VVo
          have V2o := bin_ok (op := 8) (by decide) (by decide) Vb Vx
          have V2n := Lib.hid (f5 : binN 8 a b a x = vv)
          have V2w := Lib.hid V2o.1
          clear V2o
          have Zo := bin_ok (op := 8) (by decide) (by decide) Vb Vl
          generalize Ze : binN 8 a b a l = z at *
          have Vz := Zo.2.1
          have Zn := Lib.hid Ze
          have Zw := Lib.hid Zo.1
          clear Ze Zo
          have YYo := bin_ok (op := 8) (by decide) (by decide) Vs Vl
          generalize YYe : binN 8 a s a l = y at *
          have Vy := YYo.2.1
          have YYn := Lib.hid YYe
          have YYw := Lib.hid YYo.1
          clear YYe YYo
          have Y2o := bin_ok (op := 6) (by decide) (by decide) Vz Vx
          have Y2n := Lib.hid (f6 : binN 6 a z a x = y)
          have Y2w := Lib.hid Y2o.1
          clear Y2o
          clear f1 f2 f3 f4 f5 f6
          refine (wpBin_any 6 a b a d _).mono ?_; rintro e w8 ⟨rfl, hb⟩
          rw [Sw.out, Sn.out]
          replace A := A.keep hb
          replace B := B.keep hb
          replace C := C.keep hb
          replace D := D.keep hb
          replace X := X.keep hb
          replace Y := Y.keep hb
          replace K := below_two K hb
          clear hb
          have nA : ¬ w1.heap.size = w8.heap.size := Nat.ne_of_lt A.lt
          have nB : ¬ (w1.heap.size + 1) = w8.heap.size := Nat.ne_of_lt B.lt
          have nC : ¬ w2.heap.size = w8.heap.size := Nat.ne_of_lt C.lt
          have nD : ¬ (w2.heap.size + 1) = w8.heap.size := Nat.ne_of_lt D.lt
          have nX : ¬ w3.heap.size = w8.heap.size := Nat.ne_of_lt X.lt
          have nY : ¬ w4.heap.size = w8.heap.size := Nat.ne_of_lt Y.lt
          have oG : w4.heap.size < w8.heap.size := Y.lt
          replace A := A.alloc (.cells #[.int .i64 a, .int .i64 s] 26)
          replace B := B.alloc (.cells #[.int .i64 a, .int .i64 s] 26)
          replace C := C.alloc (.cells #[.int .i64 a, .int .i64 s] 26)
          replace D := D.alloc (.cells #[.int .i64 a, .int .i64 s] 26)
          replace X := X.alloc (.cells #[.int .i64 a, .int .i64 s] 26)
          replace Y := Y.alloc (.cells #[.int .i64 a, .int .i64 s] 26)
          replace K := below_step K (.cells #[.int .i64 a, .int .i64 s] 26)
          have G := blk_new w8 (.int .i64 a) (.int .i64 s) 26
          obtain ⟨A0, A1, A2⟩ := A.cells
          obtain ⟨B0, B1, B2⟩ := B.cells
          obtain ⟨C0, C1, C2⟩ := C.cells
          obtain ⟨D0, D1, D2⟩ := D.cells
          obtain ⟨X0, X1, X2⟩ := X.cells
          obtain ⟨Y0, Y1, Y2⟩ := Y.cells
          obtain ⟨G0, G1, G2⟩ := G.cells
          go_wp2_with fail
          clear A0 A1 A2 B0 B1 B2 C0 C1 C2 D0 D1 D2 X0 X1 X2 Y0 Y1 Y2 G0 G1 G2
          clear nA nB nC nD nX nY
          replace A := A.drew
          replace B := B.drew
          replace C := C.drew
          replace D := D.drew
          replace X := X.drew
          replace Y := Y.drew
          replace G := G.drew
          replace K := K.drew
          have sS := cells4 A B C G
          go_region_held3 (fun wx => (wx.cell? ⟨w1.heap.size, 0, none⟩ = some (.int .i64 a) ∧ wx.cell? ⟨w1.heap.size, 1, none⟩ = some (.int .i64 b)) ∧ (wx.cell? ⟨(w1.heap.size + 1), 0, none⟩ = some (.int .i64 a) ∧ wx.cell? ⟨(w1.heap.size + 1), 1, none⟩ = some (.int .i64 d)) ∧ (wx.cell? ⟨w2.heap.size, 0, none⟩ = some (.int .i64 a) ∧ wx.cell? ⟨w2.heap.size, 1, none⟩ = some (.int .i64 l)) ∧ (wx.cell? ⟨w8.heap.size, 0, none⟩ = some (.int .i64 a) ∧ wx.cell? ⟨w8.heap.size, 1, none⟩ = some (.int .i64 s)))
            (first | (with_reducible assumption))
            (first
              | (go_at_call 39; (with_reducible refine (wpBin_any 6 a d a b _).mono ?_); rintro e w9 ⟨rfl, hb⟩; rw [S2w.out, S2n.out]; replace A := A.keep hb; replace B := B.keep hb; replace C := C.keep hb; replace D := D.keep hb; replace X := X.keep hb; replace Y := Y.keep hb; replace G := G.keep hb; replace K := below_two K hb; clear hb; replace sS := cells4 A B C G)
              | (go_at_call 39; (with_reducible refine (wpBin_any 8 a b a d _).mono ?_); rintro e w9 ⟨rfl, hb⟩; rw [Pw.out, Pn.out]; replace A := A.keep hb; replace B := B.keep hb; replace C := C.keep hb; replace D := D.keep hb; replace X := X.keep hb; replace Y := Y.keep hb; replace G := G.keep hb; replace K := below_two K hb; clear hb; replace sS := cells4 A B C G)
              | (go_at_call 39; (with_reducible refine (wpBin_any 8 a d a b _).mono ?_); rintro e w9 ⟨rfl, hb⟩; rw [P2w.out, P2n.out]; replace A := A.keep hb; replace B := B.keep hb; replace C := C.keep hb; replace D := D.keep hb; replace X := X.keep hb; replace Y := Y.keep hb; replace G := G.keep hb; replace K := below_two K hb; clear hb; replace sS := cells4 A B C G)
              | (go_at_call 39; (with_reducible refine (wpBin_any 7 a s a d _).mono ?_); rintro e w9 ⟨rfl, hb⟩; rw [Mw.out, Mn.out]; replace A := A.keep hb; replace B := B.keep hb; replace C := C.keep hb; replace D := D.keep hb; replace X := X.keep hb; replace Y := Y.keep hb; replace G := G.keep hb; replace K := below_two K hb; clear hb; replace sS := cells4 A B C G))
          clear sS
          obtain ⟨A0, A1, A2⟩ := A.cells
          obtain ⟨B0, B1, B2⟩ := B.cells
          obtain ⟨C0, C1, C2⟩ := C.cells
          obtain ⟨D0, D1, D2⟩ := D.cells
          obtain ⟨X0, X1, X2⟩ := X.cells
          obtain ⟨Y0, Y1, Y2⟩ := Y.cells
          obtain ⟨G0, G1, G2⟩ := G.cells
          go_wp2_with fail
          clear A0 A1 A2 B0 B1 B2 C0 C1 C2 D0 D1 D2 X0 X1 X2 Y0 Y1 Y2 G0 G1 G2
          replace A := A.drew
          replace B := B.drew
          replace C := C.drew
          replace D := D.drew
          replace X := X.drew
          replace Y := Y.drew
          replace G := G.drew
          replace K := K.drew
          have sS := cells4 A B C G
          go_region_held3 (fun wx => (wx.cell? ⟨w1.heap.size, 0, none⟩ = some (.int .i64 a) ∧ wx.cell? ⟨w1.heap.size, 1, none⟩ = some (.int .i64 b)) ∧ (wx.cell? ⟨(w1.heap.size + 1), 0, none⟩ = some (.int .i64 a) ∧ wx.cell? ⟨(w1.heap.size + 1), 1, none⟩ = some (.int .i64 d)) ∧ (wx.cell? ⟨w2.heap.size, 0, none⟩ = some (.int .i64 a) ∧ wx.cell? ⟨w2.heap.size, 1, none⟩ = some (.int .i64 l)) ∧ (wx.cell? ⟨w8.heap.size, 0, none⟩ = some (.int .i64 a) ∧ wx.cell? ⟨w8.heap.size, 1, none⟩ = some (.int .i64 s)))
            (first | (with_reducible assumption))
            (first
              | (go_at_call 39; (with_reducible refine (wpBin_any 6 a s a l _).mono ?_); rintro e w10 ⟨rfl, hb⟩; rw [Tw.out, Tn.out]; replace A := A.keep hb; replace B := B.keep hb; replace C := C.keep hb; replace D := D.keep hb; replace X := X.keep hb; replace Y := Y.keep hb; replace G := G.keep hb; replace K := below_two K hb; clear hb; replace sS := cells4 A B C G)
              | (go_at_call 39; (with_reducible refine (wpBin_any 6 a d a l _).mono ?_); rintro e w10 ⟨rfl, hb⟩; rw [Uw.out, Un.out]; replace A := A.keep hb; replace B := B.keep hb; replace C := C.keep hb; replace D := D.keep hb; replace X := X.keep hb; replace Y := Y.keep hb; replace G := G.keep hb; replace K := below_two K hb; clear hb; replace sS := cells4 A B C G)
              | (go_at_call 39; (with_reducible refine (wpBin_any 6 a b a u _).mono ?_); rintro e w10 ⟨rfl, hb⟩; rw [T2w.out, T2n.out]; replace A := A.keep hb; replace B := B.keep hb; replace C := C.keep hb; replace D := D.keep hb; replace X := X.keep hb; replace Y := Y.keep hb; replace G := G.keep hb; replace K := below_two K hb; clear hb; replace sS := cells4 A B C G)
              | (go_at_call 39; (with_reducible refine (wpBin_any 8 a b a d _).mono ?_); rintro e w10 ⟨rfl, hb⟩; rw [Pw.out, Pn.out]; replace A := A.keep hb; replace B := B.keep hb; replace C := C.keep hb; replace D := D.keep hb; replace X := X.keep hb; replace Y := Y.keep hb; replace G := G.keep hb; replace K := below_two K hb; clear hb; replace sS := cells4 A B C G)
              | (go_at_call 39; (with_reducible refine (wpBin_any 8 a p a l _).mono ?_); rintro e w10 ⟨rfl, hb⟩; rw [VVw.out, VVn.out]; replace A := A.keep hb; replace B := B.keep hb; replace C := C.keep hb; replace D := D.keep hb; replace X := X.keep hb; replace Y := Y.keep hb; replace G := G.keep hb; replace K := below_two K hb; clear hb; replace sS := cells4 A B C G)
              | (go_at_call 39; (with_reducible refine (wpBin_any 8 a d a l _).mono ?_); rintro e w10 ⟨rfl, hb⟩; rw [XDw.out, XDn.out]; replace A := A.keep hb; replace B := B.keep hb; replace C := C.keep hb; replace D := D.keep hb; replace X := X.keep hb; replace Y := Y.keep hb; replace G := G.keep hb; replace K := below_two K hb; clear hb; replace sS := cells4 A B C G)
              | (go_at_call 39; (with_reducible refine (wpBin_any 8 a b a x _).mono ?_); rintro e w10 ⟨rfl, hb⟩; rw [V2w.out, V2n.out]; replace A := A.keep hb; replace B := B.keep hb; replace C := C.keep hb; replace D := D.keep hb; replace X := X.keep hb; replace Y := Y.keep hb; replace G := G.keep hb; replace K := below_two K hb; clear hb; replace sS := cells4 A B C G))
          clear sS
          obtain ⟨A0, A1, A2⟩ := A.cells
          obtain ⟨B0, B1, B2⟩ := B.cells
          obtain ⟨C0, C1, C2⟩ := C.cells
          obtain ⟨D0, D1, D2⟩ := D.cells
          obtain ⟨X0, X1, X2⟩ := X.cells
          obtain ⟨Y0, Y1, Y2⟩ := Y.cells
          obtain ⟨G0, G1, G2⟩ := G.cells
          go_wp2_with fail
          clear A0 A1 A2 B0 B1 B2 C0 C1 C2 D0 D1 D2 X0 X1 X2 Y0 Y1 Y2 G0 G1 G2
          replace A := A.drew
          replace B := B.drew
          replace C := C.drew
          replace D := D.drew
          replace X := X.drew
          replace Y := Y.drew
          replace G := G.drew
          replace K := K.drew
          have sS := cells4 A B C G
          go_region_held3 (fun wx => (wx.cell? ⟨w1.heap.size, 0, none⟩ = some (.int .i64 a) ∧ wx.cell? ⟨w1.heap.size, 1, none⟩ = some (.int .i64 b)) ∧ (wx.cell? ⟨(w1.heap.size + 1), 0, none⟩ = some (.int .i64 a) ∧ wx.cell? ⟨(w1.heap.size + 1), 1, none⟩ = some (.int .i64 d)) ∧ (wx.cell? ⟨w2.heap.size, 0, none⟩ = some (.int .i64 a) ∧ wx.cell? ⟨w2.heap.size, 1, none⟩ = some (.int .i64 l)) ∧ (wx.cell? ⟨w8.heap.size, 0, none⟩ = some (.int .i64 a) ∧ wx.cell? ⟨w8.heap.size, 1, none⟩ = some (.int .i64 s)))
            (first | (with_reducible assumption))
            (first
              | (go_at_call 39; (with_reducible refine (wpBin_any 8 a s a l _).mono ?_); rintro e w11 ⟨rfl, hb⟩; rw [YYw.out, YYn.out]; replace A := A.keep hb; replace B := B.keep hb; replace C := C.keep hb; replace D := D.keep hb; replace X := X.keep hb; replace Y := Y.keep hb; replace G := G.keep hb; replace K := below_two K hb; clear hb; replace sS := cells4 A B C G)
              | (go_at_call 39; (with_reducible refine (wpBin_any 8 a b a l _).mono ?_); rintro e w11 ⟨rfl, hb⟩; rw [Zw.out, Zn.out]; replace A := A.keep hb; replace B := B.keep hb; replace C := C.keep hb; replace D := D.keep hb; replace X := X.keep hb; replace Y := Y.keep hb; replace G := G.keep hb; replace K := below_two K hb; clear hb; replace sS := cells4 A B C G)
              | (go_at_call 39; (with_reducible refine (wpBin_any 8 a d a l _).mono ?_); rintro e w11 ⟨rfl, hb⟩; rw [XDw.out, XDn.out]; replace A := A.keep hb; replace B := B.keep hb; replace C := C.keep hb; replace D := D.keep hb; replace X := X.keep hb; replace Y := Y.keep hb; replace G := G.keep hb; replace K := below_two K hb; clear hb; replace sS := cells4 A B C G)
              | (go_at_call 39; (with_reducible refine (wpBin_any 6 a z a x _).mono ?_); rintro e w11 ⟨rfl, hb⟩; rw [Y2w.out, Y2n.out]; replace A := A.keep hb; replace B := B.keep hb; replace C := C.keep hb; replace D := D.keep hb; replace X := X.keep hb; replace Y := Y.keep hb; replace G := G.keep hb; replace K := below_two K hb; clear hb; replace sS := cells4 A B C G))
          clear sS
          obtain ⟨A0, A1, A2⟩ := A.cells
          obtain ⟨B0, B1, B2⟩ := B.cells
          obtain ⟨C0, C1, C2⟩ := C.cells
          obtain ⟨D0, D1, D2⟩ := D.cells
          obtain ⟨X0, X1, X2⟩ := X.cells
          obtain ⟨Y0, Y1, Y2⟩ := Y.cells
          obtain ⟨G0, G1, G2⟩ := G.cells
          go_wp2_with fail
          go_ret
          exact ⟨rfl, K⟩
        · have hac' : (a == c) = false := by simpa using hac
          refine (vecOk_impl e f _).mono ?_; rintro e w7 ⟨rfl, hb⟩
          rw [hv3]
          clear A0 A1 A2 B0 B1 B2 C0 C1 C2 D0 D1 D2 X0 X1 X2 Y0 Y1 Y2
          replace A := A.keep hb
          replace B := B.keep hb
          replace C := C.keep hb
          replace D := D.keep hb
          replace X := X.keep hb
          replace Y := Y.keep hb
          replace K := below_two K hb
          clear hb
          obtain ⟨A0, A1, A2⟩ := A.cells
          obtain ⟨B0, B1, B2⟩ := B.cells
          obtain ⟨C0, C1, C2⟩ := C.cells
          obtain ⟨D0, D1, D2⟩ := D.cells
          obtain ⟨X0, X1, X2⟩ := X.cells
          obtain ⟨Y0, Y1, Y2⟩ := Y.cells
          go_wp2_with fail
          go_ret
          exact ⟨rfl, K⟩
end Go.Proofs.Ytpnpjdebmakamaa
