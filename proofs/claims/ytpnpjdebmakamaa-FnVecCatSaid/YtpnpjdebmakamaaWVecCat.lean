/- The walk of FnVecCat: for every argument the law returns true and leaves alone what was there. -/
import Derived.Test.YtpnpjdebmakamaaRg
import Derived.Test.YtpnpjdebmakamaaWq
import Derived.Test.YtpnpjdebmakamaaBy
import Derived.Test.YtpnpjdebmakamaaVs
import Derived.Test.YtpnpjdebmakamaaVq
namespace Go.Proofs.Ytpnpjdebmakamaa
open Go.RowKit

theorem cat_yes {a b c d : Int} (h : vokB a b = true) (h' : vokB c d = true) (hs : a + c ≤ 4) :
    binB 14 a b c d = true ∧ binW 14 a b c d = a + c ∧ binN 14 a b c d = b * two c.toNat + d ∧ vokB (a + c) (binN 14 a b c d) = true := by
  have hb : binB 14 a b c d = true := by simp [binB, h, h', hs]
  have e : binN 14 a b c d = b * two c.toNat + d := by simp [binN, hb]
  refine ⟨hb, by simp [binW, hb], e, ?_⟩
  rw [e]
  obtain ⟨q1, q2, q3, q4⟩ := vokB_bd h
  obtain ⟨r1, r2, r3, r4⟩ := vokB_bd h'
  have t1 : two (a + c).toNat = two a.toNat * two c.toNat := by
    rw [Int.toNat_add (by omega) (by omega)]; unfold two; rw [Nat.pow_add]; simp
  have t2 := two_pos c.toNat
  have m0 : 0 ≤ b * two c.toNat := Int.mul_nonneg q3 (by omega)
  have m1 : b * two c.toNat ≤ (two a.toNat - 1) * two c.toNat := Int.mul_le_mul_of_nonneg_right (by omega) (by omega)
  rw [Int.sub_mul, Int.one_mul] at m1
  exact vok_mk (by omega) hs (by omega) (by rw [t1]; omega)
theorem cat_no {a b c d : Int} (h : ¬ (vokB a b = true ∧ vokB c d = true ∧ a + c ≤ 4)) : binB 14 a b c d = false ∧ binW 14 a b c d = 0 ∧ binN 14 a b c d = 0 := by
  have hb : binB 14 a b c d = false := by
    cases hx : binB 14 a b c d
    · rfl
    · simp only [binB, Bool.and_eq_true, if_true, decide_eq_true_eq] at hx
      exact absurd ⟨hx.1.1, hx.1.2, hx.2⟩ h
  exact ⟨hb, by simp [binW, hb], by simp [binN, hb]⟩
theorem cat_cat {a b c d e f : Int} (h : vokB a b = true) (h1 : vokB c d = true) (h2 : vokB e f = true) (hs : a + c + e ≤ 4) :
    binN 14 (a + c) (binN 14 a b c d) e f = binN 14 a b (c + e) (binN 14 c d e f) := by
  obtain ⟨q1, q2, q3, q4⟩ := vokB_bd h
  obtain ⟨r1, r2, r3, r4⟩ := vokB_bd h1
  obtain ⟨s1, s2, s3, s4⟩ := vokB_bd h2
  have c1 := cat_yes h h1 (by omega)
  have c2 := cat_yes h1 h2 (by omega)
  have c3 := cat_yes c1.2.2.2 h2 (by omega)
  have c4 := cat_yes h c2.2.2.2 (by omega)
  rw [c3.2.2.1, c4.2.2.1, c1.2.2.1, c2.2.2.1]
  have t1 : two (c + e).toNat = two c.toNat * two e.toNat := by
    rw [Int.toNat_add (by omega) (by omega)]; unfold two; rw [Nat.pow_add]; simp
  rw [t1, Int.add_mul, Int.mul_assoc, Int.add_assoc]
theorem vok_zero : vokB 0 0 = false := by decide

set_option linter.unusedSimpArgs false in
set_option linter.unusedVariables false in
set_option maxRecDepth 20000 in
set_option maxHeartbeats 8000000 in
theorem walk_FnVecCat (v : Value) {w : World} (h : BytesIn w v) (v' : Value) (h' : BytesIn w v') :
    Calls Try.prog 16 #[v, v'] w fun e w' => e = .returned (.bool true) ∧ Below w.heap.size w w' := by
  obtain ⟨a0, len, cap, rfl⟩ : ∃ a len cap, v = .slice a len cap := by
    rcases h with ⟨a, c, rfl⟩ | ⟨b, off, len, cap, rfl, _⟩ <;> exact ⟨_, _, _, rfl⟩
  obtain ⟨a0', len', cap', rfl⟩ : ∃ a len cap, v' = .slice a len cap := by
    rcases h' with ⟨a, c, rfl⟩ | ⟨b, off, len, cap, rfl, _⟩ <;> exact ⟨_, _, _, rfl⟩
  by_cases hb : (1048576 : Int) < len
  · go_enter Try.func16, Try.ntmps16
    go_wp2_with fail
    go_ret
    exact ⟨rfl, Below.refl _ _⟩
  by_cases hb' : (1048576 : Int) < len'
  · go_enter Try.func16, Try.ntmps16
    go_wp2_with fail
    go_ret
    exact ⟨rfl, Below.refl _ _⟩
  go_enter Try.func16, Try.ntmps16
  go_wp2_with fail
  refine (drawVecBin_any _ _ h).mono ?_
  rintro e w1 ⟨_, rfl, ⟨op, a, b, c, d, rfl⟩, hb1⟩
  have K := hb1
  clear hb1
  replace K := below_step (below_step K (.cells #[.int .i64 a, .int .i64 b] 26)) (.cells #[.int .i64 c, .int .i64 d] 26)
  have A := (blk_new w1 (.int .i64 a) (.int .i64 b) 26).alloc (.cells #[.int .i64 c, .int .i64 d] 26)
  have B := blk_new1 w1 (.cells #[.int .i64 a, .int .i64 b] 26) (.int .i64 c) (.int .i64 d) 26
  obtain ⟨A0, A1, A2⟩ := A.cells
  obtain ⟨B0, B1, B2⟩ := B.cells
  go_wp2_with fail
  refine (drawVecOk_any _ _ (h'.below K)).mono ?_
  rintro e w2 ⟨_, rfl, ⟨e, f, rfl⟩, hb1⟩
  clear A0 A1 A2 B0 B1 B2
  replace A := A.keep hb1
  replace B := B.keep hb1
  replace K := below_two K hb1
  clear hb1
  have nA : ¬ w1.heap.size = w2.heap.size := Nat.ne_of_lt A.lt
  have nB : ¬ (w1.heap.size + 1) = w2.heap.size := Nat.ne_of_lt B.lt
  replace A := A.alloc (.cells #[.int .i64 e, .int .i64 f] 26)
  replace B := B.alloc (.cells #[.int .i64 e, .int .i64 f] 26)
  replace K := below_step K (.cells #[.int .i64 e, .int .i64 f] 26)
  have C := blk_new w2 (.int .i64 e) (.int .i64 f) 26
  obtain ⟨A0, A1, A2⟩ := A.cells
  obtain ⟨B0, B1, B2⟩ := B.cells
  obtain ⟨C0, C1, C2⟩ := C.cells
  go_wp2_with fail
  by_cases hs : vokB a b = true ∧ vokB c d = true ∧ a + c ≤ 4
  · obtain ⟨hv, hv2, hac⟩ := hs
    have CC := cat_yes hv hv2 hac
    obtain ⟨a1, a2, _, _⟩ := vokB_bd hv
    obtain ⟨c1, c2, _, _⟩ := vokB_bd hv2
    cases hv3 : vokB e f
    · have CB := Lib.hid CC.1
      have CW := Lib.hid CC.2.1
      generalize hx : binN 14 a b c d = xn at *
      have CN := Lib.hid hx
      clear CC hx
      refine (vecBin_impl 14 a b c d _).mono ?_; rintro e w3 ⟨rfl, hb⟩
      rw [CW.out, CN.out, CB.out]
      clear A0 A1 A2 B0 B1 B2 C0 C1 C2
      clear nA nB
      replace A := A.keep hb
      replace B := B.keep hb
      replace C := C.keep hb
      replace K := below_two K hb
      clear hb
      have nA : ¬ w1.heap.size = w3.heap.size := Nat.ne_of_lt A.lt
      have nB : ¬ (w1.heap.size + 1) = w3.heap.size := Nat.ne_of_lt B.lt
      have nC : ¬ w2.heap.size = w3.heap.size := Nat.ne_of_lt C.lt
      replace A := A.alloc (.cells #[.int .i64 (a + c), .int .i64 xn] 26)
      replace B := B.alloc (.cells #[.int .i64 (a + c), .int .i64 xn] 26)
      replace C := C.alloc (.cells #[.int .i64 (a + c), .int .i64 xn] 26)
      replace K := below_step K (.cells #[.int .i64 (a + c), .int .i64 xn] 26)
      have X := blk_new w3 (.int .i64 (a + c)) (.int .i64 xn) 26
      obtain ⟨A0, A1, A2⟩ := A.cells
      obtain ⟨B0, B1, B2⟩ := B.cells
      obtain ⟨C0, C1, C2⟩ := C.cells
      obtain ⟨X0, X1, X2⟩ := X.cells
      go_wp2_with fail
      refine (vecBin_spec 14 a b c d _).mono ?_; rintro e w4 ⟨rfl, hb⟩
      rw [CW.out, CN.out, CB.out]
      clear A0 A1 A2 B0 B1 B2 C0 C1 C2 X0 X1 X2
      clear nA nB nC
      replace A := A.keep hb
      replace B := B.keep hb
      replace C := C.keep hb
      replace X := X.keep hb
      replace K := below_two K hb
      clear hb
      have nA : ¬ w1.heap.size = w4.heap.size := Nat.ne_of_lt A.lt
      have nB : ¬ (w1.heap.size + 1) = w4.heap.size := Nat.ne_of_lt B.lt
      have nC : ¬ w2.heap.size = w4.heap.size := Nat.ne_of_lt C.lt
      have nX : ¬ w3.heap.size = w4.heap.size := Nat.ne_of_lt X.lt
      replace A := A.alloc (.cells #[.int .i64 (a + c), .int .i64 xn] 26)
      replace B := B.alloc (.cells #[.int .i64 (a + c), .int .i64 xn] 26)
      replace C := C.alloc (.cells #[.int .i64 (a + c), .int .i64 xn] 26)
      replace X := X.alloc (.cells #[.int .i64 (a + c), .int .i64 xn] 26)
      replace K := below_step K (.cells #[.int .i64 (a + c), .int .i64 xn] 26)
      have Y := blk_new w4 (.int .i64 (a + c)) (.int .i64 xn) 26
      obtain ⟨A0, A1, A2⟩ := A.cells
      obtain ⟨B0, B1, B2⟩ := B.cells
      obtain ⟨C0, C1, C2⟩ := C.cells
      obtain ⟨X0, X1, X2⟩ := X.cells
      obtain ⟨Y0, Y1, Y2⟩ := Y.cells
      go_wp2_with fail
      clear A0 A1 A2 B0 B1 B2 C0 C1 C2 X0 X1 X2 Y0 Y1 Y2
      clear nA nB nC nX
      replace A := A.drew
      replace B := B.drew
      replace C := C.drew
      replace X := X.drew
      replace Y := Y.drew
      replace K := K.drew
      have sS := cells5 A B C X Y
      first
        | (go_region_held3 (fun wx => (wx.cell? ⟨w1.heap.size, 0, none⟩ = some (.int .i64 a) ∧ wx.cell? ⟨w1.heap.size, 1, none⟩ = some (.int .i64 b)) ∧ (wx.cell? ⟨(w1.heap.size + 1), 0, none⟩ = some (.int .i64 c) ∧ wx.cell? ⟨(w1.heap.size + 1), 1, none⟩ = some (.int .i64 d)) ∧ (wx.cell? ⟨w2.heap.size, 0, none⟩ = some (.int .i64 e) ∧ wx.cell? ⟨w2.heap.size, 1, none⟩ = some (.int .i64 f)) ∧ (wx.cell? ⟨w3.heap.size, 0, none⟩ = some (.int .i64 (a + c)) ∧ wx.cell? ⟨w3.heap.size, 1, none⟩ = some (.int .i64 xn)) ∧ (wx.cell? ⟨w4.heap.size, 0, none⟩ = some (.int .i64 (a + c)) ∧ wx.cell? ⟨w4.heap.size, 1, none⟩ = some (.int .i64 xn))) (first | (with_reducible assumption)) (first | (go_at_call 23; (with_reducible refine (vecOk_impl e f _).mono ?_); rintro e w5 ⟨rfl, hb⟩; replace A := A.keep hb; replace B := B.keep hb; replace C := C.keep hb; replace X := X.keep hb; replace Y := Y.keep hb; replace K := below_two K hb; clear hb; replace sS := cells5 A B C X Y) | (go_at_call 21; (with_reducible refine (vecOk_spec e f _).mono ?_); rintro e w5 ⟨rfl, hb⟩; replace A := A.keep hb; replace B := B.keep hb; replace C := C.keep hb; replace X := X.keep hb; replace Y := Y.keep hb; replace K := below_two K hb; clear hb; replace sS := cells5 A B C X Y)))
        | fail
      clear sS
      obtain ⟨A0, A1, A2⟩ := A.cells
      obtain ⟨B0, B1, B2⟩ := B.cells
      obtain ⟨C0, C1, C2⟩ := C.cells
      obtain ⟨X0, X1, X2⟩ := X.cells
      obtain ⟨Y0, Y1, Y2⟩ := Y.cells
      go_wp2_with fail
      refine (vecOk_impl a b _).mono ?_; rintro e w6 ⟨rfl, hb⟩
      rw [hv]
      clear A0 A1 A2 B0 B1 B2 C0 C1 C2 X0 X1 X2 Y0 Y1 Y2
      replace A := A.keep hb
      replace B := B.keep hb
      replace C := C.keep hb
      replace X := X.keep hb
      replace Y := Y.keep hb
      replace K := below_two K hb
      clear hb
      obtain ⟨A0, A1, A2⟩ := A.cells
      obtain ⟨B0, B1, B2⟩ := B.cells
      obtain ⟨C0, C1, C2⟩ := C.cells
      obtain ⟨X0, X1, X2⟩ := X.cells
      obtain ⟨Y0, Y1, Y2⟩ := Y.cells
      go_wp2_with fail
      refine (vecOk_impl c d _).mono ?_; rintro e w7 ⟨rfl, hb⟩
      rw [hv2]
      clear A0 A1 A2 B0 B1 B2 C0 C1 C2 X0 X1 X2 Y0 Y1 Y2
      replace A := A.keep hb
      replace B := B.keep hb
      replace C := C.keep hb
      replace X := X.keep hb
      replace Y := Y.keep hb
      replace K := below_two K hb
      clear hb
      obtain ⟨A0, A1, A2⟩ := A.cells
      obtain ⟨B0, B1, B2⟩ := B.cells
      obtain ⟨C0, C1, C2⟩ := C.cells
      obtain ⟨X0, X1, X2⟩ := X.cells
      obtain ⟨Y0, Y1, Y2⟩ := Y.cells
      go_wp2_with fail
      refine (vecOk_impl e f _).mono ?_; rintro e w8 ⟨rfl, hb⟩
      rw [hv3]
      clear A0 A1 A2 B0 B1 B2 C0 C1 C2 X0 X1 X2 Y0 Y1 Y2
      replace A := A.keep hb
      replace B := B.keep hb
      replace C := C.keep hb
      replace X := X.keep hb
      replace Y := Y.keep hb
      replace K := below_two K hb
      clear hb
      obtain ⟨A0, A1, A2⟩ := A.cells
      obtain ⟨B0, B1, B2⟩ := B.cells
      obtain ⟨C0, C1, C2⟩ := C.cells
      obtain ⟨X0, X1, X2⟩ := X.cells
      obtain ⟨Y0, Y1, Y2⟩ := Y.cells
      go_wp2_with fail
      refine (vecOk_impl a b _).mono ?_; rintro e w9 ⟨rfl, hb⟩
      rw [hv]
      clear A0 A1 A2 B0 B1 B2 C0 C1 C2 X0 X1 X2 Y0 Y1 Y2
      replace A := A.keep hb
      replace B := B.keep hb
      replace C := C.keep hb
      replace X := X.keep hb
      replace Y := Y.keep hb
      replace K := below_two K hb
      clear hb
      obtain ⟨A0, A1, A2⟩ := A.cells
      obtain ⟨B0, B1, B2⟩ := B.cells
      obtain ⟨C0, C1, C2⟩ := C.cells
      obtain ⟨X0, X1, X2⟩ := X.cells
      obtain ⟨Y0, Y1, Y2⟩ := Y.cells
      go_wp2_with fail
      refine (vecOk_impl c d _).mono ?_; rintro e w10 ⟨rfl, hb⟩
      rw [hv2]
      clear A0 A1 A2 B0 B1 B2 C0 C1 C2 X0 X1 X2 Y0 Y1 Y2
      replace A := A.keep hb
      replace B := B.keep hb
      replace C := C.keep hb
      replace X := X.keep hb
      replace Y := Y.keep hb
      replace K := below_two K hb
      clear hb
      obtain ⟨A0, A1, A2⟩ := A.cells
      obtain ⟨B0, B1, B2⟩ := B.cells
      obtain ⟨C0, C1, C2⟩ := C.cells
      obtain ⟨X0, X1, X2⟩ := X.cells
      obtain ⟨Y0, Y1, Y2⟩ := Y.cells
      go_wp2_with fail
      go_ret
      exact ⟨rfl, K⟩
    · obtain ⟨e1, e2, _, _⟩ := vokB_bd hv3
      have Vx := CC.2.2.2
      have CB := Lib.hid CC.1
      have CW := Lib.hid CC.2.1
      clear CC
      by_cases hf : a + c + e ≤ 4
      · have hcc := cat_cat hv hv2 hv3 hf
        have MM := cat_yes hv2 hv3 (by omega)
        have LL := cat_yes Vx hv3 (by omega)
        have RR := cat_yes hv MM.2.2.2 (by omega)
        have hsum : a + c + e = a + (c + e) := by omega
        have hsum' := Lib.hid hsum
        clear hsum
        generalize hx : binN 14 a b c d = xn at *
        generalize hq : binN 14 c d e f = qn at *
        generalize hp : binN 14 (a + c) xn e f = pn at *
        have CN := Lib.hid hx
        have MN := Lib.hid hq
        have LN := Lib.hid hp
        have RN : Hid (binN 14 a b (c + e) qn = pn) := Lib.hid hcc.symm
        have MB := Lib.hid MM.1
        have MW := Lib.hid MM.2.1
        have LB := Lib.hid LL.1
        have LW := Lib.hid LL.2.1
        have RB := Lib.hid RR.1
        have RW : Hid (binW 14 a b (c + e) qn = a + c + e) := Lib.hid (RR.2.1.trans hsum'.out.symm)
        clear hx hq hp hcc MM LL RR
        refine (vecBin_impl 14 a b c d _).mono ?_; rintro e w3 ⟨rfl, hb⟩
        rw [CW.out, CN.out, CB.out]
        clear A0 A1 A2 B0 B1 B2 C0 C1 C2
        clear nA nB
        replace A := A.keep hb
        replace B := B.keep hb
        replace C := C.keep hb
        replace K := below_two K hb
        clear hb
        have nA : ¬ w1.heap.size = w3.heap.size := Nat.ne_of_lt A.lt
        have nB : ¬ (w1.heap.size + 1) = w3.heap.size := Nat.ne_of_lt B.lt
        have nC : ¬ w2.heap.size = w3.heap.size := Nat.ne_of_lt C.lt
        replace A := A.alloc (.cells #[.int .i64 (a + c), .int .i64 xn] 26)
        replace B := B.alloc (.cells #[.int .i64 (a + c), .int .i64 xn] 26)
        replace C := C.alloc (.cells #[.int .i64 (a + c), .int .i64 xn] 26)
        replace K := below_step K (.cells #[.int .i64 (a + c), .int .i64 xn] 26)
        have X := blk_new w3 (.int .i64 (a + c)) (.int .i64 xn) 26
        obtain ⟨A0, A1, A2⟩ := A.cells
        obtain ⟨B0, B1, B2⟩ := B.cells
        obtain ⟨C0, C1, C2⟩ := C.cells
        obtain ⟨X0, X1, X2⟩ := X.cells
        go_wp2_with fail
        refine (vecBin_spec 14 a b c d _).mono ?_; rintro e w4 ⟨rfl, hb⟩
        rw [CW.out, CN.out, CB.out]
        clear A0 A1 A2 B0 B1 B2 C0 C1 C2 X0 X1 X2
        clear nA nB nC
        replace A := A.keep hb
        replace B := B.keep hb
        replace C := C.keep hb
        replace X := X.keep hb
        replace K := below_two K hb
        clear hb
        have nA : ¬ w1.heap.size = w4.heap.size := Nat.ne_of_lt A.lt
        have nB : ¬ (w1.heap.size + 1) = w4.heap.size := Nat.ne_of_lt B.lt
        have nC : ¬ w2.heap.size = w4.heap.size := Nat.ne_of_lt C.lt
        have nX : ¬ w3.heap.size = w4.heap.size := Nat.ne_of_lt X.lt
        replace A := A.alloc (.cells #[.int .i64 (a + c), .int .i64 xn] 26)
        replace B := B.alloc (.cells #[.int .i64 (a + c), .int .i64 xn] 26)
        replace C := C.alloc (.cells #[.int .i64 (a + c), .int .i64 xn] 26)
        replace X := X.alloc (.cells #[.int .i64 (a + c), .int .i64 xn] 26)
        replace K := below_step K (.cells #[.int .i64 (a + c), .int .i64 xn] 26)
        have Y := blk_new w4 (.int .i64 (a + c)) (.int .i64 xn) 26
        obtain ⟨A0, A1, A2⟩ := A.cells
        obtain ⟨B0, B1, B2⟩ := B.cells
        obtain ⟨C0, C1, C2⟩ := C.cells
        obtain ⟨X0, X1, X2⟩ := X.cells
        obtain ⟨Y0, Y1, Y2⟩ := Y.cells
        go_wp2_with fail
        clear A0 A1 A2 B0 B1 B2 C0 C1 C2 X0 X1 X2 Y0 Y1 Y2
        clear nA nB nC nX
        replace A := A.drew
        replace B := B.drew
        replace C := C.drew
        replace X := X.drew
        replace Y := Y.drew
        replace K := K.drew
        have sS := cells5 A B C X Y
        first
          | (go_region_held3 (fun wx => (wx.cell? ⟨w1.heap.size, 0, none⟩ = some (.int .i64 a) ∧ wx.cell? ⟨w1.heap.size, 1, none⟩ = some (.int .i64 b)) ∧ (wx.cell? ⟨(w1.heap.size + 1), 0, none⟩ = some (.int .i64 c) ∧ wx.cell? ⟨(w1.heap.size + 1), 1, none⟩ = some (.int .i64 d)) ∧ (wx.cell? ⟨w2.heap.size, 0, none⟩ = some (.int .i64 e) ∧ wx.cell? ⟨w2.heap.size, 1, none⟩ = some (.int .i64 f)) ∧ (wx.cell? ⟨w3.heap.size, 0, none⟩ = some (.int .i64 (a + c)) ∧ wx.cell? ⟨w3.heap.size, 1, none⟩ = some (.int .i64 xn)) ∧ (wx.cell? ⟨w4.heap.size, 0, none⟩ = some (.int .i64 (a + c)) ∧ wx.cell? ⟨w4.heap.size, 1, none⟩ = some (.int .i64 xn))) (first | (with_reducible assumption)) (first | (go_at_call 23; (with_reducible refine (vecOk_impl e f _).mono ?_); rintro e w5 ⟨rfl, hb⟩; replace A := A.keep hb; replace B := B.keep hb; replace C := C.keep hb; replace X := X.keep hb; replace Y := Y.keep hb; replace K := below_two K hb; clear hb; replace sS := cells5 A B C X Y) | (go_at_call 21; (with_reducible refine (vecOk_spec e f _).mono ?_); rintro e w5 ⟨rfl, hb⟩; replace A := A.keep hb; replace B := B.keep hb; replace C := C.keep hb; replace X := X.keep hb; replace Y := Y.keep hb; replace K := below_two K hb; clear hb; replace sS := cells5 A B C X Y)))
          | fail
        clear sS
        obtain ⟨A0, A1, A2⟩ := A.cells
        obtain ⟨B0, B1, B2⟩ := B.cells
        obtain ⟨C0, C1, C2⟩ := C.cells
        obtain ⟨X0, X1, X2⟩ := X.cells
        obtain ⟨Y0, Y1, Y2⟩ := Y.cells
        go_wp2_with fail
        refine (vecOk_impl a b _).mono ?_; rintro e w6 ⟨rfl, hb⟩
        rw [hv]
        clear A0 A1 A2 B0 B1 B2 C0 C1 C2 X0 X1 X2 Y0 Y1 Y2
        replace A := A.keep hb
        replace B := B.keep hb
        replace C := C.keep hb
        replace X := X.keep hb
        replace Y := Y.keep hb
        replace K := below_two K hb
        clear hb
        obtain ⟨A0, A1, A2⟩ := A.cells
        obtain ⟨B0, B1, B2⟩ := B.cells
        obtain ⟨C0, C1, C2⟩ := C.cells
        obtain ⟨X0, X1, X2⟩ := X.cells
        obtain ⟨Y0, Y1, Y2⟩ := Y.cells
        go_wp2_with fail
        refine (vecOk_impl c d _).mono ?_; rintro e w7 ⟨rfl, hb⟩
        rw [hv2]
        clear A0 A1 A2 B0 B1 B2 C0 C1 C2 X0 X1 X2 Y0 Y1 Y2
        replace A := A.keep hb
        replace B := B.keep hb
        replace C := C.keep hb
        replace X := X.keep hb
        replace Y := Y.keep hb
        replace K := below_two K hb
        clear hb
        obtain ⟨A0, A1, A2⟩ := A.cells
        obtain ⟨B0, B1, B2⟩ := B.cells
        obtain ⟨C0, C1, C2⟩ := C.cells
        obtain ⟨X0, X1, X2⟩ := X.cells
        obtain ⟨Y0, Y1, Y2⟩ := Y.cells
        go_wp2_with fail
        refine (vecOk_impl e f _).mono ?_; rintro e w8 ⟨rfl, hb⟩
        rw [hv3]
        clear A0 A1 A2 B0 B1 B2 C0 C1 C2 X0 X1 X2 Y0 Y1 Y2
        replace A := A.keep hb
        replace B := B.keep hb
        replace C := C.keep hb
        replace X := X.keep hb
        replace Y := Y.keep hb
        replace K := below_two K hb
        clear hb
        obtain ⟨A0, A1, A2⟩ := A.cells
        obtain ⟨B0, B1, B2⟩ := B.cells
        obtain ⟨C0, C1, C2⟩ := C.cells
        obtain ⟨X0, X1, X2⟩ := X.cells
        obtain ⟨Y0, Y1, Y2⟩ := Y.cells
        go_wp2_with fail
        refine (vecBin_impl 14 (a + c) xn e f _).mono ?_; rintro e w9 ⟨rfl, hb⟩
        rw [LW.out, LN.out, LB.out]
        clear A0 A1 A2 B0 B1 B2 C0 C1 C2 X0 X1 X2 Y0 Y1 Y2
        replace A := A.keep hb
        replace B := B.keep hb
        replace C := C.keep hb
        replace X := X.keep hb
        replace Y := Y.keep hb
        replace K := below_two K hb
        clear hb
        have nA : ¬ w1.heap.size = w9.heap.size := Nat.ne_of_lt A.lt
        have nB : ¬ (w1.heap.size + 1) = w9.heap.size := Nat.ne_of_lt B.lt
        have nC : ¬ w2.heap.size = w9.heap.size := Nat.ne_of_lt C.lt
        have nX : ¬ w3.heap.size = w9.heap.size := Nat.ne_of_lt X.lt
        have nY : ¬ w4.heap.size = w9.heap.size := Nat.ne_of_lt Y.lt
        replace A := A.alloc (.cells #[.int .i64 (a + c + e), .int .i64 pn] 26)
        replace B := B.alloc (.cells #[.int .i64 (a + c + e), .int .i64 pn] 26)
        replace C := C.alloc (.cells #[.int .i64 (a + c + e), .int .i64 pn] 26)
        replace X := X.alloc (.cells #[.int .i64 (a + c + e), .int .i64 pn] 26)
        replace Y := Y.alloc (.cells #[.int .i64 (a + c + e), .int .i64 pn] 26)
        replace K := below_step K (.cells #[.int .i64 (a + c + e), .int .i64 pn] 26)
        have P := blk_new w9 (.int .i64 (a + c + e)) (.int .i64 pn) 26
        obtain ⟨A0, A1, A2⟩ := A.cells
        obtain ⟨B0, B1, B2⟩ := B.cells
        obtain ⟨C0, C1, C2⟩ := C.cells
        obtain ⟨X0, X1, X2⟩ := X.cells
        obtain ⟨Y0, Y1, Y2⟩ := Y.cells
        obtain ⟨P0, P1, P2⟩ := P.cells
        go_wp2_with fail
        refine (vecBin_impl 14 c d e f _).mono ?_; rintro e w10 ⟨rfl, hb⟩
        rw [MW.out, MN.out, MB.out]
        clear A0 A1 A2 B0 B1 B2 C0 C1 C2 X0 X1 X2 Y0 Y1 Y2 P0 P1 P2
        clear nA nB nC nX nY
        replace A := A.keep hb
        replace B := B.keep hb
        replace C := C.keep hb
        replace X := X.keep hb
        replace Y := Y.keep hb
        replace P := P.keep hb
        replace K := below_two K hb
        clear hb
        have nA : ¬ w1.heap.size = w10.heap.size := Nat.ne_of_lt A.lt
        have nB : ¬ (w1.heap.size + 1) = w10.heap.size := Nat.ne_of_lt B.lt
        have nC : ¬ w2.heap.size = w10.heap.size := Nat.ne_of_lt C.lt
        have nX : ¬ w3.heap.size = w10.heap.size := Nat.ne_of_lt X.lt
        have nY : ¬ w4.heap.size = w10.heap.size := Nat.ne_of_lt Y.lt
        have nP : ¬ w9.heap.size = w10.heap.size := Nat.ne_of_lt P.lt
        replace A := A.alloc (.cells #[.int .i64 (c + e), .int .i64 qn] 26)
        replace B := B.alloc (.cells #[.int .i64 (c + e), .int .i64 qn] 26)
        replace C := C.alloc (.cells #[.int .i64 (c + e), .int .i64 qn] 26)
        replace X := X.alloc (.cells #[.int .i64 (c + e), .int .i64 qn] 26)
        replace Y := Y.alloc (.cells #[.int .i64 (c + e), .int .i64 qn] 26)
        replace P := P.alloc (.cells #[.int .i64 (c + e), .int .i64 qn] 26)
        replace K := below_step K (.cells #[.int .i64 (c + e), .int .i64 qn] 26)
        have Q := blk_new w10 (.int .i64 (c + e)) (.int .i64 qn) 26
        obtain ⟨A0, A1, A2⟩ := A.cells
        obtain ⟨B0, B1, B2⟩ := B.cells
        obtain ⟨C0, C1, C2⟩ := C.cells
        obtain ⟨X0, X1, X2⟩ := X.cells
        obtain ⟨Y0, Y1, Y2⟩ := Y.cells
        obtain ⟨P0, P1, P2⟩ := P.cells
        obtain ⟨Q0, Q1, Q2⟩ := Q.cells
        go_wp2_with fail
        refine (vecBin_impl 14 a b (c + e) qn _).mono ?_; rintro e w11 ⟨rfl, hb⟩
        rw [RW.out, RN.out, RB.out]
        clear A0 A1 A2 B0 B1 B2 C0 C1 C2 X0 X1 X2 Y0 Y1 Y2 P0 P1 P2 Q0 Q1 Q2
        clear nA nB nC nX nY nP
        replace A := A.keep hb
        replace B := B.keep hb
        replace C := C.keep hb
        replace X := X.keep hb
        replace Y := Y.keep hb
        replace P := P.keep hb
        replace Q := Q.keep hb
        replace K := below_two K hb
        clear hb
        have nA : ¬ w1.heap.size = w11.heap.size := Nat.ne_of_lt A.lt
        have nB : ¬ (w1.heap.size + 1) = w11.heap.size := Nat.ne_of_lt B.lt
        have nC : ¬ w2.heap.size = w11.heap.size := Nat.ne_of_lt C.lt
        have nX : ¬ w3.heap.size = w11.heap.size := Nat.ne_of_lt X.lt
        have nY : ¬ w4.heap.size = w11.heap.size := Nat.ne_of_lt Y.lt
        have nP : ¬ w9.heap.size = w11.heap.size := Nat.ne_of_lt P.lt
        have nQ : ¬ w10.heap.size = w11.heap.size := Nat.ne_of_lt Q.lt
        replace A := A.alloc (.cells #[.int .i64 (a + c + e), .int .i64 pn] 26)
        replace B := B.alloc (.cells #[.int .i64 (a + c + e), .int .i64 pn] 26)
        replace C := C.alloc (.cells #[.int .i64 (a + c + e), .int .i64 pn] 26)
        replace X := X.alloc (.cells #[.int .i64 (a + c + e), .int .i64 pn] 26)
        replace Y := Y.alloc (.cells #[.int .i64 (a + c + e), .int .i64 pn] 26)
        replace P := P.alloc (.cells #[.int .i64 (a + c + e), .int .i64 pn] 26)
        replace Q := Q.alloc (.cells #[.int .i64 (a + c + e), .int .i64 pn] 26)
        replace K := below_step K (.cells #[.int .i64 (a + c + e), .int .i64 pn] 26)
        have R := blk_new w11 (.int .i64 (a + c + e)) (.int .i64 pn) 26
        obtain ⟨A0, A1, A2⟩ := A.cells
        obtain ⟨B0, B1, B2⟩ := B.cells
        obtain ⟨C0, C1, C2⟩ := C.cells
        obtain ⟨X0, X1, X2⟩ := X.cells
        obtain ⟨Y0, Y1, Y2⟩ := Y.cells
        obtain ⟨P0, P1, P2⟩ := P.cells
        obtain ⟨Q0, Q1, Q2⟩ := Q.cells
        obtain ⟨R0, R1, R2⟩ := R.cells
        go_wp2_with fail
        go_ret
        exact ⟨rfl, K⟩
      · by_cases hm : c + e ≤ 4
        · generalize hx : binN 14 a b c d = xn at *
          have CN := Lib.hid hx
          clear hx
          have LL := cat_no (a := a + c) (b := xn) (c := e) (d := f) (fun h => hf h.2.2)
          have MM := cat_yes hv2 hv3 hm
          generalize hq : binN 14 c d e f = qn at *
          have MN := Lib.hid hq
          clear hq
          have RR := cat_no (a := a) (b := b) (c := c + e) (d := qn) (fun h => hf (by omega))
          have MB := Lib.hid MM.1
          have MW := Lib.hid MM.2.1
          have LB := Lib.hid LL.1
          have LW := Lib.hid LL.2.1
          have LN := Lib.hid LL.2.2
          have RB := Lib.hid RR.1
          have RW := Lib.hid RR.2.1
          have RN := Lib.hid RR.2.2
          clear MM LL RR
          refine (vecBin_impl 14 a b c d _).mono ?_; rintro e w3 ⟨rfl, hb⟩
          rw [CW.out, CN.out, CB.out]
          clear A0 A1 A2 B0 B1 B2 C0 C1 C2
          clear nA nB
          replace A := A.keep hb
          replace B := B.keep hb
          replace C := C.keep hb
          replace K := below_two K hb
          clear hb
          have nA : ¬ w1.heap.size = w3.heap.size := Nat.ne_of_lt A.lt
          have nB : ¬ (w1.heap.size + 1) = w3.heap.size := Nat.ne_of_lt B.lt
          have nC : ¬ w2.heap.size = w3.heap.size := Nat.ne_of_lt C.lt
          replace A := A.alloc (.cells #[.int .i64 (a + c), .int .i64 xn] 26)
          replace B := B.alloc (.cells #[.int .i64 (a + c), .int .i64 xn] 26)
          replace C := C.alloc (.cells #[.int .i64 (a + c), .int .i64 xn] 26)
          replace K := below_step K (.cells #[.int .i64 (a + c), .int .i64 xn] 26)
          have X := blk_new w3 (.int .i64 (a + c)) (.int .i64 xn) 26
          obtain ⟨A0, A1, A2⟩ := A.cells
          obtain ⟨B0, B1, B2⟩ := B.cells
          obtain ⟨C0, C1, C2⟩ := C.cells
          obtain ⟨X0, X1, X2⟩ := X.cells
          go_wp2_with fail
          refine (vecBin_spec 14 a b c d _).mono ?_; rintro e w4 ⟨rfl, hb⟩
          rw [CW.out, CN.out, CB.out]
          clear A0 A1 A2 B0 B1 B2 C0 C1 C2 X0 X1 X2
          clear nA nB nC
          replace A := A.keep hb
          replace B := B.keep hb
          replace C := C.keep hb
          replace X := X.keep hb
          replace K := below_two K hb
          clear hb
          have nA : ¬ w1.heap.size = w4.heap.size := Nat.ne_of_lt A.lt
          have nB : ¬ (w1.heap.size + 1) = w4.heap.size := Nat.ne_of_lt B.lt
          have nC : ¬ w2.heap.size = w4.heap.size := Nat.ne_of_lt C.lt
          have nX : ¬ w3.heap.size = w4.heap.size := Nat.ne_of_lt X.lt
          replace A := A.alloc (.cells #[.int .i64 (a + c), .int .i64 xn] 26)
          replace B := B.alloc (.cells #[.int .i64 (a + c), .int .i64 xn] 26)
          replace C := C.alloc (.cells #[.int .i64 (a + c), .int .i64 xn] 26)
          replace X := X.alloc (.cells #[.int .i64 (a + c), .int .i64 xn] 26)
          replace K := below_step K (.cells #[.int .i64 (a + c), .int .i64 xn] 26)
          have Y := blk_new w4 (.int .i64 (a + c)) (.int .i64 xn) 26
          obtain ⟨A0, A1, A2⟩ := A.cells
          obtain ⟨B0, B1, B2⟩ := B.cells
          obtain ⟨C0, C1, C2⟩ := C.cells
          obtain ⟨X0, X1, X2⟩ := X.cells
          obtain ⟨Y0, Y1, Y2⟩ := Y.cells
          go_wp2_with fail
          clear A0 A1 A2 B0 B1 B2 C0 C1 C2 X0 X1 X2 Y0 Y1 Y2
          clear nA nB nC nX
          replace A := A.drew
          replace B := B.drew
          replace C := C.drew
          replace X := X.drew
          replace Y := Y.drew
          replace K := K.drew
          have sS := cells5 A B C X Y
          first
            | (go_region_held3 (fun wx => (wx.cell? ⟨w1.heap.size, 0, none⟩ = some (.int .i64 a) ∧ wx.cell? ⟨w1.heap.size, 1, none⟩ = some (.int .i64 b)) ∧ (wx.cell? ⟨(w1.heap.size + 1), 0, none⟩ = some (.int .i64 c) ∧ wx.cell? ⟨(w1.heap.size + 1), 1, none⟩ = some (.int .i64 d)) ∧ (wx.cell? ⟨w2.heap.size, 0, none⟩ = some (.int .i64 e) ∧ wx.cell? ⟨w2.heap.size, 1, none⟩ = some (.int .i64 f)) ∧ (wx.cell? ⟨w3.heap.size, 0, none⟩ = some (.int .i64 (a + c)) ∧ wx.cell? ⟨w3.heap.size, 1, none⟩ = some (.int .i64 xn)) ∧ (wx.cell? ⟨w4.heap.size, 0, none⟩ = some (.int .i64 (a + c)) ∧ wx.cell? ⟨w4.heap.size, 1, none⟩ = some (.int .i64 xn))) (first | (with_reducible assumption)) (first | (go_at_call 23; (with_reducible refine (vecOk_impl e f _).mono ?_); rintro e w5 ⟨rfl, hb⟩; replace A := A.keep hb; replace B := B.keep hb; replace C := C.keep hb; replace X := X.keep hb; replace Y := Y.keep hb; replace K := below_two K hb; clear hb; replace sS := cells5 A B C X Y) | (go_at_call 21; (with_reducible refine (vecOk_spec e f _).mono ?_); rintro e w5 ⟨rfl, hb⟩; replace A := A.keep hb; replace B := B.keep hb; replace C := C.keep hb; replace X := X.keep hb; replace Y := Y.keep hb; replace K := below_two K hb; clear hb; replace sS := cells5 A B C X Y)))
            | fail
          clear sS
          obtain ⟨A0, A1, A2⟩ := A.cells
          obtain ⟨B0, B1, B2⟩ := B.cells
          obtain ⟨C0, C1, C2⟩ := C.cells
          obtain ⟨X0, X1, X2⟩ := X.cells
          obtain ⟨Y0, Y1, Y2⟩ := Y.cells
          go_wp2_with fail
          refine (vecOk_impl a b _).mono ?_; rintro e w6 ⟨rfl, hb⟩
          rw [hv]
          clear A0 A1 A2 B0 B1 B2 C0 C1 C2 X0 X1 X2 Y0 Y1 Y2
          replace A := A.keep hb
          replace B := B.keep hb
          replace C := C.keep hb
          replace X := X.keep hb
          replace Y := Y.keep hb
          replace K := below_two K hb
          clear hb
          obtain ⟨A0, A1, A2⟩ := A.cells
          obtain ⟨B0, B1, B2⟩ := B.cells
          obtain ⟨C0, C1, C2⟩ := C.cells
          obtain ⟨X0, X1, X2⟩ := X.cells
          obtain ⟨Y0, Y1, Y2⟩ := Y.cells
          go_wp2_with fail
          refine (vecOk_impl c d _).mono ?_; rintro e w7 ⟨rfl, hb⟩
          rw [hv2]
          clear A0 A1 A2 B0 B1 B2 C0 C1 C2 X0 X1 X2 Y0 Y1 Y2
          replace A := A.keep hb
          replace B := B.keep hb
          replace C := C.keep hb
          replace X := X.keep hb
          replace Y := Y.keep hb
          replace K := below_two K hb
          clear hb
          obtain ⟨A0, A1, A2⟩ := A.cells
          obtain ⟨B0, B1, B2⟩ := B.cells
          obtain ⟨C0, C1, C2⟩ := C.cells
          obtain ⟨X0, X1, X2⟩ := X.cells
          obtain ⟨Y0, Y1, Y2⟩ := Y.cells
          go_wp2_with fail
          refine (vecOk_impl e f _).mono ?_; rintro e w8 ⟨rfl, hb⟩
          rw [hv3]
          clear A0 A1 A2 B0 B1 B2 C0 C1 C2 X0 X1 X2 Y0 Y1 Y2
          replace A := A.keep hb
          replace B := B.keep hb
          replace C := C.keep hb
          replace X := X.keep hb
          replace Y := Y.keep hb
          replace K := below_two K hb
          clear hb
          obtain ⟨A0, A1, A2⟩ := A.cells
          obtain ⟨B0, B1, B2⟩ := B.cells
          obtain ⟨C0, C1, C2⟩ := C.cells
          obtain ⟨X0, X1, X2⟩ := X.cells
          obtain ⟨Y0, Y1, Y2⟩ := Y.cells
          go_wp2_with fail
          refine (vecBin_impl 14 (a + c) xn e f _).mono ?_; rintro e w9 ⟨rfl, hb⟩
          rw [LW.out, LN.out, LB.out]
          clear A0 A1 A2 B0 B1 B2 C0 C1 C2 X0 X1 X2 Y0 Y1 Y2
          replace A := A.keep hb
          replace B := B.keep hb
          replace C := C.keep hb
          replace X := X.keep hb
          replace Y := Y.keep hb
          replace K := below_two K hb
          clear hb
          have nA : ¬ w1.heap.size = w9.heap.size := Nat.ne_of_lt A.lt
          have nB : ¬ (w1.heap.size + 1) = w9.heap.size := Nat.ne_of_lt B.lt
          have nC : ¬ w2.heap.size = w9.heap.size := Nat.ne_of_lt C.lt
          have nX : ¬ w3.heap.size = w9.heap.size := Nat.ne_of_lt X.lt
          have nY : ¬ w4.heap.size = w9.heap.size := Nat.ne_of_lt Y.lt
          replace A := A.alloc (.cells #[.int .i64 0, .int .i64 0] 26)
          replace B := B.alloc (.cells #[.int .i64 0, .int .i64 0] 26)
          replace C := C.alloc (.cells #[.int .i64 0, .int .i64 0] 26)
          replace X := X.alloc (.cells #[.int .i64 0, .int .i64 0] 26)
          replace Y := Y.alloc (.cells #[.int .i64 0, .int .i64 0] 26)
          replace K := below_step K (.cells #[.int .i64 0, .int .i64 0] 26)
          have P := blk_new w9 (.int .i64 0) (.int .i64 0) 26
          obtain ⟨A0, A1, A2⟩ := A.cells
          obtain ⟨B0, B1, B2⟩ := B.cells
          obtain ⟨C0, C1, C2⟩ := C.cells
          obtain ⟨X0, X1, X2⟩ := X.cells
          obtain ⟨Y0, Y1, Y2⟩ := Y.cells
          obtain ⟨P0, P1, P2⟩ := P.cells
          go_wp2_with fail
          refine (vecBin_impl 14 c d e f _).mono ?_; rintro e w10 ⟨rfl, hb⟩
          rw [MW.out, MN.out, MB.out]
          clear A0 A1 A2 B0 B1 B2 C0 C1 C2 X0 X1 X2 Y0 Y1 Y2 P0 P1 P2
          clear nA nB nC nX nY
          replace A := A.keep hb
          replace B := B.keep hb
          replace C := C.keep hb
          replace X := X.keep hb
          replace Y := Y.keep hb
          replace P := P.keep hb
          replace K := below_two K hb
          clear hb
          have nA : ¬ w1.heap.size = w10.heap.size := Nat.ne_of_lt A.lt
          have nB : ¬ (w1.heap.size + 1) = w10.heap.size := Nat.ne_of_lt B.lt
          have nC : ¬ w2.heap.size = w10.heap.size := Nat.ne_of_lt C.lt
          have nX : ¬ w3.heap.size = w10.heap.size := Nat.ne_of_lt X.lt
          have nY : ¬ w4.heap.size = w10.heap.size := Nat.ne_of_lt Y.lt
          have nP : ¬ w9.heap.size = w10.heap.size := Nat.ne_of_lt P.lt
          replace A := A.alloc (.cells #[.int .i64 (c + e), .int .i64 qn] 26)
          replace B := B.alloc (.cells #[.int .i64 (c + e), .int .i64 qn] 26)
          replace C := C.alloc (.cells #[.int .i64 (c + e), .int .i64 qn] 26)
          replace X := X.alloc (.cells #[.int .i64 (c + e), .int .i64 qn] 26)
          replace Y := Y.alloc (.cells #[.int .i64 (c + e), .int .i64 qn] 26)
          replace P := P.alloc (.cells #[.int .i64 (c + e), .int .i64 qn] 26)
          replace K := below_step K (.cells #[.int .i64 (c + e), .int .i64 qn] 26)
          have Q := blk_new w10 (.int .i64 (c + e)) (.int .i64 qn) 26
          obtain ⟨A0, A1, A2⟩ := A.cells
          obtain ⟨B0, B1, B2⟩ := B.cells
          obtain ⟨C0, C1, C2⟩ := C.cells
          obtain ⟨X0, X1, X2⟩ := X.cells
          obtain ⟨Y0, Y1, Y2⟩ := Y.cells
          obtain ⟨P0, P1, P2⟩ := P.cells
          obtain ⟨Q0, Q1, Q2⟩ := Q.cells
          go_wp2_with fail
          refine (vecBin_impl 14 a b (c + e) qn _).mono ?_; rintro e w11 ⟨rfl, hb⟩
          rw [RW.out, RN.out, RB.out]
          clear A0 A1 A2 B0 B1 B2 C0 C1 C2 X0 X1 X2 Y0 Y1 Y2 P0 P1 P2 Q0 Q1 Q2
          clear nA nB nC nX nY nP
          replace A := A.keep hb
          replace B := B.keep hb
          replace C := C.keep hb
          replace X := X.keep hb
          replace Y := Y.keep hb
          replace P := P.keep hb
          replace Q := Q.keep hb
          replace K := below_two K hb
          clear hb
          have nA : ¬ w1.heap.size = w11.heap.size := Nat.ne_of_lt A.lt
          have nB : ¬ (w1.heap.size + 1) = w11.heap.size := Nat.ne_of_lt B.lt
          have nC : ¬ w2.heap.size = w11.heap.size := Nat.ne_of_lt C.lt
          have nX : ¬ w3.heap.size = w11.heap.size := Nat.ne_of_lt X.lt
          have nY : ¬ w4.heap.size = w11.heap.size := Nat.ne_of_lt Y.lt
          have nP : ¬ w9.heap.size = w11.heap.size := Nat.ne_of_lt P.lt
          have nQ : ¬ w10.heap.size = w11.heap.size := Nat.ne_of_lt Q.lt
          replace A := A.alloc (.cells #[.int .i64 0, .int .i64 0] 26)
          replace B := B.alloc (.cells #[.int .i64 0, .int .i64 0] 26)
          replace C := C.alloc (.cells #[.int .i64 0, .int .i64 0] 26)
          replace X := X.alloc (.cells #[.int .i64 0, .int .i64 0] 26)
          replace Y := Y.alloc (.cells #[.int .i64 0, .int .i64 0] 26)
          replace P := P.alloc (.cells #[.int .i64 0, .int .i64 0] 26)
          replace Q := Q.alloc (.cells #[.int .i64 0, .int .i64 0] 26)
          replace K := below_step K (.cells #[.int .i64 0, .int .i64 0] 26)
          have R := blk_new w11 (.int .i64 0) (.int .i64 0) 26
          obtain ⟨A0, A1, A2⟩ := A.cells
          obtain ⟨B0, B1, B2⟩ := B.cells
          obtain ⟨C0, C1, C2⟩ := C.cells
          obtain ⟨X0, X1, X2⟩ := X.cells
          obtain ⟨Y0, Y1, Y2⟩ := Y.cells
          obtain ⟨P0, P1, P2⟩ := P.cells
          obtain ⟨Q0, Q1, Q2⟩ := Q.cells
          obtain ⟨R0, R1, R2⟩ := R.cells
          go_wp2_with fail
          go_ret
          exact ⟨rfl, K⟩
        · generalize hx : binN 14 a b c d = xn at *
          have CN := Lib.hid hx
          clear hx
          have LL := cat_no (a := a + c) (b := xn) (c := e) (d := f) (fun h => hf h.2.2)
          have MM := cat_no (a := c) (b := d) (c := e) (d := f) (fun h => hm h.2.2)
          have MN := Lib.hid MM.2.2
          have RR := cat_no (a := a) (b := b) (c := 0) (d := 0) (fun h => by simp [vok_zero] at h)
          have MB := Lib.hid MM.1
          have MW := Lib.hid MM.2.1
          have LB := Lib.hid LL.1
          have LW := Lib.hid LL.2.1
          have LN := Lib.hid LL.2.2
          have RB := Lib.hid RR.1
          have RW := Lib.hid RR.2.1
          have RN := Lib.hid RR.2.2
          clear MM LL RR
          refine (vecBin_impl 14 a b c d _).mono ?_; rintro e w3 ⟨rfl, hb⟩
          rw [CW.out, CN.out, CB.out]
          clear A0 A1 A2 B0 B1 B2 C0 C1 C2
          clear nA nB
          replace A := A.keep hb
          replace B := B.keep hb
          replace C := C.keep hb
          replace K := below_two K hb
          clear hb
          have nA : ¬ w1.heap.size = w3.heap.size := Nat.ne_of_lt A.lt
          have nB : ¬ (w1.heap.size + 1) = w3.heap.size := Nat.ne_of_lt B.lt
          have nC : ¬ w2.heap.size = w3.heap.size := Nat.ne_of_lt C.lt
          replace A := A.alloc (.cells #[.int .i64 (a + c), .int .i64 xn] 26)
          replace B := B.alloc (.cells #[.int .i64 (a + c), .int .i64 xn] 26)
          replace C := C.alloc (.cells #[.int .i64 (a + c), .int .i64 xn] 26)
          replace K := below_step K (.cells #[.int .i64 (a + c), .int .i64 xn] 26)
          have X := blk_new w3 (.int .i64 (a + c)) (.int .i64 xn) 26
          obtain ⟨A0, A1, A2⟩ := A.cells
          obtain ⟨B0, B1, B2⟩ := B.cells
          obtain ⟨C0, C1, C2⟩ := C.cells
          obtain ⟨X0, X1, X2⟩ := X.cells
          go_wp2_with fail
          refine (vecBin_spec 14 a b c d _).mono ?_; rintro e w4 ⟨rfl, hb⟩
          rw [CW.out, CN.out, CB.out]
          clear A0 A1 A2 B0 B1 B2 C0 C1 C2 X0 X1 X2
          clear nA nB nC
          replace A := A.keep hb
          replace B := B.keep hb
          replace C := C.keep hb
          replace X := X.keep hb
          replace K := below_two K hb
          clear hb
          have nA : ¬ w1.heap.size = w4.heap.size := Nat.ne_of_lt A.lt
          have nB : ¬ (w1.heap.size + 1) = w4.heap.size := Nat.ne_of_lt B.lt
          have nC : ¬ w2.heap.size = w4.heap.size := Nat.ne_of_lt C.lt
          have nX : ¬ w3.heap.size = w4.heap.size := Nat.ne_of_lt X.lt
          replace A := A.alloc (.cells #[.int .i64 (a + c), .int .i64 xn] 26)
          replace B := B.alloc (.cells #[.int .i64 (a + c), .int .i64 xn] 26)
          replace C := C.alloc (.cells #[.int .i64 (a + c), .int .i64 xn] 26)
          replace X := X.alloc (.cells #[.int .i64 (a + c), .int .i64 xn] 26)
          replace K := below_step K (.cells #[.int .i64 (a + c), .int .i64 xn] 26)
          have Y := blk_new w4 (.int .i64 (a + c)) (.int .i64 xn) 26
          obtain ⟨A0, A1, A2⟩ := A.cells
          obtain ⟨B0, B1, B2⟩ := B.cells
          obtain ⟨C0, C1, C2⟩ := C.cells
          obtain ⟨X0, X1, X2⟩ := X.cells
          obtain ⟨Y0, Y1, Y2⟩ := Y.cells
          go_wp2_with fail
          clear A0 A1 A2 B0 B1 B2 C0 C1 C2 X0 X1 X2 Y0 Y1 Y2
          clear nA nB nC nX
          replace A := A.drew
          replace B := B.drew
          replace C := C.drew
          replace X := X.drew
          replace Y := Y.drew
          replace K := K.drew
          have sS := cells5 A B C X Y
          first
            | (go_region_held3 (fun wx => (wx.cell? ⟨w1.heap.size, 0, none⟩ = some (.int .i64 a) ∧ wx.cell? ⟨w1.heap.size, 1, none⟩ = some (.int .i64 b)) ∧ (wx.cell? ⟨(w1.heap.size + 1), 0, none⟩ = some (.int .i64 c) ∧ wx.cell? ⟨(w1.heap.size + 1), 1, none⟩ = some (.int .i64 d)) ∧ (wx.cell? ⟨w2.heap.size, 0, none⟩ = some (.int .i64 e) ∧ wx.cell? ⟨w2.heap.size, 1, none⟩ = some (.int .i64 f)) ∧ (wx.cell? ⟨w3.heap.size, 0, none⟩ = some (.int .i64 (a + c)) ∧ wx.cell? ⟨w3.heap.size, 1, none⟩ = some (.int .i64 xn)) ∧ (wx.cell? ⟨w4.heap.size, 0, none⟩ = some (.int .i64 (a + c)) ∧ wx.cell? ⟨w4.heap.size, 1, none⟩ = some (.int .i64 xn))) (first | (with_reducible assumption)) (first | (go_at_call 23; (with_reducible refine (vecOk_impl e f _).mono ?_); rintro e w5 ⟨rfl, hb⟩; replace A := A.keep hb; replace B := B.keep hb; replace C := C.keep hb; replace X := X.keep hb; replace Y := Y.keep hb; replace K := below_two K hb; clear hb; replace sS := cells5 A B C X Y) | (go_at_call 21; (with_reducible refine (vecOk_spec e f _).mono ?_); rintro e w5 ⟨rfl, hb⟩; replace A := A.keep hb; replace B := B.keep hb; replace C := C.keep hb; replace X := X.keep hb; replace Y := Y.keep hb; replace K := below_two K hb; clear hb; replace sS := cells5 A B C X Y)))
            | fail
          clear sS
          obtain ⟨A0, A1, A2⟩ := A.cells
          obtain ⟨B0, B1, B2⟩ := B.cells
          obtain ⟨C0, C1, C2⟩ := C.cells
          obtain ⟨X0, X1, X2⟩ := X.cells
          obtain ⟨Y0, Y1, Y2⟩ := Y.cells
          go_wp2_with fail
          refine (vecOk_impl a b _).mono ?_; rintro e w6 ⟨rfl, hb⟩
          rw [hv]
          clear A0 A1 A2 B0 B1 B2 C0 C1 C2 X0 X1 X2 Y0 Y1 Y2
          replace A := A.keep hb
          replace B := B.keep hb
          replace C := C.keep hb
          replace X := X.keep hb
          replace Y := Y.keep hb
          replace K := below_two K hb
          clear hb
          obtain ⟨A0, A1, A2⟩ := A.cells
          obtain ⟨B0, B1, B2⟩ := B.cells
          obtain ⟨C0, C1, C2⟩ := C.cells
          obtain ⟨X0, X1, X2⟩ := X.cells
          obtain ⟨Y0, Y1, Y2⟩ := Y.cells
          go_wp2_with fail
          refine (vecOk_impl c d _).mono ?_; rintro e w7 ⟨rfl, hb⟩
          rw [hv2]
          clear A0 A1 A2 B0 B1 B2 C0 C1 C2 X0 X1 X2 Y0 Y1 Y2
          replace A := A.keep hb
          replace B := B.keep hb
          replace C := C.keep hb
          replace X := X.keep hb
          replace Y := Y.keep hb
          replace K := below_two K hb
          clear hb
          obtain ⟨A0, A1, A2⟩ := A.cells
          obtain ⟨B0, B1, B2⟩ := B.cells
          obtain ⟨C0, C1, C2⟩ := C.cells
          obtain ⟨X0, X1, X2⟩ := X.cells
          obtain ⟨Y0, Y1, Y2⟩ := Y.cells
          go_wp2_with fail
          refine (vecOk_impl e f _).mono ?_; rintro e w8 ⟨rfl, hb⟩
          rw [hv3]
          clear A0 A1 A2 B0 B1 B2 C0 C1 C2 X0 X1 X2 Y0 Y1 Y2
          replace A := A.keep hb
          replace B := B.keep hb
          replace C := C.keep hb
          replace X := X.keep hb
          replace Y := Y.keep hb
          replace K := below_two K hb
          clear hb
          obtain ⟨A0, A1, A2⟩ := A.cells
          obtain ⟨B0, B1, B2⟩ := B.cells
          obtain ⟨C0, C1, C2⟩ := C.cells
          obtain ⟨X0, X1, X2⟩ := X.cells
          obtain ⟨Y0, Y1, Y2⟩ := Y.cells
          go_wp2_with fail
          refine (vecBin_impl 14 (a + c) xn e f _).mono ?_; rintro e w9 ⟨rfl, hb⟩
          rw [LW.out, LN.out, LB.out]
          clear A0 A1 A2 B0 B1 B2 C0 C1 C2 X0 X1 X2 Y0 Y1 Y2
          replace A := A.keep hb
          replace B := B.keep hb
          replace C := C.keep hb
          replace X := X.keep hb
          replace Y := Y.keep hb
          replace K := below_two K hb
          clear hb
          have nA : ¬ w1.heap.size = w9.heap.size := Nat.ne_of_lt A.lt
          have nB : ¬ (w1.heap.size + 1) = w9.heap.size := Nat.ne_of_lt B.lt
          have nC : ¬ w2.heap.size = w9.heap.size := Nat.ne_of_lt C.lt
          have nX : ¬ w3.heap.size = w9.heap.size := Nat.ne_of_lt X.lt
          have nY : ¬ w4.heap.size = w9.heap.size := Nat.ne_of_lt Y.lt
          replace A := A.alloc (.cells #[.int .i64 0, .int .i64 0] 26)
          replace B := B.alloc (.cells #[.int .i64 0, .int .i64 0] 26)
          replace C := C.alloc (.cells #[.int .i64 0, .int .i64 0] 26)
          replace X := X.alloc (.cells #[.int .i64 0, .int .i64 0] 26)
          replace Y := Y.alloc (.cells #[.int .i64 0, .int .i64 0] 26)
          replace K := below_step K (.cells #[.int .i64 0, .int .i64 0] 26)
          have P := blk_new w9 (.int .i64 0) (.int .i64 0) 26
          obtain ⟨A0, A1, A2⟩ := A.cells
          obtain ⟨B0, B1, B2⟩ := B.cells
          obtain ⟨C0, C1, C2⟩ := C.cells
          obtain ⟨X0, X1, X2⟩ := X.cells
          obtain ⟨Y0, Y1, Y2⟩ := Y.cells
          obtain ⟨P0, P1, P2⟩ := P.cells
          go_wp2_with fail
          refine (vecBin_impl 14 c d e f _).mono ?_; rintro e w10 ⟨rfl, hb⟩
          rw [MW.out, MN.out, MB.out]
          clear A0 A1 A2 B0 B1 B2 C0 C1 C2 X0 X1 X2 Y0 Y1 Y2 P0 P1 P2
          clear nA nB nC nX nY
          replace A := A.keep hb
          replace B := B.keep hb
          replace C := C.keep hb
          replace X := X.keep hb
          replace Y := Y.keep hb
          replace P := P.keep hb
          replace K := below_two K hb
          clear hb
          have nA : ¬ w1.heap.size = w10.heap.size := Nat.ne_of_lt A.lt
          have nB : ¬ (w1.heap.size + 1) = w10.heap.size := Nat.ne_of_lt B.lt
          have nC : ¬ w2.heap.size = w10.heap.size := Nat.ne_of_lt C.lt
          have nX : ¬ w3.heap.size = w10.heap.size := Nat.ne_of_lt X.lt
          have nY : ¬ w4.heap.size = w10.heap.size := Nat.ne_of_lt Y.lt
          have nP : ¬ w9.heap.size = w10.heap.size := Nat.ne_of_lt P.lt
          replace A := A.alloc (.cells #[.int .i64 0, .int .i64 0] 26)
          replace B := B.alloc (.cells #[.int .i64 0, .int .i64 0] 26)
          replace C := C.alloc (.cells #[.int .i64 0, .int .i64 0] 26)
          replace X := X.alloc (.cells #[.int .i64 0, .int .i64 0] 26)
          replace Y := Y.alloc (.cells #[.int .i64 0, .int .i64 0] 26)
          replace P := P.alloc (.cells #[.int .i64 0, .int .i64 0] 26)
          replace K := below_step K (.cells #[.int .i64 0, .int .i64 0] 26)
          have Q := blk_new w10 (.int .i64 0) (.int .i64 0) 26
          obtain ⟨A0, A1, A2⟩ := A.cells
          obtain ⟨B0, B1, B2⟩ := B.cells
          obtain ⟨C0, C1, C2⟩ := C.cells
          obtain ⟨X0, X1, X2⟩ := X.cells
          obtain ⟨Y0, Y1, Y2⟩ := Y.cells
          obtain ⟨P0, P1, P2⟩ := P.cells
          obtain ⟨Q0, Q1, Q2⟩ := Q.cells
          go_wp2_with fail
          refine (vecBin_impl 14 a b 0 0 _).mono ?_; rintro e w11 ⟨rfl, hb⟩
          rw [RW.out, RN.out, RB.out]
          clear A0 A1 A2 B0 B1 B2 C0 C1 C2 X0 X1 X2 Y0 Y1 Y2 P0 P1 P2 Q0 Q1 Q2
          clear nA nB nC nX nY nP
          replace A := A.keep hb
          replace B := B.keep hb
          replace C := C.keep hb
          replace X := X.keep hb
          replace Y := Y.keep hb
          replace P := P.keep hb
          replace Q := Q.keep hb
          replace K := below_two K hb
          clear hb
          have nA : ¬ w1.heap.size = w11.heap.size := Nat.ne_of_lt A.lt
          have nB : ¬ (w1.heap.size + 1) = w11.heap.size := Nat.ne_of_lt B.lt
          have nC : ¬ w2.heap.size = w11.heap.size := Nat.ne_of_lt C.lt
          have nX : ¬ w3.heap.size = w11.heap.size := Nat.ne_of_lt X.lt
          have nY : ¬ w4.heap.size = w11.heap.size := Nat.ne_of_lt Y.lt
          have nP : ¬ w9.heap.size = w11.heap.size := Nat.ne_of_lt P.lt
          have nQ : ¬ w10.heap.size = w11.heap.size := Nat.ne_of_lt Q.lt
          replace A := A.alloc (.cells #[.int .i64 0, .int .i64 0] 26)
          replace B := B.alloc (.cells #[.int .i64 0, .int .i64 0] 26)
          replace C := C.alloc (.cells #[.int .i64 0, .int .i64 0] 26)
          replace X := X.alloc (.cells #[.int .i64 0, .int .i64 0] 26)
          replace Y := Y.alloc (.cells #[.int .i64 0, .int .i64 0] 26)
          replace P := P.alloc (.cells #[.int .i64 0, .int .i64 0] 26)
          replace Q := Q.alloc (.cells #[.int .i64 0, .int .i64 0] 26)
          replace K := below_step K (.cells #[.int .i64 0, .int .i64 0] 26)
          have R := blk_new w11 (.int .i64 0) (.int .i64 0) 26
          obtain ⟨A0, A1, A2⟩ := A.cells
          obtain ⟨B0, B1, B2⟩ := B.cells
          obtain ⟨C0, C1, C2⟩ := C.cells
          obtain ⟨X0, X1, X2⟩ := X.cells
          obtain ⟨Y0, Y1, Y2⟩ := Y.cells
          obtain ⟨P0, P1, P2⟩ := P.cells
          obtain ⟨Q0, Q1, Q2⟩ := Q.cells
          obtain ⟨R0, R1, R2⟩ := R.cells
          go_wp2_with fail
          go_ret
          exact ⟨rfl, K⟩
  · have CC := cat_no hs
    have CB := Lib.hid CC.1
    have CW := Lib.hid CC.2.1
    have CN := Lib.hid CC.2.2
    clear CC
    refine (vecBin_impl 14 a b c d _).mono ?_; rintro e w3 ⟨rfl, hb⟩
    rw [CW.out, CN.out, CB.out]
    clear A0 A1 A2 B0 B1 B2 C0 C1 C2
    clear nA nB
    replace A := A.keep hb
    replace B := B.keep hb
    replace C := C.keep hb
    replace K := below_two K hb
    clear hb
    have nA : ¬ w1.heap.size = w3.heap.size := Nat.ne_of_lt A.lt
    have nB : ¬ (w1.heap.size + 1) = w3.heap.size := Nat.ne_of_lt B.lt
    have nC : ¬ w2.heap.size = w3.heap.size := Nat.ne_of_lt C.lt
    replace A := A.alloc (.cells #[.int .i64 0, .int .i64 0] 26)
    replace B := B.alloc (.cells #[.int .i64 0, .int .i64 0] 26)
    replace C := C.alloc (.cells #[.int .i64 0, .int .i64 0] 26)
    replace K := below_step K (.cells #[.int .i64 0, .int .i64 0] 26)
    have X := blk_new w3 (.int .i64 0) (.int .i64 0) 26
    obtain ⟨A0, A1, A2⟩ := A.cells
    obtain ⟨B0, B1, B2⟩ := B.cells
    obtain ⟨C0, C1, C2⟩ := C.cells
    obtain ⟨X0, X1, X2⟩ := X.cells
    go_wp2_with fail
    refine (vecBin_spec 14 a b c d _).mono ?_; rintro e w4 ⟨rfl, hb⟩
    rw [CW.out, CN.out, CB.out]
    clear A0 A1 A2 B0 B1 B2 C0 C1 C2 X0 X1 X2
    clear nA nB nC
    replace A := A.keep hb
    replace B := B.keep hb
    replace C := C.keep hb
    replace X := X.keep hb
    replace K := below_two K hb
    clear hb
    have nA : ¬ w1.heap.size = w4.heap.size := Nat.ne_of_lt A.lt
    have nB : ¬ (w1.heap.size + 1) = w4.heap.size := Nat.ne_of_lt B.lt
    have nC : ¬ w2.heap.size = w4.heap.size := Nat.ne_of_lt C.lt
    have nX : ¬ w3.heap.size = w4.heap.size := Nat.ne_of_lt X.lt
    replace A := A.alloc (.cells #[.int .i64 0, .int .i64 0] 26)
    replace B := B.alloc (.cells #[.int .i64 0, .int .i64 0] 26)
    replace C := C.alloc (.cells #[.int .i64 0, .int .i64 0] 26)
    replace X := X.alloc (.cells #[.int .i64 0, .int .i64 0] 26)
    replace K := below_step K (.cells #[.int .i64 0, .int .i64 0] 26)
    have Y := blk_new w4 (.int .i64 0) (.int .i64 0) 26
    obtain ⟨A0, A1, A2⟩ := A.cells
    obtain ⟨B0, B1, B2⟩ := B.cells
    obtain ⟨C0, C1, C2⟩ := C.cells
    obtain ⟨X0, X1, X2⟩ := X.cells
    obtain ⟨Y0, Y1, Y2⟩ := Y.cells
    go_wp2_with fail
    clear A0 A1 A2 B0 B1 B2 C0 C1 C2 X0 X1 X2 Y0 Y1 Y2
    clear nA nB nC nX
    replace A := A.drew
    replace B := B.drew
    replace C := C.drew
    replace X := X.drew
    replace Y := Y.drew
    replace K := K.drew
    have sS := cells5 A B C X Y
    first
      | (go_region_held3 (fun wx => (wx.cell? ⟨w1.heap.size, 0, none⟩ = some (.int .i64 a) ∧ wx.cell? ⟨w1.heap.size, 1, none⟩ = some (.int .i64 b)) ∧ (wx.cell? ⟨(w1.heap.size + 1), 0, none⟩ = some (.int .i64 c) ∧ wx.cell? ⟨(w1.heap.size + 1), 1, none⟩ = some (.int .i64 d)) ∧ (wx.cell? ⟨w2.heap.size, 0, none⟩ = some (.int .i64 e) ∧ wx.cell? ⟨w2.heap.size, 1, none⟩ = some (.int .i64 f)) ∧ (wx.cell? ⟨w3.heap.size, 0, none⟩ = some (.int .i64 0) ∧ wx.cell? ⟨w3.heap.size, 1, none⟩ = some (.int .i64 0)) ∧ (wx.cell? ⟨w4.heap.size, 0, none⟩ = some (.int .i64 0) ∧ wx.cell? ⟨w4.heap.size, 1, none⟩ = some (.int .i64 0))) (first | (with_reducible assumption)) (first | (go_at_call 23; (with_reducible refine (vecOk_impl e f _).mono ?_); rintro e w5 ⟨rfl, hb⟩; replace A := A.keep hb; replace B := B.keep hb; replace C := C.keep hb; replace X := X.keep hb; replace Y := Y.keep hb; replace K := below_two K hb; clear hb; replace sS := cells5 A B C X Y) | (go_at_call 21; (with_reducible refine (vecOk_spec e f _).mono ?_); rintro e w5 ⟨rfl, hb⟩; replace A := A.keep hb; replace B := B.keep hb; replace C := C.keep hb; replace X := X.keep hb; replace Y := Y.keep hb; replace K := below_two K hb; clear hb; replace sS := cells5 A B C X Y)))
      | fail
    clear sS
    obtain ⟨A0, A1, A2⟩ := A.cells
    obtain ⟨B0, B1, B2⟩ := B.cells
    obtain ⟨C0, C1, C2⟩ := C.cells
    obtain ⟨X0, X1, X2⟩ := X.cells
    obtain ⟨Y0, Y1, Y2⟩ := Y.cells
    go_wp2_with fail
    cases hv : vokB a b
    · refine (vecOk_impl a b _).mono ?_; rintro e w6 ⟨rfl, hb⟩
      rw [hv]
      clear A0 A1 A2 B0 B1 B2 C0 C1 C2 X0 X1 X2 Y0 Y1 Y2
      replace A := A.keep hb
      replace B := B.keep hb
      replace C := C.keep hb
      replace X := X.keep hb
      replace Y := Y.keep hb
      replace K := below_two K hb
      clear hb
      obtain ⟨A0, A1, A2⟩ := A.cells
      obtain ⟨B0, B1, B2⟩ := B.cells
      obtain ⟨C0, C1, C2⟩ := C.cells
      obtain ⟨X0, X1, X2⟩ := X.cells
      obtain ⟨Y0, Y1, Y2⟩ := Y.cells
      go_wp2_with fail
      go_ret
      exact ⟨rfl, K⟩
    · refine (vecOk_impl a b _).mono ?_; rintro e w6 ⟨rfl, hb⟩
      rw [hv]
      clear A0 A1 A2 B0 B1 B2 C0 C1 C2 X0 X1 X2 Y0 Y1 Y2
      replace A := A.keep hb
      replace B := B.keep hb
      replace C := C.keep hb
      replace X := X.keep hb
      replace Y := Y.keep hb
      replace K := below_two K hb
      clear hb
      obtain ⟨A0, A1, A2⟩ := A.cells
      obtain ⟨B0, B1, B2⟩ := B.cells
      obtain ⟨C0, C1, C2⟩ := C.cells
      obtain ⟨X0, X1, X2⟩ := X.cells
      obtain ⟨Y0, Y1, Y2⟩ := Y.cells
      go_wp2_with fail
      cases hv2 : vokB c d
      · refine (vecOk_impl c d _).mono ?_; rintro e w7 ⟨rfl, hb⟩
        rw [hv2]
        clear A0 A1 A2 B0 B1 B2 C0 C1 C2 X0 X1 X2 Y0 Y1 Y2
        replace A := A.keep hb
        replace B := B.keep hb
        replace C := C.keep hb
        replace X := X.keep hb
        replace Y := Y.keep hb
        replace K := below_two K hb
        clear hb
        obtain ⟨A0, A1, A2⟩ := A.cells
        obtain ⟨B0, B1, B2⟩ := B.cells
        obtain ⟨C0, C1, C2⟩ := C.cells
        obtain ⟨X0, X1, X2⟩ := X.cells
        obtain ⟨Y0, Y1, Y2⟩ := Y.cells
        go_wp2_with fail
        go_ret
        exact ⟨rfl, K⟩
      · refine (vecOk_impl c d _).mono ?_; rintro e w7 ⟨rfl, hb⟩
        rw [hv2]
        clear A0 A1 A2 B0 B1 B2 C0 C1 C2 X0 X1 X2 Y0 Y1 Y2
        replace A := A.keep hb
        replace B := B.keep hb
        replace C := C.keep hb
        replace X := X.keep hb
        replace Y := Y.keep hb
        replace K := below_two K hb
        clear hb
        obtain ⟨A0, A1, A2⟩ := A.cells
        obtain ⟨B0, B1, B2⟩ := B.cells
        obtain ⟨C0, C1, C2⟩ := C.cells
        obtain ⟨X0, X1, X2⟩ := X.cells
        obtain ⟨Y0, Y1, Y2⟩ := Y.cells
        go_wp2_with fail
        cases hv3 : vokB e f
        · refine (vecOk_impl e f _).mono ?_; rintro e w8 ⟨rfl, hb⟩
          rw [hv3]
          clear A0 A1 A2 B0 B1 B2 C0 C1 C2 X0 X1 X2 Y0 Y1 Y2
          replace A := A.keep hb
          replace B := B.keep hb
          replace C := C.keep hb
          replace X := X.keep hb
          replace Y := Y.keep hb
          replace K := below_two K hb
          clear hb
          obtain ⟨A0, A1, A2⟩ := A.cells
          obtain ⟨B0, B1, B2⟩ := B.cells
          obtain ⟨C0, C1, C2⟩ := C.cells
          obtain ⟨X0, X1, X2⟩ := X.cells
          obtain ⟨Y0, Y1, Y2⟩ := Y.cells
          go_wp2_with fail
          go_ret
          exact ⟨rfl, K⟩
        · have hac : ¬ a + c ≤ 4 := fun h => hs ⟨hv, hv2, h⟩
          clear hs
          have dac : decide (a + c ≤ 4) = false := by simpa using hac
          obtain ⟨a1, a2, _, _⟩ := vokB_bd hv
          obtain ⟨c1, c2, _, _⟩ := vokB_bd hv2
          obtain ⟨e1, e2, _, _⟩ := vokB_bd hv3
          have hf : ¬ a + c + e ≤ 4 := by omega
          have LL := cat_no (a := 0) (b := 0) (c := e) (d := f) (fun h => by simp [vok_zero] at h)
          have LB := Lib.hid LL.1
          have LW := Lib.hid LL.2.1
          have LN := Lib.hid LL.2.2
          clear LL
          by_cases hm : c + e ≤ 4
          · have MM := cat_yes hv2 hv3 hm
            generalize hq : binN 14 c d e f = qn at *
            have MN := Lib.hid hq
            clear hq
            have RR := cat_no (a := a) (b := b) (c := c + e) (d := qn) (fun h => hac (by omega))
            have MB := Lib.hid MM.1
            have MW := Lib.hid MM.2.1
            have RB := Lib.hid RR.1
            have RW := Lib.hid RR.2.1
            have RN := Lib.hid RR.2.2
            clear MM RR
            refine (vecOk_impl e f _).mono ?_; rintro e w8 ⟨rfl, hb⟩
            rw [hv3]
            clear A0 A1 A2 B0 B1 B2 C0 C1 C2 X0 X1 X2 Y0 Y1 Y2
            replace A := A.keep hb
            replace B := B.keep hb
            replace C := C.keep hb
            replace X := X.keep hb
            replace Y := Y.keep hb
            replace K := below_two K hb
            clear hb
            obtain ⟨A0, A1, A2⟩ := A.cells
            obtain ⟨B0, B1, B2⟩ := B.cells
            obtain ⟨C0, C1, C2⟩ := C.cells
            obtain ⟨X0, X1, X2⟩ := X.cells
            obtain ⟨Y0, Y1, Y2⟩ := Y.cells
            go_wp2_with fail
            refine (vecBin_impl 14 0 0 e f _).mono ?_; rintro e w9 ⟨rfl, hb⟩
            rw [LW.out, LN.out, LB.out]
            clear A0 A1 A2 B0 B1 B2 C0 C1 C2 X0 X1 X2 Y0 Y1 Y2
            replace A := A.keep hb
            replace B := B.keep hb
            replace C := C.keep hb
            replace X := X.keep hb
            replace Y := Y.keep hb
            replace K := below_two K hb
            clear hb
            have nA : ¬ w1.heap.size = w9.heap.size := Nat.ne_of_lt A.lt
            have nB : ¬ (w1.heap.size + 1) = w9.heap.size := Nat.ne_of_lt B.lt
            have nC : ¬ w2.heap.size = w9.heap.size := Nat.ne_of_lt C.lt
            have nX : ¬ w3.heap.size = w9.heap.size := Nat.ne_of_lt X.lt
            have nY : ¬ w4.heap.size = w9.heap.size := Nat.ne_of_lt Y.lt
            replace A := A.alloc (.cells #[.int .i64 0, .int .i64 0] 26)
            replace B := B.alloc (.cells #[.int .i64 0, .int .i64 0] 26)
            replace C := C.alloc (.cells #[.int .i64 0, .int .i64 0] 26)
            replace X := X.alloc (.cells #[.int .i64 0, .int .i64 0] 26)
            replace Y := Y.alloc (.cells #[.int .i64 0, .int .i64 0] 26)
            replace K := below_step K (.cells #[.int .i64 0, .int .i64 0] 26)
            have P := blk_new w9 (.int .i64 0) (.int .i64 0) 26
            obtain ⟨A0, A1, A2⟩ := A.cells
            obtain ⟨B0, B1, B2⟩ := B.cells
            obtain ⟨C0, C1, C2⟩ := C.cells
            obtain ⟨X0, X1, X2⟩ := X.cells
            obtain ⟨Y0, Y1, Y2⟩ := Y.cells
            obtain ⟨P0, P1, P2⟩ := P.cells
            go_wp2_with fail
            refine (vecBin_impl 14 c d e f _).mono ?_; rintro e w10 ⟨rfl, hb⟩
            rw [MW.out, MN.out, MB.out]
            clear A0 A1 A2 B0 B1 B2 C0 C1 C2 X0 X1 X2 Y0 Y1 Y2 P0 P1 P2
            clear nA nB nC nX nY
            replace A := A.keep hb
            replace B := B.keep hb
            replace C := C.keep hb
            replace X := X.keep hb
            replace Y := Y.keep hb
            replace P := P.keep hb
            replace K := below_two K hb
            clear hb
            have nA : ¬ w1.heap.size = w10.heap.size := Nat.ne_of_lt A.lt
            have nB : ¬ (w1.heap.size + 1) = w10.heap.size := Nat.ne_of_lt B.lt
            have nC : ¬ w2.heap.size = w10.heap.size := Nat.ne_of_lt C.lt
            have nX : ¬ w3.heap.size = w10.heap.size := Nat.ne_of_lt X.lt
            have nY : ¬ w4.heap.size = w10.heap.size := Nat.ne_of_lt Y.lt
            have nP : ¬ w9.heap.size = w10.heap.size := Nat.ne_of_lt P.lt
            replace A := A.alloc (.cells #[.int .i64 (c + e), .int .i64 qn] 26)
            replace B := B.alloc (.cells #[.int .i64 (c + e), .int .i64 qn] 26)
            replace C := C.alloc (.cells #[.int .i64 (c + e), .int .i64 qn] 26)
            replace X := X.alloc (.cells #[.int .i64 (c + e), .int .i64 qn] 26)
            replace Y := Y.alloc (.cells #[.int .i64 (c + e), .int .i64 qn] 26)
            replace P := P.alloc (.cells #[.int .i64 (c + e), .int .i64 qn] 26)
            replace K := below_step K (.cells #[.int .i64 (c + e), .int .i64 qn] 26)
            have Q := blk_new w10 (.int .i64 (c + e)) (.int .i64 qn) 26
            obtain ⟨A0, A1, A2⟩ := A.cells
            obtain ⟨B0, B1, B2⟩ := B.cells
            obtain ⟨C0, C1, C2⟩ := C.cells
            obtain ⟨X0, X1, X2⟩ := X.cells
            obtain ⟨Y0, Y1, Y2⟩ := Y.cells
            obtain ⟨P0, P1, P2⟩ := P.cells
            obtain ⟨Q0, Q1, Q2⟩ := Q.cells
            go_wp2_with fail
            refine (vecBin_impl 14 a b (c + e) qn _).mono ?_; rintro e w11 ⟨rfl, hb⟩
            rw [RW.out, RN.out, RB.out]
            clear A0 A1 A2 B0 B1 B2 C0 C1 C2 X0 X1 X2 Y0 Y1 Y2 P0 P1 P2 Q0 Q1 Q2
            clear nA nB nC nX nY nP
            replace A := A.keep hb
            replace B := B.keep hb
            replace C := C.keep hb
            replace X := X.keep hb
            replace Y := Y.keep hb
            replace P := P.keep hb
            replace Q := Q.keep hb
            replace K := below_two K hb
            clear hb
            have nA : ¬ w1.heap.size = w11.heap.size := Nat.ne_of_lt A.lt
            have nB : ¬ (w1.heap.size + 1) = w11.heap.size := Nat.ne_of_lt B.lt
            have nC : ¬ w2.heap.size = w11.heap.size := Nat.ne_of_lt C.lt
            have nX : ¬ w3.heap.size = w11.heap.size := Nat.ne_of_lt X.lt
            have nY : ¬ w4.heap.size = w11.heap.size := Nat.ne_of_lt Y.lt
            have nP : ¬ w9.heap.size = w11.heap.size := Nat.ne_of_lt P.lt
            have nQ : ¬ w10.heap.size = w11.heap.size := Nat.ne_of_lt Q.lt
            replace A := A.alloc (.cells #[.int .i64 0, .int .i64 0] 26)
            replace B := B.alloc (.cells #[.int .i64 0, .int .i64 0] 26)
            replace C := C.alloc (.cells #[.int .i64 0, .int .i64 0] 26)
            replace X := X.alloc (.cells #[.int .i64 0, .int .i64 0] 26)
            replace Y := Y.alloc (.cells #[.int .i64 0, .int .i64 0] 26)
            replace P := P.alloc (.cells #[.int .i64 0, .int .i64 0] 26)
            replace Q := Q.alloc (.cells #[.int .i64 0, .int .i64 0] 26)
            replace K := below_step K (.cells #[.int .i64 0, .int .i64 0] 26)
            have R := blk_new w11 (.int .i64 0) (.int .i64 0) 26
            obtain ⟨A0, A1, A2⟩ := A.cells
            obtain ⟨B0, B1, B2⟩ := B.cells
            obtain ⟨C0, C1, C2⟩ := C.cells
            obtain ⟨X0, X1, X2⟩ := X.cells
            obtain ⟨Y0, Y1, Y2⟩ := Y.cells
            obtain ⟨P0, P1, P2⟩ := P.cells
            obtain ⟨Q0, Q1, Q2⟩ := Q.cells
            obtain ⟨R0, R1, R2⟩ := R.cells
            go_wp2_with fail
            go_ret
            exact ⟨rfl, K⟩
          · have MM := cat_no (a := c) (b := d) (c := e) (d := f) (fun h => hm h.2.2)
            have MN := Lib.hid MM.2.2
            have RR := cat_no (a := a) (b := b) (c := 0) (d := 0) (fun h => by simp [vok_zero] at h)
            have MB := Lib.hid MM.1
            have MW := Lib.hid MM.2.1
            have RB := Lib.hid RR.1
            have RW := Lib.hid RR.2.1
            have RN := Lib.hid RR.2.2
            clear MM RR
            refine (vecOk_impl e f _).mono ?_; rintro e w8 ⟨rfl, hb⟩
            rw [hv3]
            clear A0 A1 A2 B0 B1 B2 C0 C1 C2 X0 X1 X2 Y0 Y1 Y2
            replace A := A.keep hb
            replace B := B.keep hb
            replace C := C.keep hb
            replace X := X.keep hb
            replace Y := Y.keep hb
            replace K := below_two K hb
            clear hb
            obtain ⟨A0, A1, A2⟩ := A.cells
            obtain ⟨B0, B1, B2⟩ := B.cells
            obtain ⟨C0, C1, C2⟩ := C.cells
            obtain ⟨X0, X1, X2⟩ := X.cells
            obtain ⟨Y0, Y1, Y2⟩ := Y.cells
            go_wp2_with fail
            refine (vecBin_impl 14 0 0 e f _).mono ?_; rintro e w9 ⟨rfl, hb⟩
            rw [LW.out, LN.out, LB.out]
            clear A0 A1 A2 B0 B1 B2 C0 C1 C2 X0 X1 X2 Y0 Y1 Y2
            replace A := A.keep hb
            replace B := B.keep hb
            replace C := C.keep hb
            replace X := X.keep hb
            replace Y := Y.keep hb
            replace K := below_two K hb
            clear hb
            have nA : ¬ w1.heap.size = w9.heap.size := Nat.ne_of_lt A.lt
            have nB : ¬ (w1.heap.size + 1) = w9.heap.size := Nat.ne_of_lt B.lt
            have nC : ¬ w2.heap.size = w9.heap.size := Nat.ne_of_lt C.lt
            have nX : ¬ w3.heap.size = w9.heap.size := Nat.ne_of_lt X.lt
            have nY : ¬ w4.heap.size = w9.heap.size := Nat.ne_of_lt Y.lt
            replace A := A.alloc (.cells #[.int .i64 0, .int .i64 0] 26)
            replace B := B.alloc (.cells #[.int .i64 0, .int .i64 0] 26)
            replace C := C.alloc (.cells #[.int .i64 0, .int .i64 0] 26)
            replace X := X.alloc (.cells #[.int .i64 0, .int .i64 0] 26)
            replace Y := Y.alloc (.cells #[.int .i64 0, .int .i64 0] 26)
            replace K := below_step K (.cells #[.int .i64 0, .int .i64 0] 26)
            have P := blk_new w9 (.int .i64 0) (.int .i64 0) 26
            obtain ⟨A0, A1, A2⟩ := A.cells
            obtain ⟨B0, B1, B2⟩ := B.cells
            obtain ⟨C0, C1, C2⟩ := C.cells
            obtain ⟨X0, X1, X2⟩ := X.cells
            obtain ⟨Y0, Y1, Y2⟩ := Y.cells
            obtain ⟨P0, P1, P2⟩ := P.cells
            go_wp2_with fail
            refine (vecBin_impl 14 c d e f _).mono ?_; rintro e w10 ⟨rfl, hb⟩
            rw [MW.out, MN.out, MB.out]
            clear A0 A1 A2 B0 B1 B2 C0 C1 C2 X0 X1 X2 Y0 Y1 Y2 P0 P1 P2
            clear nA nB nC nX nY
            replace A := A.keep hb
            replace B := B.keep hb
            replace C := C.keep hb
            replace X := X.keep hb
            replace Y := Y.keep hb
            replace P := P.keep hb
            replace K := below_two K hb
            clear hb
            have nA : ¬ w1.heap.size = w10.heap.size := Nat.ne_of_lt A.lt
            have nB : ¬ (w1.heap.size + 1) = w10.heap.size := Nat.ne_of_lt B.lt
            have nC : ¬ w2.heap.size = w10.heap.size := Nat.ne_of_lt C.lt
            have nX : ¬ w3.heap.size = w10.heap.size := Nat.ne_of_lt X.lt
            have nY : ¬ w4.heap.size = w10.heap.size := Nat.ne_of_lt Y.lt
            have nP : ¬ w9.heap.size = w10.heap.size := Nat.ne_of_lt P.lt
            replace A := A.alloc (.cells #[.int .i64 0, .int .i64 0] 26)
            replace B := B.alloc (.cells #[.int .i64 0, .int .i64 0] 26)
            replace C := C.alloc (.cells #[.int .i64 0, .int .i64 0] 26)
            replace X := X.alloc (.cells #[.int .i64 0, .int .i64 0] 26)
            replace Y := Y.alloc (.cells #[.int .i64 0, .int .i64 0] 26)
            replace P := P.alloc (.cells #[.int .i64 0, .int .i64 0] 26)
            replace K := below_step K (.cells #[.int .i64 0, .int .i64 0] 26)
            have Q := blk_new w10 (.int .i64 0) (.int .i64 0) 26
            obtain ⟨A0, A1, A2⟩ := A.cells
            obtain ⟨B0, B1, B2⟩ := B.cells
            obtain ⟨C0, C1, C2⟩ := C.cells
            obtain ⟨X0, X1, X2⟩ := X.cells
            obtain ⟨Y0, Y1, Y2⟩ := Y.cells
            obtain ⟨P0, P1, P2⟩ := P.cells
            obtain ⟨Q0, Q1, Q2⟩ := Q.cells
            go_wp2_with fail
            refine (vecBin_impl 14 a b 0 0 _).mono ?_; rintro e w11 ⟨rfl, hb⟩
            rw [RW.out, RN.out, RB.out]
            clear A0 A1 A2 B0 B1 B2 C0 C1 C2 X0 X1 X2 Y0 Y1 Y2 P0 P1 P2 Q0 Q1 Q2
            clear nA nB nC nX nY nP
            replace A := A.keep hb
            replace B := B.keep hb
            replace C := C.keep hb
            replace X := X.keep hb
            replace Y := Y.keep hb
            replace P := P.keep hb
            replace Q := Q.keep hb
            replace K := below_two K hb
            clear hb
            have nA : ¬ w1.heap.size = w11.heap.size := Nat.ne_of_lt A.lt
            have nB : ¬ (w1.heap.size + 1) = w11.heap.size := Nat.ne_of_lt B.lt
            have nC : ¬ w2.heap.size = w11.heap.size := Nat.ne_of_lt C.lt
            have nX : ¬ w3.heap.size = w11.heap.size := Nat.ne_of_lt X.lt
            have nY : ¬ w4.heap.size = w11.heap.size := Nat.ne_of_lt Y.lt
            have nP : ¬ w9.heap.size = w11.heap.size := Nat.ne_of_lt P.lt
            have nQ : ¬ w10.heap.size = w11.heap.size := Nat.ne_of_lt Q.lt
            replace A := A.alloc (.cells #[.int .i64 0, .int .i64 0] 26)
            replace B := B.alloc (.cells #[.int .i64 0, .int .i64 0] 26)
            replace C := C.alloc (.cells #[.int .i64 0, .int .i64 0] 26)
            replace X := X.alloc (.cells #[.int .i64 0, .int .i64 0] 26)
            replace Y := Y.alloc (.cells #[.int .i64 0, .int .i64 0] 26)
            replace P := P.alloc (.cells #[.int .i64 0, .int .i64 0] 26)
            replace Q := Q.alloc (.cells #[.int .i64 0, .int .i64 0] 26)
            replace K := below_step K (.cells #[.int .i64 0, .int .i64 0] 26)
            have R := blk_new w11 (.int .i64 0) (.int .i64 0) 26
            obtain ⟨A0, A1, A2⟩ := A.cells
            obtain ⟨B0, B1, B2⟩ := B.cells
            obtain ⟨C0, C1, C2⟩ := C.cells
            obtain ⟨X0, X1, X2⟩ := X.cells
            obtain ⟨Y0, Y1, Y2⟩ := Y.cells
            obtain ⟨P0, P1, P2⟩ := P.cells
            obtain ⟨Q0, Q1, Q2⟩ := Q.cells
            obtain ⟨R0, R1, R2⟩ := R.cells
            go_wp2_with fail
            go_ret
            exact ⟨rfl, K⟩
end Go.Proofs.Ytpnpjdebmakamaa
