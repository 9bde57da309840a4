/- The walk of FnVecShift: for every argument the law returns true and leaves alone what was there. -/
import Derived.Test.YtpnpjdebmakamaaRg
import Derived.Test.YtpnpjdebmakamaaWq
import Derived.Test.YtpnpjdebmakamaaBy
import Derived.Test.YtpnpjdebmakamaaVs
import Derived.Test.YtpnpjdebmakamaaVq
namespace Go.Proofs.Ytpnpjdebmakamaa
open Go.RowKit

def shiftK (p m n k : Int) : Bool := (if 0 < binN 6 m k m 1 then decide (binN p m n m (binN 6 m k m 1) = binN p m (binN p m n m k) m 1) else true) &&
    (if m ≤ k then (if p = 13 ∧ vsgn m n < 0 then decide (binN p m n m k = unN 1 m 0) && decide (¬ unN 1 m 0 = 0) else decide (binN p m n m k = 0)) else true)
def shiftC (m n k : Int) : Bool := shiftK 11 m n k && shiftK 12 m n k && shiftK 13 m n k && decide (binN 7 m n m n = 0) && decide (binN 11 m n m 0 = n) && decide (binN 11 m n m 1 = binN 6 m n m n) &&
    (if vsgn m n < 0 then true else decide (binN 13 m n m k = binN 12 m n m k))
theorem shift_nat : ∀ m : Nat, m < 5 → ∀ n : Nat, n < 16 → ∀ k : Nat, k < 16 → (!(vokB m n && vokB m k) || shiftC m n k) = true := by decide +kernel
theorem shift_facts {a b d : Int} (h : vokB a b = true) (h' : vokB a d = true) : shiftC a b d = true := by
  obtain ⟨m, n, rfl, rfl, q1, q2, q3⟩ := vok_natq h
  obtain ⟨m', k, e, rfl, _, _, q4⟩ := vok_natq h'
  have := shift_nat m q2 n q3 k q4
  simpa [h, h'] using this
theorem vok_one {a b : Int} (h : vokB a b = true) : vokB a 1 = true ∧ vokB a 0 = true := by
  obtain ⟨h1, h2, _⟩ := vokB_bd h
  have : two 1 ≤ two a.toNat := two_le (by omega)
  have e : two 1 = 2 := by decide
  exact ⟨vok_mk h1 h2 (by decide) (by omega), vok_mk h1 h2 (by decide) (by omega)⟩

set_option linter.unusedSimpArgs false in
set_option linter.unusedVariables false in
set_option maxRecDepth 20000 in
set_option maxHeartbeats 8000000 in
theorem walk_FnVecShift (v : Value) {w : World} (h : BytesIn w v) :
    Calls Try.prog 20 #[v] w fun e w' => e = .returned (.bool true) ∧ Below w.heap.size w w' := by
  obtain ⟨a0, len, cap, rfl⟩ : ∃ a len cap, v = .slice a len cap := by
    rcases h with ⟨a, c, rfl⟩ | ⟨b, off, len, cap, rfl, _⟩ <;> exact ⟨_, _, _, rfl⟩
  by_cases hb : (1048576 : Int) < len
  · go_enter Try.func20, Try.ntmps20
    go_wp2_with fail
    go_ret
    exact ⟨rfl, Below.refl _ _⟩
  go_enter Try.func20, Try.ntmps20
  go_wp2_with fail
  refine (drawVecBin_any _ _ h).mono ?_
  rintro e w1 ⟨_, rfl, ⟨op, a, b, c, d, rfl⟩, hb1⟩
  have K := hb1
  clear hb1
  replace K := below_step (below_step K (.cells #[.int .i64 a, .int .i64 b] 26)) (.cells #[.int .i64 c, .int .i64 d] 26)
  have A := (blk_new w1 (.int .i64 a) (.int .i64 b) 26).alloc (.cells #[.int .i64 c, .int .i64 d] 26)
  have B := blk_new1 w1 (.cells #[.int .i64 a, .int .i64 b] 26) (.int .i64 c) (.int .i64 d) 26
  obtain ⟨A0, A1, A2⟩ := A.cells
  obtain ⟨B0, B1, B2⟩ := B.cells
  go_wp2_with fail
  refine (vecBin_impl op a b c d _).mono ?_; rintro e w2 ⟨rfl, hb⟩
  clear A0 A1 A2 B0 B1 B2
  replace A := A.keep hb
  replace B := B.keep hb
  replace K := below_two K hb
  clear hb
  have nA : ¬ w1.heap.size = w2.heap.size := Nat.ne_of_lt A.lt
  have nB : ¬ (w1.heap.size + 1) = w2.heap.size := Nat.ne_of_lt B.lt
  replace A := A.alloc (.cells #[.int .i64 (binW op a b c d), .int .i64 (binN op a b c d)] 26)
  replace B := B.alloc (.cells #[.int .i64 (binW op a b c d), .int .i64 (binN op a b c d)] 26)
  replace K := below_step K (.cells #[.int .i64 (binW op a b c d), .int .i64 (binN op a b c d)] 26)
  have X := blk_new w2 (.int .i64 (binW op a b c d)) (.int .i64 (binN op a b c d)) 26
  obtain ⟨A0, A1, A2⟩ := A.cells
  obtain ⟨B0, B1, B2⟩ := B.cells
  obtain ⟨X0, X1, X2⟩ := X.cells
  go_wp2_with fail
  refine (vecBin_spec op a b c d _).mono ?_; rintro e w3 ⟨rfl, hb⟩
  clear A0 A1 A2 B0 B1 B2 X0 X1 X2
  clear nA nB
  replace A := A.keep hb
  replace B := B.keep hb
  replace X := X.keep hb
  replace K := below_two K hb
  clear hb
  have nA : ¬ w1.heap.size = w3.heap.size := Nat.ne_of_lt A.lt
  have nB : ¬ (w1.heap.size + 1) = w3.heap.size := Nat.ne_of_lt B.lt
  have nX : ¬ w2.heap.size = w3.heap.size := Nat.ne_of_lt X.lt
  replace A := A.alloc (.cells #[.int .i64 (binW op a b c d), .int .i64 (binN op a b c d)] 26)
  replace B := B.alloc (.cells #[.int .i64 (binW op a b c d), .int .i64 (binN op a b c d)] 26)
  replace X := X.alloc (.cells #[.int .i64 (binW op a b c d), .int .i64 (binN op a b c d)] 26)
  replace K := below_step K (.cells #[.int .i64 (binW op a b c d), .int .i64 (binN op a b c d)] 26)
  have Y := blk_new w3 (.int .i64 (binW op a b c d)) (.int .i64 (binN op a b c d)) 26
  obtain ⟨A0, A1, A2⟩ := A.cells
  obtain ⟨B0, B1, B2⟩ := B.cells
  obtain ⟨X0, X1, X2⟩ := X.cells
  obtain ⟨Y0, Y1, Y2⟩ := Y.cells
  go_wp2_with fail
  cases hv : vokB a b
  · refine (vecOk_impl a b _).mono ?_; rintro e w4 ⟨rfl, hb⟩
    rw [hv]
    clear A0 A1 A2 B0 B1 B2 X0 X1 X2 Y0 Y1 Y2
    clear nA nB nX
    replace A := A.keep hb
    replace B := B.keep hb
    replace X := X.keep hb
    replace Y := Y.keep hb
    replace K := below_two K hb
    clear hb
    obtain ⟨A0, A1, A2⟩ := A.cells
    obtain ⟨B0, B1, B2⟩ := B.cells
    obtain ⟨X0, X1, X2⟩ := X.cells
    obtain ⟨Y0, Y1, Y2⟩ := Y.cells
    go_wp2_with fail
    go_ret
    exact ⟨rfl, K⟩
  · refine (vecOk_impl a b _).mono ?_; rintro e w4 ⟨rfl, hb⟩
    rw [hv]
    clear A0 A1 A2 B0 B1 B2 X0 X1 X2 Y0 Y1 Y2
    clear nA nB nX
    replace A := A.keep hb
    replace B := B.keep hb
    replace X := X.keep hb
    replace Y := Y.keep hb
    replace K := below_two K hb
    clear hb
    obtain ⟨A0, A1, A2⟩ := A.cells
    obtain ⟨B0, B1, B2⟩ := B.cells
    obtain ⟨X0, X1, X2⟩ := X.cells
    obtain ⟨Y0, Y1, Y2⟩ := Y.cells
    go_wp2_with fail
    cases hv2 : vokB c d
    · refine (vecOk_impl c d _).mono ?_; rintro e w5 ⟨rfl, hb⟩
      rw [hv2]
      clear A0 A1 A2 B0 B1 B2 X0 X1 X2 Y0 Y1 Y2
      replace A := A.keep hb
      replace B := B.keep hb
      replace X := X.keep hb
      replace Y := Y.keep hb
      replace K := below_two K hb
      clear hb
      obtain ⟨A0, A1, A2⟩ := A.cells
      obtain ⟨B0, B1, B2⟩ := B.cells
      obtain ⟨X0, X1, X2⟩ := X.cells
      obtain ⟨Y0, Y1, Y2⟩ := Y.cells
      go_wp2_with fail
      go_ret
      exact ⟨rfl, K⟩
    · by_cases hac : a = c
      · subst hac
        have F := shift_facts hv hv2
        simp only [shiftC, Bool.and_eq_true, decide_eq_true_eq] at F
        obtain ⟨⟨⟨⟨⟨⟨F11, F12⟩, F13⟩, f4⟩, f5⟩, f6⟩, f7⟩ := F
        have Vb := hv
        have Vd := hv2
        obtain ⟨V1, V0⟩ := vok_one hv
        simp only [shiftK, Bool.and_eq_true, decide_eq_true_eq, show ¬ (11 : Int) = 13 by decide, show ¬ (12 : Int) = 13 by decide, false_and, if_false, true_and, if_true] at F11 F12 F13
        generalize hsg : vsgn a b = sg at *
        have SG := Lib.hid hsg
        clear hsg
        have Mo := bin_ok (op := 6) (by decide) (by decide) Vd V1
        generalize Me : binN 6 a d a 1 = m at *
        have Vm := Mo.2.1
        have Mn := Lib.hid Me
        have Mw := Lib.hid Mo.1
        clear Me Mo
        have Zo := bin_ok (op := 7) (by decide) (by decide) Vb Vb
        have Zn := Lib.hid (f4 : binN 7 a b a b = 0)
        have Zw := Lib.hid Zo.1
        clear Zo
        have S11o := bin_ok (op := 11) (by decide) (by decide) Vb Vd
        generalize S11e : binN 11 a b a d = s11 at *
        have Vs11 := S11o.2.1
        have S11n := Lib.hid S11e
        have S11w := Lib.hid S11o.1
        clear S11e S11o
        have S12o := bin_ok (op := 12) (by decide) (by decide) Vb Vd
        generalize S12e : binN 12 a b a d = s12 at *
        have Vs12 := S12o.2.1
        have S12n := Lib.hid S12e
        have S12w := Lib.hid S12o.1
        clear S12e S12o
        have S13o := bin_ok (op := 13) (by decide) (by decide) Vb Vd
        generalize S13e : binN 13 a b a d = s13 at *
        have Vs13 := S13o.2.1
        have S13n := Lib.hid S13e
        have S13w := Lib.hid S13o.1
        clear S13e S13o
        have No := un_ok (op := 1) (by decide) V0
        generalize Ne : unN 1 a 0 = nz at *
        have Vnz := No.2
        have Nn := Lib.hid Ne
        have Nw := Lib.hid No.1
        clear Ne No
        have L0o := bin_ok (op := 11) (by decide) (by decide) Vb V0
        have L0n := Lib.hid (f5 : binN 11 a b a 0 = b)
        have L0w := Lib.hid L0o.1
        clear L0o
        have Do := bin_ok (op := 6) (by decide) (by decide) Vb Vb
        generalize De : binN 6 a b a b = dd at *
        have Vdd := Do.2.1
        have Dn := Lib.hid De
        have Dw := Lib.hid Do.1
        clear De Do
        have L1o := bin_ok (op := 11) (by decide) (by decide) Vb V1
        have L1n := Lib.hid (f6 : binN 11 a b a 1 = dd)
        have L1w := Lib.hid L1o.1
        clear L1o
        have R11o := bin_ok (op := 11) (by decide) (by decide) Vb Vm
        generalize R11e : binN 11 a b a m = r11 at *
        have Vr11 := R11o.2.1
        have R11n := Lib.hid R11e
        have R11w := Lib.hid R11o.1
        clear R11e R11o
        have T11o := bin_ok (op := 11) (by decide) (by decide) Vs11 V1
        generalize T11e : binN 11 a s11 a 1 = t11 at *
        have Vt11 := T11o.2.1
        have T11n := Lib.hid T11e
        have T11w := Lib.hid T11o.1
        clear T11e T11o
        have R12o := bin_ok (op := 12) (by decide) (by decide) Vb Vm
        generalize R12e : binN 12 a b a m = r12 at *
        have Vr12 := R12o.2.1
        have R12n := Lib.hid R12e
        have R12w := Lib.hid R12o.1
        clear R12e R12o
        have T12o := bin_ok (op := 12) (by decide) (by decide) Vs12 V1
        generalize T12e : binN 12 a s12 a 1 = t12 at *
        have Vt12 := T12o.2.1
        have T12n := Lib.hid T12e
        have T12w := Lib.hid T12o.1
        clear T12e T12o
        have R13o := bin_ok (op := 13) (by decide) (by decide) Vb Vm
        generalize R13e : binN 13 a b a m = r13 at *
        have Vr13 := R13o.2.1
        have R13n := Lib.hid R13e
        have R13w := Lib.hid R13o.1
        clear R13e R13o
        have T13o := bin_ok (op := 13) (by decide) (by decide) Vs13 V1
        generalize T13e : binN 13 a s13 a 1 = t13 at *
        have Vt13 := T13o.2.1
        have T13n := Lib.hid T13e
        have T13w := Lib.hid T13o.1
        clear T13e T13o
        have a1 := (vokB_bd hv).1
        have a2 := (vokB_bd hv).2.1
        have d2 := vokB_bd hv2
        have d3 := vok_two hv2
        obtain ⟨_, _, d4, d5⟩ := d2
        clear f4 f5 f6
        have H11 := Lib.hid F11
        have H12 := Lib.hid F12
        have H13 := Lib.hid F13
        have H7 := Lib.hid f7
        clear F11 F12 F13 f7
        obtain ⟨m0, m1⟩ : 0 ≤ m ∧ m ≤ 16 := by have := vokB_bd Vm; have := vok_two Vm; omega
        refine (vecOk_impl a d _).mono ?_; rintro e w5 ⟨rfl, hb⟩
        rw [hv2]
        clear A0 A1 A2 B0 B1 B2 X0 X1 X2 Y0 Y1 Y2
        replace A := A.keep hb
        replace B := B.keep hb
        replace X := X.keep hb
        replace Y := Y.keep hb
        replace K := below_two K hb
        clear hb
        obtain ⟨A0, A1, A2⟩ := A.cells
        obtain ⟨B0, B1, B2⟩ := B.cells
        obtain ⟨X0, X1, X2⟩ := X.cells
        obtain ⟨Y0, Y1, Y2⟩ := Y.cells
        clear A0 A1 A2 B0 B1 B2 X0 X1 X2 Y0 Y1 Y2
        obtain ⟨p0, p1, p2⟩ := A.cells
        obtain ⟨p3, p4, p5⟩ := B.cells
        have nA : ¬ w1.heap.size = w5.heap.size := Nat.ne_of_lt A.lt
        have nB : ¬ (w1.heap.size + 1) = w5.heap.size := Nat.ne_of_lt B.lt
        have nX : ¬ w2.heap.size = w5.heap.size := Nat.ne_of_lt X.lt
        have nY : ¬ w3.heap.size = w5.heap.size := Nat.ne_of_lt Y.lt
        replace A := A.alloc (.cells #[.int .i64 a, .int .i64 1] 26)
        replace B := B.alloc (.cells #[.int .i64 a, .int .i64 1] 26)
        replace X := X.alloc (.cells #[.int .i64 a, .int .i64 1] 26)
        replace Y := Y.alloc (.cells #[.int .i64 a, .int .i64 1] 26)
        replace K := below_step K (.cells #[.int .i64 a, .int .i64 1] 26)
        have O := blk_new w5 (.int .i64 a) (.int .i64 1) 26
        obtain ⟨A0, A1, A2⟩ := A.cells
        obtain ⟨B0, B1, B2⟩ := B.cells
        obtain ⟨X0, X1, X2⟩ := X.cells
        obtain ⟨Y0, Y1, Y2⟩ := Y.cells
        obtain ⟨O0, O1, O2⟩ := O.cells
        go_wp2_with fail
        clear p0 p1 p2 p3 p4 p5
        refine (wpBin_any 6 a d a 1 _).mono ?_; rintro e w6 ⟨rfl, hb⟩
        rw [Mw.out, Mn.out]
        clear A0 A1 A2 B0 B1 B2 X0 X1 X2 Y0 Y1 Y2 O0 O1 O2
        clear nA nB nX nY
        replace A := A.keep hb
        replace B := B.keep hb
        replace X := X.keep hb
        replace Y := Y.keep hb
        replace O := O.keep hb
        replace K := below_two K hb
        clear hb
        have nA : ¬ w1.heap.size = w6.heap.size := Nat.ne_of_lt A.lt
        have nB : ¬ (w1.heap.size + 1) = w6.heap.size := Nat.ne_of_lt B.lt
        have nX : ¬ w2.heap.size = w6.heap.size := Nat.ne_of_lt X.lt
        have nY : ¬ w3.heap.size = w6.heap.size := Nat.ne_of_lt Y.lt
        have nO : ¬ w5.heap.size = w6.heap.size := Nat.ne_of_lt O.lt
        replace A := A.alloc (.cells #[.int .i64 a, .int .i64 m] 26)
        replace B := B.alloc (.cells #[.int .i64 a, .int .i64 m] 26)
        replace X := X.alloc (.cells #[.int .i64 a, .int .i64 m] 26)
        replace Y := Y.alloc (.cells #[.int .i64 a, .int .i64 m] 26)
        replace O := O.alloc (.cells #[.int .i64 a, .int .i64 m] 26)
        replace K := below_step K (.cells #[.int .i64 a, .int .i64 m] 26)
        have MM := blk_new w6 (.int .i64 a) (.int .i64 m) 26
        obtain ⟨A0, A1, A2⟩ := A.cells
        obtain ⟨B0, B1, B2⟩ := B.cells
        obtain ⟨X0, X1, X2⟩ := X.cells
        obtain ⟨Y0, Y1, Y2⟩ := Y.cells
        obtain ⟨O0, O1, O2⟩ := O.cells
        obtain ⟨MM0, MM1, MM2⟩ := MM.cells
        go_wp2_with fail
        refine (wpBin_any 7 a b a b _).mono ?_; rintro e w7 ⟨rfl, hb⟩
        rw [Zw.out, Zn.out]
        clear A0 A1 A2 B0 B1 B2 X0 X1 X2 Y0 Y1 Y2 O0 O1 O2 MM0 MM1 MM2
        clear nA nB nX nY nO
        replace A := A.keep hb
        replace B := B.keep hb
        replace X := X.keep hb
        replace Y := Y.keep hb
        replace O := O.keep hb
        replace MM := MM.keep hb
        replace K := below_two K hb
        clear hb
        have nA : ¬ w1.heap.size = w7.heap.size := Nat.ne_of_lt A.lt
        have nB : ¬ (w1.heap.size + 1) = w7.heap.size := Nat.ne_of_lt B.lt
        have nX : ¬ w2.heap.size = w7.heap.size := Nat.ne_of_lt X.lt
        have nY : ¬ w3.heap.size = w7.heap.size := Nat.ne_of_lt Y.lt
        have nO : ¬ w5.heap.size = w7.heap.size := Nat.ne_of_lt O.lt
        have nMM : ¬ w6.heap.size = w7.heap.size := Nat.ne_of_lt MM.lt
        replace A := A.alloc (.cells #[.int .i64 a, .int .i64 0] 26)
        replace B := B.alloc (.cells #[.int .i64 a, .int .i64 0] 26)
        replace X := X.alloc (.cells #[.int .i64 a, .int .i64 0] 26)
        replace Y := Y.alloc (.cells #[.int .i64 a, .int .i64 0] 26)
        replace O := O.alloc (.cells #[.int .i64 a, .int .i64 0] 26)
        replace MM := MM.alloc (.cells #[.int .i64 a, .int .i64 0] 26)
        replace K := below_step K (.cells #[.int .i64 a, .int .i64 0] 26)
        have ZZ := blk_new w7 (.int .i64 a) (.int .i64 0) 26
        obtain ⟨A0, A1, A2⟩ := A.cells
        obtain ⟨B0, B1, B2⟩ := B.cells
        obtain ⟨X0, X1, X2⟩ := X.cells
        obtain ⟨Y0, Y1, Y2⟩ := Y.cells
        obtain ⟨O0, O1, O2⟩ := O.cells
        obtain ⟨MM0, MM1, MM2⟩ := MM.cells
        obtain ⟨ZZ0, ZZ1, ZZ2⟩ := ZZ.cells
        go_wp2_with fail
        clear A0 A1 A2 B0 B1 B2 X0 X1 X2 Y0 Y1 Y2 O0 O1 O2 MM0 MM1 MM2 ZZ0 ZZ1 ZZ2
        clear nA nB nX nY nO nMM
        clear X Y
        go_loopw [13] (fun i  wr => ∃ k : Int, 11 ≤ k ∧ k ≤ 14 ∧ i = .int .i64 k ∧ Blk wr w1.heap.size (.int .i64 a) (.int .i64 b) 26 ∧ Blk wr (w1.heap.size + 1) (.int .i64 a) (.int .i64 d) 26 ∧ Blk wr w5.heap.size (.int .i64 a) (.int .i64 1) 26 ∧ Blk wr w6.heap.size (.int .i64 a) (.int .i64 m) 26 ∧ Blk wr w7.heap.size (.int .i64 a) (.int .i64 0) 26 ∧ Below w.heap.size w wr) (fun i _ => (14 - intOf i).toNat)
        case atStart => exact ⟨11, by omega, by omega, rfl, A, B, O, MM, ZZ, K⟩
        case round =>
          clear A B O MM ZZ K
          obtain ⟨k, k0, k1, rfl, A, B, O, MM, ZZ, K⟩ := hrel
          obtain ⟨A0, A1, A2⟩ := A.cells
          obtain ⟨B0, B1, B2⟩ := B.cells
          obtain ⟨O0, O1, O2⟩ := O.cells
          obtain ⟨MM0, MM1, MM2⟩ := MM.cells
          obtain ⟨ZZ0, ZZ1, ZZ2⟩ := ZZ.cells
          by_cases hk : k ≤ 13
          · have hm : 0 < m ∨ ¬ 0 < m := by omega
            have hda : a ≤ d ∨ ¬ a ≤ d := by omega
            have hsn : sg < 0 ∨ ¬ sg < 0 := by omega
            obtain rfl | rfl | rfl : k = 11 ∨ k = 12 ∨ k = 13 := by omega
            · have F := H11.out
              rcases hm with hm | hm
              · simp only [hm, if_true, if_false] at F
                have dm : decide (0 < m) = true := by simpa using hm
                rcases hda with hda | hda
                · simp only [hda, if_true, if_false, decide_eq_true_eq] at F
                  have da : decide (a ≤ d) = true := by simpa using hda
                  have G : r11 = t11 ∧ s11 = 0 := by simpa [and_assoc] using F
                  obtain ⟨rfl, rfl⟩ := G
                  clear F
                  go_wp2_with fail
                  refine (wpBin_any 11 a b a d _).mono ?_; rintro e w8 ⟨rfl, hb⟩
                  rw [S11w.out, S11n.out]
                  clear A0 A1 A2 B0 B1 B2 O0 O1 O2 MM0 MM1 MM2 ZZ0 ZZ1 ZZ2
                  replace A := A.keep hb
                  replace B := B.keep hb
                  replace O := O.keep hb
                  replace MM := MM.keep hb
                  replace ZZ := ZZ.keep hb
                  replace K := below_two K hb
                  clear hb
                  have nA : ¬ w1.heap.size = w8.heap.size := Nat.ne_of_lt A.lt
                  have nB : ¬ (w1.heap.size + 1) = w8.heap.size := Nat.ne_of_lt B.lt
                  have nO : ¬ w5.heap.size = w8.heap.size := Nat.ne_of_lt O.lt
                  have nMM : ¬ w6.heap.size = w8.heap.size := Nat.ne_of_lt MM.lt
                  have nZZ : ¬ w7.heap.size = w8.heap.size := Nat.ne_of_lt ZZ.lt
                  replace A := A.alloc (.cells #[.int .i64 a, .int .i64 0] 26)
                  replace B := B.alloc (.cells #[.int .i64 a, .int .i64 0] 26)
                  replace O := O.alloc (.cells #[.int .i64 a, .int .i64 0] 26)
                  replace MM := MM.alloc (.cells #[.int .i64 a, .int .i64 0] 26)
                  replace ZZ := ZZ.alloc (.cells #[.int .i64 a, .int .i64 0] 26)
                  replace K := below_step K (.cells #[.int .i64 a, .int .i64 0] 26)
                  have SS := blk_new w8 (.int .i64 a) (.int .i64 0) 26
                  obtain ⟨A0, A1, A2⟩ := A.cells
                  obtain ⟨B0, B1, B2⟩ := B.cells
                  obtain ⟨O0, O1, O2⟩ := O.cells
                  obtain ⟨MM0, MM1, MM2⟩ := MM.cells
                  obtain ⟨ZZ0, ZZ1, ZZ2⟩ := ZZ.cells
                  obtain ⟨SS0, SS1, SS2⟩ := SS.cells
                  go_wp2_with fail
                  clear A0 A1 A2 B0 B1 B2 O0 O1 O2 MM0 MM1 MM2 ZZ0 ZZ1 ZZ2 SS0 SS1 SS2
                  clear nA nB nO nMM nZZ
                  replace A := A.drew
                  replace B := B.drew
                  replace O := O.drew
                  replace MM := MM.drew
                  replace ZZ := ZZ.drew
                  replace SS := SS.drew
                  replace K := K.drew
                  have sS := cells6 A B O MM ZZ SS
                  first
                    | (go_region_held3 (fun wx => (wx.cell? ⟨w1.heap.size, 0, none⟩ = some (.int .i64 a) ∧ wx.cell? ⟨w1.heap.size, 1, none⟩ = some (.int .i64 b)) ∧ (wx.cell? ⟨(w1.heap.size + 1), 0, none⟩ = some (.int .i64 a) ∧ wx.cell? ⟨(w1.heap.size + 1), 1, none⟩ = some (.int .i64 d)) ∧ (wx.cell? ⟨w5.heap.size, 0, none⟩ = some (.int .i64 a) ∧ wx.cell? ⟨w5.heap.size, 1, none⟩ = some (.int .i64 1)) ∧ (wx.cell? ⟨w6.heap.size, 0, none⟩ = some (.int .i64 a) ∧ wx.cell? ⟨w6.heap.size, 1, none⟩ = some (.int .i64 m)) ∧ (wx.cell? ⟨w7.heap.size, 0, none⟩ = some (.int .i64 a) ∧ wx.cell? ⟨w7.heap.size, 1, none⟩ = some (.int .i64 0)) ∧ (wx.cell? ⟨w8.heap.size, 0, none⟩ = some (.int .i64 a) ∧ wx.cell? ⟨w8.heap.size, 1, none⟩ = some (.int .i64 0))) (first | (with_reducible assumption)) (first | (go_at_call 39; (with_reducible refine (wpBin_any 11 a b a m _).mono ?_); rintro e w9 ⟨rfl, hb⟩; rw [R11w.out, R11n.out]; replace A := A.keep hb; replace B := B.keep hb; replace O := O.keep hb; replace MM := MM.keep hb; replace ZZ := ZZ.keep hb; replace SS := SS.keep hb; replace K := below_two K hb; clear hb; replace sS := cells6 A B O MM ZZ SS) | (go_at_call 39; (with_reducible refine (wpBin_any 11 a 0 a 1 _).mono ?_); rintro e w9 ⟨rfl, hb⟩; rw [T11w.out, T11n.out]; replace A := A.keep hb; replace B := B.keep hb; replace O := O.keep hb; replace MM := MM.keep hb; replace ZZ := ZZ.keep hb; replace SS := SS.keep hb; replace K := below_two K hb; clear hb; replace sS := cells6 A B O MM ZZ SS)))
                    | fail
                  clear sS
                  obtain ⟨A0, A1, A2⟩ := A.cells
                  obtain ⟨B0, B1, B2⟩ := B.cells
                  obtain ⟨O0, O1, O2⟩ := O.cells
                  obtain ⟨MM0, MM1, MM2⟩ := MM.cells
                  obtain ⟨ZZ0, ZZ1, ZZ2⟩ := ZZ.cells
                  obtain ⟨SS0, SS1, SS2⟩ := SS.cells
                  go_wp2_with fail
                  go_quiet (fail)
                  rename_i nq
                  replace A := A.drewN nq
                  replace B := B.drewN nq
                  replace O := O.drewN nq
                  replace MM := MM.drewN nq
                  replace ZZ := ZZ.drewN nq
                  replace SS := SS.drewN nq
                  replace K := below_drewN K nq
                  go_wp2_with fail
                  clear A0 A1 A2 B0 B1 B2 O0 O1 O2 MM0 MM1 MM2 ZZ0 ZZ1 ZZ2
                  exact ⟨⟨11 + 1, by omega, by omega, by first | rfl | go_num, A, B, O, MM, ZZ, ⟨K.os, K.tape, K.output, K.size, K.block⟩⟩, by simp [intOf] <;> omega⟩
                · simp only [hda, if_true, if_false, decide_eq_true_eq] at F
                  have da : decide (a ≤ d) = false := by simpa using hda
                  have G : r11 = t11 := by simpa [and_assoc] using F
                  obtain rfl := G
                  clear F
                  go_wp2_with fail
                  refine (wpBin_any 11 a b a d _).mono ?_; rintro e w8 ⟨rfl, hb⟩
                  rw [S11w.out, S11n.out]
                  clear A0 A1 A2 B0 B1 B2 O0 O1 O2 MM0 MM1 MM2 ZZ0 ZZ1 ZZ2
                  replace A := A.keep hb
                  replace B := B.keep hb
                  replace O := O.keep hb
                  replace MM := MM.keep hb
                  replace ZZ := ZZ.keep hb
                  replace K := below_two K hb
                  clear hb
                  have nA : ¬ w1.heap.size = w8.heap.size := Nat.ne_of_lt A.lt
                  have nB : ¬ (w1.heap.size + 1) = w8.heap.size := Nat.ne_of_lt B.lt
                  have nO : ¬ w5.heap.size = w8.heap.size := Nat.ne_of_lt O.lt
                  have nMM : ¬ w6.heap.size = w8.heap.size := Nat.ne_of_lt MM.lt
                  have nZZ : ¬ w7.heap.size = w8.heap.size := Nat.ne_of_lt ZZ.lt
                  replace A := A.alloc (.cells #[.int .i64 a, .int .i64 s11] 26)
                  replace B := B.alloc (.cells #[.int .i64 a, .int .i64 s11] 26)
                  replace O := O.alloc (.cells #[.int .i64 a, .int .i64 s11] 26)
                  replace MM := MM.alloc (.cells #[.int .i64 a, .int .i64 s11] 26)
                  replace ZZ := ZZ.alloc (.cells #[.int .i64 a, .int .i64 s11] 26)
                  replace K := below_step K (.cells #[.int .i64 a, .int .i64 s11] 26)
                  have SS := blk_new w8 (.int .i64 a) (.int .i64 s11) 26
                  obtain ⟨A0, A1, A2⟩ := A.cells
                  obtain ⟨B0, B1, B2⟩ := B.cells
                  obtain ⟨O0, O1, O2⟩ := O.cells
                  obtain ⟨MM0, MM1, MM2⟩ := MM.cells
                  obtain ⟨ZZ0, ZZ1, ZZ2⟩ := ZZ.cells
                  obtain ⟨SS0, SS1, SS2⟩ := SS.cells
                  go_wp2_with fail
                  clear A0 A1 A2 B0 B1 B2 O0 O1 O2 MM0 MM1 MM2 ZZ0 ZZ1 ZZ2 SS0 SS1 SS2
                  clear nA nB nO nMM nZZ
                  replace A := A.drew
                  replace B := B.drew
                  replace O := O.drew
                  replace MM := MM.drew
                  replace ZZ := ZZ.drew
                  replace SS := SS.drew
                  replace K := K.drew
                  have sS := cells6 A B O MM ZZ SS
                  first
                    | (go_region_held3 (fun wx => (wx.cell? ⟨w1.heap.size, 0, none⟩ = some (.int .i64 a) ∧ wx.cell? ⟨w1.heap.size, 1, none⟩ = some (.int .i64 b)) ∧ (wx.cell? ⟨(w1.heap.size + 1), 0, none⟩ = some (.int .i64 a) ∧ wx.cell? ⟨(w1.heap.size + 1), 1, none⟩ = some (.int .i64 d)) ∧ (wx.cell? ⟨w5.heap.size, 0, none⟩ = some (.int .i64 a) ∧ wx.cell? ⟨w5.heap.size, 1, none⟩ = some (.int .i64 1)) ∧ (wx.cell? ⟨w6.heap.size, 0, none⟩ = some (.int .i64 a) ∧ wx.cell? ⟨w6.heap.size, 1, none⟩ = some (.int .i64 m)) ∧ (wx.cell? ⟨w7.heap.size, 0, none⟩ = some (.int .i64 a) ∧ wx.cell? ⟨w7.heap.size, 1, none⟩ = some (.int .i64 0)) ∧ (wx.cell? ⟨w8.heap.size, 0, none⟩ = some (.int .i64 a) ∧ wx.cell? ⟨w8.heap.size, 1, none⟩ = some (.int .i64 s11))) (first | (with_reducible assumption)) (first | (go_at_call 39; (with_reducible refine (wpBin_any 11 a b a m _).mono ?_); rintro e w9 ⟨rfl, hb⟩; rw [R11w.out, R11n.out]; replace A := A.keep hb; replace B := B.keep hb; replace O := O.keep hb; replace MM := MM.keep hb; replace ZZ := ZZ.keep hb; replace SS := SS.keep hb; replace K := below_two K hb; clear hb; replace sS := cells6 A B O MM ZZ SS) | (go_at_call 39; (with_reducible refine (wpBin_any 11 a s11 a 1 _).mono ?_); rintro e w9 ⟨rfl, hb⟩; rw [T11w.out, T11n.out]; replace A := A.keep hb; replace B := B.keep hb; replace O := O.keep hb; replace MM := MM.keep hb; replace ZZ := ZZ.keep hb; replace SS := SS.keep hb; replace K := below_two K hb; clear hb; replace sS := cells6 A B O MM ZZ SS)))
                    | fail
                  clear sS
                  obtain ⟨A0, A1, A2⟩ := A.cells
                  obtain ⟨B0, B1, B2⟩ := B.cells
                  obtain ⟨O0, O1, O2⟩ := O.cells
                  obtain ⟨MM0, MM1, MM2⟩ := MM.cells
                  obtain ⟨ZZ0, ZZ1, ZZ2⟩ := ZZ.cells
                  obtain ⟨SS0, SS1, SS2⟩ := SS.cells
                  go_wp2_with fail
                  go_quiet (fail)
                  rename_i nq
                  replace A := A.drewN nq
                  replace B := B.drewN nq
                  replace O := O.drewN nq
                  replace MM := MM.drewN nq
                  replace ZZ := ZZ.drewN nq
                  replace SS := SS.drewN nq
                  replace K := below_drewN K nq
                  go_wp2_with fail
                  clear A0 A1 A2 B0 B1 B2 O0 O1 O2 MM0 MM1 MM2 ZZ0 ZZ1 ZZ2
                  exact ⟨⟨11 + 1, by omega, by omega, by first | rfl | go_num, A, B, O, MM, ZZ, ⟨K.os, K.tape, K.output, K.size, K.block⟩⟩, by simp [intOf] <;> omega⟩
              · simp only [hm, if_true, if_false] at F
                have dm : decide (0 < m) = false := by simpa using hm
                rcases hda with hda | hda
                · simp only [hda, if_true, if_false, decide_eq_true_eq] at F
                  have da : decide (a ≤ d) = true := by simpa using hda
                  have G : s11 = 0 := by simpa [and_assoc] using F
                  obtain rfl := G
                  clear F
                  go_wp2_with fail
                  refine (wpBin_any 11 a b a d _).mono ?_; rintro e w8 ⟨rfl, hb⟩
                  rw [S11w.out, S11n.out]
                  clear A0 A1 A2 B0 B1 B2 O0 O1 O2 MM0 MM1 MM2 ZZ0 ZZ1 ZZ2
                  replace A := A.keep hb
                  replace B := B.keep hb
                  replace O := O.keep hb
                  replace MM := MM.keep hb
                  replace ZZ := ZZ.keep hb
                  replace K := below_two K hb
                  clear hb
                  have nA : ¬ w1.heap.size = w8.heap.size := Nat.ne_of_lt A.lt
                  have nB : ¬ (w1.heap.size + 1) = w8.heap.size := Nat.ne_of_lt B.lt
                  have nO : ¬ w5.heap.size = w8.heap.size := Nat.ne_of_lt O.lt
                  have nMM : ¬ w6.heap.size = w8.heap.size := Nat.ne_of_lt MM.lt
                  have nZZ : ¬ w7.heap.size = w8.heap.size := Nat.ne_of_lt ZZ.lt
                  replace A := A.alloc (.cells #[.int .i64 a, .int .i64 0] 26)
                  replace B := B.alloc (.cells #[.int .i64 a, .int .i64 0] 26)
                  replace O := O.alloc (.cells #[.int .i64 a, .int .i64 0] 26)
                  replace MM := MM.alloc (.cells #[.int .i64 a, .int .i64 0] 26)
                  replace ZZ := ZZ.alloc (.cells #[.int .i64 a, .int .i64 0] 26)
                  replace K := below_step K (.cells #[.int .i64 a, .int .i64 0] 26)
                  have SS := blk_new w8 (.int .i64 a) (.int .i64 0) 26
                  obtain ⟨A0, A1, A2⟩ := A.cells
                  obtain ⟨B0, B1, B2⟩ := B.cells
                  obtain ⟨O0, O1, O2⟩ := O.cells
                  obtain ⟨MM0, MM1, MM2⟩ := MM.cells
                  obtain ⟨ZZ0, ZZ1, ZZ2⟩ := ZZ.cells
                  obtain ⟨SS0, SS1, SS2⟩ := SS.cells
                  go_wp2_with fail
                  go_quiet (fail)
                  rename_i nq
                  replace A := A.drewN nq
                  replace B := B.drewN nq
                  replace O := O.drewN nq
                  replace MM := MM.drewN nq
                  replace ZZ := ZZ.drewN nq
                  replace SS := SS.drewN nq
                  replace K := below_drewN K nq
                  go_wp2_with fail
                  go_quiet (fail)
                  rename_i nq
                  replace A := A.drewN nq
                  replace B := B.drewN nq
                  replace O := O.drewN nq
                  replace MM := MM.drewN nq
                  replace ZZ := ZZ.drewN nq
                  replace SS := SS.drewN nq
                  replace K := below_drewN K nq
                  go_wp2_with fail
                  clear A0 A1 A2 B0 B1 B2 O0 O1 O2 MM0 MM1 MM2 ZZ0 ZZ1 ZZ2
                  clear nA nB nO nMM nZZ
                  exact ⟨⟨11 + 1, by omega, by omega, by first | rfl | go_num, A, B, O, MM, ZZ, ⟨K.os, K.tape, K.output, K.size, K.block⟩⟩, by simp [intOf] <;> omega⟩
                · simp only [hda, if_true, if_false, decide_eq_true_eq] at F
                  have da : decide (a ≤ d) = false := by simpa using hda
                  clear F
                  go_wp2_with fail
                  refine (wpBin_any 11 a b a d _).mono ?_; rintro e w8 ⟨rfl, hb⟩
                  rw [S11w.out, S11n.out]
                  clear A0 A1 A2 B0 B1 B2 O0 O1 O2 MM0 MM1 MM2 ZZ0 ZZ1 ZZ2
                  replace A := A.keep hb
                  replace B := B.keep hb
                  replace O := O.keep hb
                  replace MM := MM.keep hb
                  replace ZZ := ZZ.keep hb
                  replace K := below_two K hb
                  clear hb
                  have nA : ¬ w1.heap.size = w8.heap.size := Nat.ne_of_lt A.lt
                  have nB : ¬ (w1.heap.size + 1) = w8.heap.size := Nat.ne_of_lt B.lt
                  have nO : ¬ w5.heap.size = w8.heap.size := Nat.ne_of_lt O.lt
                  have nMM : ¬ w6.heap.size = w8.heap.size := Nat.ne_of_lt MM.lt
                  have nZZ : ¬ w7.heap.size = w8.heap.size := Nat.ne_of_lt ZZ.lt
                  replace A := A.alloc (.cells #[.int .i64 a, .int .i64 s11] 26)
                  replace B := B.alloc (.cells #[.int .i64 a, .int .i64 s11] 26)
                  replace O := O.alloc (.cells #[.int .i64 a, .int .i64 s11] 26)
                  replace MM := MM.alloc (.cells #[.int .i64 a, .int .i64 s11] 26)
                  replace ZZ := ZZ.alloc (.cells #[.int .i64 a, .int .i64 s11] 26)
                  replace K := below_step K (.cells #[.int .i64 a, .int .i64 s11] 26)
                  have SS := blk_new w8 (.int .i64 a) (.int .i64 s11) 26
                  obtain ⟨A0, A1, A2⟩ := A.cells
                  obtain ⟨B0, B1, B2⟩ := B.cells
                  obtain ⟨O0, O1, O2⟩ := O.cells
                  obtain ⟨MM0, MM1, MM2⟩ := MM.cells
                  obtain ⟨ZZ0, ZZ1, ZZ2⟩ := ZZ.cells
                  obtain ⟨SS0, SS1, SS2⟩ := SS.cells
                  go_wp2_with fail
                  go_quiet (fail)
                  rename_i nq
                  replace A := A.drewN nq
                  replace B := B.drewN nq
                  replace O := O.drewN nq
                  replace MM := MM.drewN nq
                  replace ZZ := ZZ.drewN nq
                  replace SS := SS.drewN nq
                  replace K := below_drewN K nq
                  go_wp2_with fail
                  go_quiet (fail)
                  rename_i nq
                  replace A := A.drewN nq
                  replace B := B.drewN nq
                  replace O := O.drewN nq
                  replace MM := MM.drewN nq
                  replace ZZ := ZZ.drewN nq
                  replace SS := SS.drewN nq
                  replace K := below_drewN K nq
                  go_wp2_with fail
                  clear A0 A1 A2 B0 B1 B2 O0 O1 O2 MM0 MM1 MM2 ZZ0 ZZ1 ZZ2
                  clear nA nB nO nMM nZZ
                  exact ⟨⟨11 + 1, by omega, by omega, by first | rfl | go_num, A, B, O, MM, ZZ, ⟨K.os, K.tape, K.output, K.size, K.block⟩⟩, by simp [intOf] <;> omega⟩
            · have F := H12.out
              rcases hm with hm | hm
              · simp only [hm, if_true, if_false] at F
                have dm : decide (0 < m) = true := by simpa using hm
                rcases hda with hda | hda
                · simp only [hda, if_true, if_false, decide_eq_true_eq] at F
                  have da : decide (a ≤ d) = true := by simpa using hda
                  have G : r12 = t12 ∧ s12 = 0 := by simpa [and_assoc] using F
                  obtain ⟨rfl, rfl⟩ := G
                  clear F
                  go_wp2_with fail
                  refine (wpBin_any 12 a b a d _).mono ?_; rintro e w8 ⟨rfl, hb⟩
                  rw [S12w.out, S12n.out]
                  clear A0 A1 A2 B0 B1 B2 O0 O1 O2 MM0 MM1 MM2 ZZ0 ZZ1 ZZ2
                  replace A := A.keep hb
                  replace B := B.keep hb
                  replace O := O.keep hb
                  replace MM := MM.keep hb
                  replace ZZ := ZZ.keep hb
                  replace K := below_two K hb
                  clear hb
                  have nA : ¬ w1.heap.size = w8.heap.size := Nat.ne_of_lt A.lt
                  have nB : ¬ (w1.heap.size + 1) = w8.heap.size := Nat.ne_of_lt B.lt
                  have nO : ¬ w5.heap.size = w8.heap.size := Nat.ne_of_lt O.lt
                  have nMM : ¬ w6.heap.size = w8.heap.size := Nat.ne_of_lt MM.lt
                  have nZZ : ¬ w7.heap.size = w8.heap.size := Nat.ne_of_lt ZZ.lt
                  replace A := A.alloc (.cells #[.int .i64 a, .int .i64 0] 26)
                  replace B := B.alloc (.cells #[.int .i64 a, .int .i64 0] 26)
                  replace O := O.alloc (.cells #[.int .i64 a, .int .i64 0] 26)
                  replace MM := MM.alloc (.cells #[.int .i64 a, .int .i64 0] 26)
                  replace ZZ := ZZ.alloc (.cells #[.int .i64 a, .int .i64 0] 26)
                  replace K := below_step K (.cells #[.int .i64 a, .int .i64 0] 26)
                  have SS := blk_new w8 (.int .i64 a) (.int .i64 0) 26
                  obtain ⟨A0, A1, A2⟩ := A.cells
                  obtain ⟨B0, B1, B2⟩ := B.cells
                  obtain ⟨O0, O1, O2⟩ := O.cells
                  obtain ⟨MM0, MM1, MM2⟩ := MM.cells
                  obtain ⟨ZZ0, ZZ1, ZZ2⟩ := ZZ.cells
                  obtain ⟨SS0, SS1, SS2⟩ := SS.cells
                  go_wp2_with fail
                  clear A0 A1 A2 B0 B1 B2 O0 O1 O2 MM0 MM1 MM2 ZZ0 ZZ1 ZZ2 SS0 SS1 SS2
                  clear nA nB nO nMM nZZ
                  replace A := A.drew
                  replace B := B.drew
                  replace O := O.drew
                  replace MM := MM.drew
                  replace ZZ := ZZ.drew
                  replace SS := SS.drew
                  replace K := K.drew
                  have sS := cells6 A B O MM ZZ SS
                  first
                    | (go_region_held3 (fun wx => (wx.cell? ⟨w1.heap.size, 0, none⟩ = some (.int .i64 a) ∧ wx.cell? ⟨w1.heap.size, 1, none⟩ = some (.int .i64 b)) ∧ (wx.cell? ⟨(w1.heap.size + 1), 0, none⟩ = some (.int .i64 a) ∧ wx.cell? ⟨(w1.heap.size + 1), 1, none⟩ = some (.int .i64 d)) ∧ (wx.cell? ⟨w5.heap.size, 0, none⟩ = some (.int .i64 a) ∧ wx.cell? ⟨w5.heap.size, 1, none⟩ = some (.int .i64 1)) ∧ (wx.cell? ⟨w6.heap.size, 0, none⟩ = some (.int .i64 a) ∧ wx.cell? ⟨w6.heap.size, 1, none⟩ = some (.int .i64 m)) ∧ (wx.cell? ⟨w7.heap.size, 0, none⟩ = some (.int .i64 a) ∧ wx.cell? ⟨w7.heap.size, 1, none⟩ = some (.int .i64 0)) ∧ (wx.cell? ⟨w8.heap.size, 0, none⟩ = some (.int .i64 a) ∧ wx.cell? ⟨w8.heap.size, 1, none⟩ = some (.int .i64 0))) (first | (with_reducible assumption)) (first | (go_at_call 39; (with_reducible refine (wpBin_any 12 a b a m _).mono ?_); rintro e w9 ⟨rfl, hb⟩; rw [R12w.out, R12n.out]; replace A := A.keep hb; replace B := B.keep hb; replace O := O.keep hb; replace MM := MM.keep hb; replace ZZ := ZZ.keep hb; replace SS := SS.keep hb; replace K := below_two K hb; clear hb; replace sS := cells6 A B O MM ZZ SS) | (go_at_call 39; (with_reducible refine (wpBin_any 12 a 0 a 1 _).mono ?_); rintro e w9 ⟨rfl, hb⟩; rw [T12w.out, T12n.out]; replace A := A.keep hb; replace B := B.keep hb; replace O := O.keep hb; replace MM := MM.keep hb; replace ZZ := ZZ.keep hb; replace SS := SS.keep hb; replace K := below_two K hb; clear hb; replace sS := cells6 A B O MM ZZ SS)))
                    | fail
                  clear sS
                  obtain ⟨A0, A1, A2⟩ := A.cells
                  obtain ⟨B0, B1, B2⟩ := B.cells
                  obtain ⟨O0, O1, O2⟩ := O.cells
                  obtain ⟨MM0, MM1, MM2⟩ := MM.cells
                  obtain ⟨ZZ0, ZZ1, ZZ2⟩ := ZZ.cells
                  obtain ⟨SS0, SS1, SS2⟩ := SS.cells
                  go_wp2_with fail
                  go_quiet (fail)
                  rename_i nq
                  replace A := A.drewN nq
                  replace B := B.drewN nq
                  replace O := O.drewN nq
                  replace MM := MM.drewN nq
                  replace ZZ := ZZ.drewN nq
                  replace SS := SS.drewN nq
                  replace K := below_drewN K nq
                  go_wp2_with fail
                  clear A0 A1 A2 B0 B1 B2 O0 O1 O2 MM0 MM1 MM2 ZZ0 ZZ1 ZZ2
                  exact ⟨⟨12 + 1, by omega, by omega, by first | rfl | go_num, A, B, O, MM, ZZ, ⟨K.os, K.tape, K.output, K.size, K.block⟩⟩, by simp [intOf] <;> omega⟩
                · simp only [hda, if_true, if_false, decide_eq_true_eq] at F
                  have da : decide (a ≤ d) = false := by simpa using hda
                  have G : r12 = t12 := by simpa [and_assoc] using F
                  obtain rfl := G
                  clear F
                  go_wp2_with fail
                  refine (wpBin_any 12 a b a d _).mono ?_; rintro e w8 ⟨rfl, hb⟩
                  rw [S12w.out, S12n.out]
                  clear A0 A1 A2 B0 B1 B2 O0 O1 O2 MM0 MM1 MM2 ZZ0 ZZ1 ZZ2
                  replace A := A.keep hb
                  replace B := B.keep hb
                  replace O := O.keep hb
                  replace MM := MM.keep hb
                  replace ZZ := ZZ.keep hb
                  replace K := below_two K hb
                  clear hb
                  have nA : ¬ w1.heap.size = w8.heap.size := Nat.ne_of_lt A.lt
                  have nB : ¬ (w1.heap.size + 1) = w8.heap.size := Nat.ne_of_lt B.lt
                  have nO : ¬ w5.heap.size = w8.heap.size := Nat.ne_of_lt O.lt
                  have nMM : ¬ w6.heap.size = w8.heap.size := Nat.ne_of_lt MM.lt
                  have nZZ : ¬ w7.heap.size = w8.heap.size := Nat.ne_of_lt ZZ.lt
                  replace A := A.alloc (.cells #[.int .i64 a, .int .i64 s12] 26)
                  replace B := B.alloc (.cells #[.int .i64 a, .int .i64 s12] 26)
                  replace O := O.alloc (.cells #[.int .i64 a, .int .i64 s12] 26)
                  replace MM := MM.alloc (.cells #[.int .i64 a, .int .i64 s12] 26)
                  replace ZZ := ZZ.alloc (.cells #[.int .i64 a, .int .i64 s12] 26)
                  replace K := below_step K (.cells #[.int .i64 a, .int .i64 s12] 26)
                  have SS := blk_new w8 (.int .i64 a) (.int .i64 s12) 26
                  obtain ⟨A0, A1, A2⟩ := A.cells
                  obtain ⟨B0, B1, B2⟩ := B.cells
                  obtain ⟨O0, O1, O2⟩ := O.cells
                  obtain ⟨MM0, MM1, MM2⟩ := MM.cells
                  obtain ⟨ZZ0, ZZ1, ZZ2⟩ := ZZ.cells
                  obtain ⟨SS0, SS1, SS2⟩ := SS.cells
                  go_wp2_with fail
                  clear A0 A1 A2 B0 B1 B2 O0 O1 O2 MM0 MM1 MM2 ZZ0 ZZ1 ZZ2 SS0 SS1 SS2
                  clear nA nB nO nMM nZZ
                  replace A := A.drew
                  replace B := B.drew
                  replace O := O.drew
                  replace MM := MM.drew
                  replace ZZ := ZZ.drew
                  replace SS := SS.drew
                  replace K := K.drew
                  have sS := cells6 A B O MM ZZ SS
                  first
                    | (go_region_held3 (fun wx => (wx.cell? ⟨w1.heap.size, 0, none⟩ = some (.int .i64 a) ∧ wx.cell? ⟨w1.heap.size, 1, none⟩ = some (.int .i64 b)) ∧ (wx.cell? ⟨(w1.heap.size + 1), 0, none⟩ = some (.int .i64 a) ∧ wx.cell? ⟨(w1.heap.size + 1), 1, none⟩ = some (.int .i64 d)) ∧ (wx.cell? ⟨w5.heap.size, 0, none⟩ = some (.int .i64 a) ∧ wx.cell? ⟨w5.heap.size, 1, none⟩ = some (.int .i64 1)) ∧ (wx.cell? ⟨w6.heap.size, 0, none⟩ = some (.int .i64 a) ∧ wx.cell? ⟨w6.heap.size, 1, none⟩ = some (.int .i64 m)) ∧ (wx.cell? ⟨w7.heap.size, 0, none⟩ = some (.int .i64 a) ∧ wx.cell? ⟨w7.heap.size, 1, none⟩ = some (.int .i64 0)) ∧ (wx.cell? ⟨w8.heap.size, 0, none⟩ = some (.int .i64 a) ∧ wx.cell? ⟨w8.heap.size, 1, none⟩ = some (.int .i64 s12))) (first | (with_reducible assumption)) (first | (go_at_call 39; (with_reducible refine (wpBin_any 12 a b a m _).mono ?_); rintro e w9 ⟨rfl, hb⟩; rw [R12w.out, R12n.out]; replace A := A.keep hb; replace B := B.keep hb; replace O := O.keep hb; replace MM := MM.keep hb; replace ZZ := ZZ.keep hb; replace SS := SS.keep hb; replace K := below_two K hb; clear hb; replace sS := cells6 A B O MM ZZ SS) | (go_at_call 39; (with_reducible refine (wpBin_any 12 a s12 a 1 _).mono ?_); rintro e w9 ⟨rfl, hb⟩; rw [T12w.out, T12n.out]; replace A := A.keep hb; replace B := B.keep hb; replace O := O.keep hb; replace MM := MM.keep hb; replace ZZ := ZZ.keep hb; replace SS := SS.keep hb; replace K := below_two K hb; clear hb; replace sS := cells6 A B O MM ZZ SS)))
                    | fail
                  clear sS
                  obtain ⟨A0, A1, A2⟩ := A.cells
                  obtain ⟨B0, B1, B2⟩ := B.cells
                  obtain ⟨O0, O1, O2⟩ := O.cells
                  obtain ⟨MM0, MM1, MM2⟩ := MM.cells
                  obtain ⟨ZZ0, ZZ1, ZZ2⟩ := ZZ.cells
                  obtain ⟨SS0, SS1, SS2⟩ := SS.cells
                  go_wp2_with fail
                  go_quiet (fail)
                  rename_i nq
                  replace A := A.drewN nq
                  replace B := B.drewN nq
                  replace O := O.drewN nq
                  replace MM := MM.drewN nq
                  replace ZZ := ZZ.drewN nq
                  replace SS := SS.drewN nq
                  replace K := below_drewN K nq
                  go_wp2_with fail
                  clear A0 A1 A2 B0 B1 B2 O0 O1 O2 MM0 MM1 MM2 ZZ0 ZZ1 ZZ2
                  exact ⟨⟨12 + 1, by omega, by omega, by first | rfl | go_num, A, B, O, MM, ZZ, ⟨K.os, K.tape, K.output, K.size, K.block⟩⟩, by simp [intOf] <;> omega⟩
              · simp only [hm, if_true, if_false] at F
                have dm : decide (0 < m) = false := by simpa using hm
                rcases hda with hda | hda
                · simp only [hda, if_true, if_false, decide_eq_true_eq] at F
                  have da : decide (a ≤ d) = true := by simpa using hda
                  have G : s12 = 0 := by simpa [and_assoc] using F
                  obtain rfl := G
                  clear F
                  go_wp2_with fail
                  refine (wpBin_any 12 a b a d _).mono ?_; rintro e w8 ⟨rfl, hb⟩
                  rw [S12w.out, S12n.out]
                  clear A0 A1 A2 B0 B1 B2 O0 O1 O2 MM0 MM1 MM2 ZZ0 ZZ1 ZZ2
                  replace A := A.keep hb
                  replace B := B.keep hb
                  replace O := O.keep hb
                  replace MM := MM.keep hb
                  replace ZZ := ZZ.keep hb
                  replace K := below_two K hb
                  clear hb
                  have nA : ¬ w1.heap.size = w8.heap.size := Nat.ne_of_lt A.lt
                  have nB : ¬ (w1.heap.size + 1) = w8.heap.size := Nat.ne_of_lt B.lt
                  have nO : ¬ w5.heap.size = w8.heap.size := Nat.ne_of_lt O.lt
                  have nMM : ¬ w6.heap.size = w8.heap.size := Nat.ne_of_lt MM.lt
                  have nZZ : ¬ w7.heap.size = w8.heap.size := Nat.ne_of_lt ZZ.lt
                  replace A := A.alloc (.cells #[.int .i64 a, .int .i64 0] 26)
                  replace B := B.alloc (.cells #[.int .i64 a, .int .i64 0] 26)
                  replace O := O.alloc (.cells #[.int .i64 a, .int .i64 0] 26)
                  replace MM := MM.alloc (.cells #[.int .i64 a, .int .i64 0] 26)
                  replace ZZ := ZZ.alloc (.cells #[.int .i64 a, .int .i64 0] 26)
                  replace K := below_step K (.cells #[.int .i64 a, .int .i64 0] 26)
                  have SS := blk_new w8 (.int .i64 a) (.int .i64 0) 26
                  obtain ⟨A0, A1, A2⟩ := A.cells
                  obtain ⟨B0, B1, B2⟩ := B.cells
                  obtain ⟨O0, O1, O2⟩ := O.cells
                  obtain ⟨MM0, MM1, MM2⟩ := MM.cells
                  obtain ⟨ZZ0, ZZ1, ZZ2⟩ := ZZ.cells
                  obtain ⟨SS0, SS1, SS2⟩ := SS.cells
                  go_wp2_with fail
                  go_quiet (fail)
                  rename_i nq
                  replace A := A.drewN nq
                  replace B := B.drewN nq
                  replace O := O.drewN nq
                  replace MM := MM.drewN nq
                  replace ZZ := ZZ.drewN nq
                  replace SS := SS.drewN nq
                  replace K := below_drewN K nq
                  go_wp2_with fail
                  go_quiet (fail)
                  rename_i nq
                  replace A := A.drewN nq
                  replace B := B.drewN nq
                  replace O := O.drewN nq
                  replace MM := MM.drewN nq
                  replace ZZ := ZZ.drewN nq
                  replace SS := SS.drewN nq
                  replace K := below_drewN K nq
                  go_wp2_with fail
                  clear A0 A1 A2 B0 B1 B2 O0 O1 O2 MM0 MM1 MM2 ZZ0 ZZ1 ZZ2
                  clear nA nB nO nMM nZZ
                  exact ⟨⟨12 + 1, by omega, by omega, by first | rfl | go_num, A, B, O, MM, ZZ, ⟨K.os, K.tape, K.output, K.size, K.block⟩⟩, by simp [intOf] <;> omega⟩
                · simp only [hda, if_true, if_false, decide_eq_true_eq] at F
                  have da : decide (a ≤ d) = false := by simpa using hda
                  clear F
                  go_wp2_with fail
                  refine (wpBin_any 12 a b a d _).mono ?_; rintro e w8 ⟨rfl, hb⟩
                  rw [S12w.out, S12n.out]
                  clear A0 A1 A2 B0 B1 B2 O0 O1 O2 MM0 MM1 MM2 ZZ0 ZZ1 ZZ2
                  replace A := A.keep hb
                  replace B := B.keep hb
                  replace O := O.keep hb
                  replace MM := MM.keep hb
                  replace ZZ := ZZ.keep hb
                  replace K := below_two K hb
                  clear hb
                  have nA : ¬ w1.heap.size = w8.heap.size := Nat.ne_of_lt A.lt
                  have nB : ¬ (w1.heap.size + 1) = w8.heap.size := Nat.ne_of_lt B.lt
                  have nO : ¬ w5.heap.size = w8.heap.size := Nat.ne_of_lt O.lt
                  have nMM : ¬ w6.heap.size = w8.heap.size := Nat.ne_of_lt MM.lt
                  have nZZ : ¬ w7.heap.size = w8.heap.size := Nat.ne_of_lt ZZ.lt
                  replace A := A.alloc (.cells #[.int .i64 a, .int .i64 s12] 26)
                  replace B := B.alloc (.cells #[.int .i64 a, .int .i64 s12] 26)
                  replace O := O.alloc (.cells #[.int .i64 a, .int .i64 s12] 26)
                  replace MM := MM.alloc (.cells #[.int .i64 a, .int .i64 s12] 26)
                  replace ZZ := ZZ.alloc (.cells #[.int .i64 a, .int .i64 s12] 26)
                  replace K := below_step K (.cells #[.int .i64 a, .int .i64 s12] 26)
                  have SS := blk_new w8 (.int .i64 a) (.int .i64 s12) 26
                  obtain ⟨A0, A1, A2⟩ := A.cells
                  obtain ⟨B0, B1, B2⟩ := B.cells
                  obtain ⟨O0, O1, O2⟩ := O.cells
                  obtain ⟨MM0, MM1, MM2⟩ := MM.cells
                  obtain ⟨ZZ0, ZZ1, ZZ2⟩ := ZZ.cells
                  obtain ⟨SS0, SS1, SS2⟩ := SS.cells
                  go_wp2_with fail
                  go_quiet (fail)
                  rename_i nq
                  replace A := A.drewN nq
                  replace B := B.drewN nq
                  replace O := O.drewN nq
                  replace MM := MM.drewN nq
                  replace ZZ := ZZ.drewN nq
                  replace SS := SS.drewN nq
                  replace K := below_drewN K nq
                  go_wp2_with fail
                  go_quiet (fail)
                  rename_i nq
                  replace A := A.drewN nq
                  replace B := B.drewN nq
                  replace O := O.drewN nq
                  replace MM := MM.drewN nq
                  replace ZZ := ZZ.drewN nq
                  replace SS := SS.drewN nq
                  replace K := below_drewN K nq
                  go_wp2_with fail
                  clear A0 A1 A2 B0 B1 B2 O0 O1 O2 MM0 MM1 MM2 ZZ0 ZZ1 ZZ2
                  clear nA nB nO nMM nZZ
                  exact ⟨⟨12 + 1, by omega, by omega, by first | rfl | go_num, A, B, O, MM, ZZ, ⟨K.os, K.tape, K.output, K.size, K.block⟩⟩, by simp [intOf] <;> omega⟩
            · have F := H13.out
              rcases hm with hm | hm
              · simp only [hm, if_true, if_false] at F
                have dm : decide (0 < m) = true := by simpa using hm
                rcases hda with hda | hda
                · simp only [hda, if_true, if_false, decide_eq_true_eq] at F
                  have da : decide (a ≤ d) = true := by simpa using hda
                  rcases hsn with hsn | hsn
                  · simp only [hsn, if_true, if_false, Bool.and_eq_true, decide_eq_true_eq] at F
                    have dn : decide (0 ≤ sg) = false := by simp; omega
                    have G : r13 = t13 ∧ s13 = nz ∧ ¬ nz = 0 := by simpa [and_assoc] using F
                    obtain ⟨rfl, rfl, g2⟩ := G
                    have g3 : (s13 == 0) = false := by simpa using g2
                    clear g2
                    clear F
                    go_wp2_with fail
                    refine (wpBin_any 13 a b a d _).mono ?_; rintro e w8 ⟨rfl, hb⟩
                    rw [S13w.out, S13n.out]
                    clear A0 A1 A2 B0 B1 B2 O0 O1 O2 MM0 MM1 MM2 ZZ0 ZZ1 ZZ2
                    replace A := A.keep hb
                    replace B := B.keep hb
                    replace O := O.keep hb
                    replace MM := MM.keep hb
                    replace ZZ := ZZ.keep hb
                    replace K := below_two K hb
                    clear hb
                    have nA : ¬ w1.heap.size = w8.heap.size := Nat.ne_of_lt A.lt
                    have nB : ¬ (w1.heap.size + 1) = w8.heap.size := Nat.ne_of_lt B.lt
                    have nO : ¬ w5.heap.size = w8.heap.size := Nat.ne_of_lt O.lt
                    have nMM : ¬ w6.heap.size = w8.heap.size := Nat.ne_of_lt MM.lt
                    have nZZ : ¬ w7.heap.size = w8.heap.size := Nat.ne_of_lt ZZ.lt
                    replace A := A.alloc (.cells #[.int .i64 a, .int .i64 s13] 26)
                    replace B := B.alloc (.cells #[.int .i64 a, .int .i64 s13] 26)
                    replace O := O.alloc (.cells #[.int .i64 a, .int .i64 s13] 26)
                    replace MM := MM.alloc (.cells #[.int .i64 a, .int .i64 s13] 26)
                    replace ZZ := ZZ.alloc (.cells #[.int .i64 a, .int .i64 s13] 26)
                    replace K := below_step K (.cells #[.int .i64 a, .int .i64 s13] 26)
                    have SS := blk_new w8 (.int .i64 a) (.int .i64 s13) 26
                    obtain ⟨A0, A1, A2⟩ := A.cells
                    obtain ⟨B0, B1, B2⟩ := B.cells
                    obtain ⟨O0, O1, O2⟩ := O.cells
                    obtain ⟨MM0, MM1, MM2⟩ := MM.cells
                    obtain ⟨ZZ0, ZZ1, ZZ2⟩ := ZZ.cells
                    obtain ⟨SS0, SS1, SS2⟩ := SS.cells
                    go_wp2_with fail
                    clear A0 A1 A2 B0 B1 B2 O0 O1 O2 MM0 MM1 MM2 ZZ0 ZZ1 ZZ2 SS0 SS1 SS2
                    clear nA nB nO nMM nZZ
                    replace A := A.drew
                    replace B := B.drew
                    replace O := O.drew
                    replace MM := MM.drew
                    replace ZZ := ZZ.drew
                    replace SS := SS.drew
                    replace K := K.drew
                    have sS := cells6 A B O MM ZZ SS
                    first
                      | (go_region_held3 (fun wx => (wx.cell? ⟨w1.heap.size, 0, none⟩ = some (.int .i64 a) ∧ wx.cell? ⟨w1.heap.size, 1, none⟩ = some (.int .i64 b)) ∧ (wx.cell? ⟨(w1.heap.size + 1), 0, none⟩ = some (.int .i64 a) ∧ wx.cell? ⟨(w1.heap.size + 1), 1, none⟩ = some (.int .i64 d)) ∧ (wx.cell? ⟨w5.heap.size, 0, none⟩ = some (.int .i64 a) ∧ wx.cell? ⟨w5.heap.size, 1, none⟩ = some (.int .i64 1)) ∧ (wx.cell? ⟨w6.heap.size, 0, none⟩ = some (.int .i64 a) ∧ wx.cell? ⟨w6.heap.size, 1, none⟩ = some (.int .i64 m)) ∧ (wx.cell? ⟨w7.heap.size, 0, none⟩ = some (.int .i64 a) ∧ wx.cell? ⟨w7.heap.size, 1, none⟩ = some (.int .i64 0)) ∧ (wx.cell? ⟨w8.heap.size, 0, none⟩ = some (.int .i64 a) ∧ wx.cell? ⟨w8.heap.size, 1, none⟩ = some (.int .i64 s13))) (first | (with_reducible assumption)) (first | (go_at_call 39; (with_reducible refine (wpBin_any 13 a b a m _).mono ?_); rintro e w9 ⟨rfl, hb⟩; rw [R13w.out, R13n.out]; replace A := A.keep hb; replace B := B.keep hb; replace O := O.keep hb; replace MM := MM.keep hb; replace ZZ := ZZ.keep hb; replace SS := SS.keep hb; replace K := below_two K hb; clear hb; replace sS := cells6 A B O MM ZZ SS) | (go_at_call 39; (with_reducible refine (wpBin_any 13 a s13 a 1 _).mono ?_); rintro e w9 ⟨rfl, hb⟩; rw [T13w.out, T13n.out]; replace A := A.keep hb; replace B := B.keep hb; replace O := O.keep hb; replace MM := MM.keep hb; replace ZZ := ZZ.keep hb; replace SS := SS.keep hb; replace K := below_two K hb; clear hb; replace sS := cells6 A B O MM ZZ SS)))
                      | fail
                    clear sS
                    obtain ⟨A0, A1, A2⟩ := A.cells
                    obtain ⟨B0, B1, B2⟩ := B.cells
                    obtain ⟨O0, O1, O2⟩ := O.cells
                    obtain ⟨MM0, MM1, MM2⟩ := MM.cells
                    obtain ⟨ZZ0, ZZ1, ZZ2⟩ := ZZ.cells
                    obtain ⟨SS0, SS1, SS2⟩ := SS.cells
                    go_wp2_with fail
                    clear A0 A1 A2 B0 B1 B2 O0 O1 O2 MM0 MM1 MM2 ZZ0 ZZ1 ZZ2 SS0 SS1 SS2
                    replace A := A.drew
                    replace B := B.drew
                    replace O := O.drew
                    replace MM := MM.drew
                    replace ZZ := ZZ.drew
                    replace SS := SS.drew
                    replace K := K.drew
                    have sS := cells6 A B O MM ZZ SS
                    first
                      | (go_region_held3 (fun wx => (wx.cell? ⟨w1.heap.size, 0, none⟩ = some (.int .i64 a) ∧ wx.cell? ⟨w1.heap.size, 1, none⟩ = some (.int .i64 b)) ∧ (wx.cell? ⟨(w1.heap.size + 1), 0, none⟩ = some (.int .i64 a) ∧ wx.cell? ⟨(w1.heap.size + 1), 1, none⟩ = some (.int .i64 d)) ∧ (wx.cell? ⟨w5.heap.size, 0, none⟩ = some (.int .i64 a) ∧ wx.cell? ⟨w5.heap.size, 1, none⟩ = some (.int .i64 1)) ∧ (wx.cell? ⟨w6.heap.size, 0, none⟩ = some (.int .i64 a) ∧ wx.cell? ⟨w6.heap.size, 1, none⟩ = some (.int .i64 m)) ∧ (wx.cell? ⟨w7.heap.size, 0, none⟩ = some (.int .i64 a) ∧ wx.cell? ⟨w7.heap.size, 1, none⟩ = some (.int .i64 0)) ∧ (wx.cell? ⟨w8.heap.size, 0, none⟩ = some (.int .i64 a) ∧ wx.cell? ⟨w8.heap.size, 1, none⟩ = some (.int .i64 s13))) (first | (with_reducible assumption)) (first | (go_at_call 28; (with_reducible refine (vecSigned_impl a b _).mono ?_); rintro e w10 ⟨rfl, hb⟩; rw [SG.out]; replace A := A.keep hb; replace B := B.keep hb; replace O := O.keep hb; replace MM := MM.keep hb; replace ZZ := ZZ.keep hb; replace SS := SS.keep hb; replace K := below_two K hb; clear hb; replace sS := cells6 A B O MM ZZ SS) | (go_at_call 43; (with_reducible refine (wpUn_any 1 a 0 _).mono ?_); rintro e w10 ⟨rfl, hb⟩; rw [Nw.out, Nn.out]; replace A := A.keep hb; replace B := B.keep hb; replace O := O.keep hb; replace MM := MM.keep hb; replace ZZ := ZZ.keep hb; replace SS := SS.keep hb; replace K := below_two K hb; clear hb; replace sS := cells6 A B O MM ZZ SS)))
                      | fail
                    clear sS
                    obtain ⟨A0, A1, A2⟩ := A.cells
                    obtain ⟨B0, B1, B2⟩ := B.cells
                    obtain ⟨O0, O1, O2⟩ := O.cells
                    obtain ⟨MM0, MM1, MM2⟩ := MM.cells
                    obtain ⟨ZZ0, ZZ1, ZZ2⟩ := ZZ.cells
                    obtain ⟨SS0, SS1, SS2⟩ := SS.cells
                    go_wp2_with fail
                    clear A0 A1 A2 B0 B1 B2 O0 O1 O2 MM0 MM1 MM2 ZZ0 ZZ1 ZZ2
                    exact ⟨⟨13 + 1, by omega, by omega, by first | rfl | go_num, A, B, O, MM, ZZ, ⟨K.os, K.tape, K.output, K.size, K.block⟩⟩, by simp [intOf] <;> omega⟩
                  · simp only [hsn, if_true, if_false, Bool.and_eq_true, decide_eq_true_eq] at F
                    have dn : decide (0 ≤ sg) = true := by simp; omega
                    have G : r13 = t13 ∧ s13 = 0 := by simpa [and_assoc] using F
                    obtain ⟨rfl, rfl⟩ := G
                    clear F
                    go_wp2_with fail
                    refine (wpBin_any 13 a b a d _).mono ?_; rintro e w8 ⟨rfl, hb⟩
                    rw [S13w.out, S13n.out]
                    clear A0 A1 A2 B0 B1 B2 O0 O1 O2 MM0 MM1 MM2 ZZ0 ZZ1 ZZ2
                    replace A := A.keep hb
                    replace B := B.keep hb
                    replace O := O.keep hb
                    replace MM := MM.keep hb
                    replace ZZ := ZZ.keep hb
                    replace K := below_two K hb
                    clear hb
                    have nA : ¬ w1.heap.size = w8.heap.size := Nat.ne_of_lt A.lt
                    have nB : ¬ (w1.heap.size + 1) = w8.heap.size := Nat.ne_of_lt B.lt
                    have nO : ¬ w5.heap.size = w8.heap.size := Nat.ne_of_lt O.lt
                    have nMM : ¬ w6.heap.size = w8.heap.size := Nat.ne_of_lt MM.lt
                    have nZZ : ¬ w7.heap.size = w8.heap.size := Nat.ne_of_lt ZZ.lt
                    replace A := A.alloc (.cells #[.int .i64 a, .int .i64 0] 26)
                    replace B := B.alloc (.cells #[.int .i64 a, .int .i64 0] 26)
                    replace O := O.alloc (.cells #[.int .i64 a, .int .i64 0] 26)
                    replace MM := MM.alloc (.cells #[.int .i64 a, .int .i64 0] 26)
                    replace ZZ := ZZ.alloc (.cells #[.int .i64 a, .int .i64 0] 26)
                    replace K := below_step K (.cells #[.int .i64 a, .int .i64 0] 26)
                    have SS := blk_new w8 (.int .i64 a) (.int .i64 0) 26
                    obtain ⟨A0, A1, A2⟩ := A.cells
                    obtain ⟨B0, B1, B2⟩ := B.cells
                    obtain ⟨O0, O1, O2⟩ := O.cells
                    obtain ⟨MM0, MM1, MM2⟩ := MM.cells
                    obtain ⟨ZZ0, ZZ1, ZZ2⟩ := ZZ.cells
                    obtain ⟨SS0, SS1, SS2⟩ := SS.cells
                    go_wp2_with fail
                    clear A0 A1 A2 B0 B1 B2 O0 O1 O2 MM0 MM1 MM2 ZZ0 ZZ1 ZZ2 SS0 SS1 SS2
                    clear nA nB nO nMM nZZ
                    replace A := A.drew
                    replace B := B.drew
                    replace O := O.drew
                    replace MM := MM.drew
                    replace ZZ := ZZ.drew
                    replace SS := SS.drew
                    replace K := K.drew
                    have sS := cells6 A B O MM ZZ SS
                    first
                      | (go_region_held3 (fun wx => (wx.cell? ⟨w1.heap.size, 0, none⟩ = some (.int .i64 a) ∧ wx.cell? ⟨w1.heap.size, 1, none⟩ = some (.int .i64 b)) ∧ (wx.cell? ⟨(w1.heap.size + 1), 0, none⟩ = some (.int .i64 a) ∧ wx.cell? ⟨(w1.heap.size + 1), 1, none⟩ = some (.int .i64 d)) ∧ (wx.cell? ⟨w5.heap.size, 0, none⟩ = some (.int .i64 a) ∧ wx.cell? ⟨w5.heap.size, 1, none⟩ = some (.int .i64 1)) ∧ (wx.cell? ⟨w6.heap.size, 0, none⟩ = some (.int .i64 a) ∧ wx.cell? ⟨w6.heap.size, 1, none⟩ = some (.int .i64 m)) ∧ (wx.cell? ⟨w7.heap.size, 0, none⟩ = some (.int .i64 a) ∧ wx.cell? ⟨w7.heap.size, 1, none⟩ = some (.int .i64 0)) ∧ (wx.cell? ⟨w8.heap.size, 0, none⟩ = some (.int .i64 a) ∧ wx.cell? ⟨w8.heap.size, 1, none⟩ = some (.int .i64 0))) (first | (with_reducible assumption)) (first | (go_at_call 39; (with_reducible refine (wpBin_any 13 a b a m _).mono ?_); rintro e w9 ⟨rfl, hb⟩; rw [R13w.out, R13n.out]; replace A := A.keep hb; replace B := B.keep hb; replace O := O.keep hb; replace MM := MM.keep hb; replace ZZ := ZZ.keep hb; replace SS := SS.keep hb; replace K := below_two K hb; clear hb; replace sS := cells6 A B O MM ZZ SS) | (go_at_call 39; (with_reducible refine (wpBin_any 13 a 0 a 1 _).mono ?_); rintro e w9 ⟨rfl, hb⟩; rw [T13w.out, T13n.out]; replace A := A.keep hb; replace B := B.keep hb; replace O := O.keep hb; replace MM := MM.keep hb; replace ZZ := ZZ.keep hb; replace SS := SS.keep hb; replace K := below_two K hb; clear hb; replace sS := cells6 A B O MM ZZ SS)))
                      | fail
                    clear sS
                    obtain ⟨A0, A1, A2⟩ := A.cells
                    obtain ⟨B0, B1, B2⟩ := B.cells
                    obtain ⟨O0, O1, O2⟩ := O.cells
                    obtain ⟨MM0, MM1, MM2⟩ := MM.cells
                    obtain ⟨ZZ0, ZZ1, ZZ2⟩ := ZZ.cells
                    obtain ⟨SS0, SS1, SS2⟩ := SS.cells
                    go_wp2_with fail
                    go_quiet (fail)
                    rename_i nq
                    replace A := A.drewN nq
                    replace B := B.drewN nq
                    replace O := O.drewN nq
                    replace MM := MM.drewN nq
                    replace ZZ := ZZ.drewN nq
                    replace SS := SS.drewN nq
                    replace K := below_drewN K nq
                    go_wp2_with fail
                    clear A0 A1 A2 B0 B1 B2 O0 O1 O2 MM0 MM1 MM2 ZZ0 ZZ1 ZZ2
                    exact ⟨⟨13 + 1, by omega, by omega, by first | rfl | go_num, A, B, O, MM, ZZ, ⟨K.os, K.tape, K.output, K.size, K.block⟩⟩, by simp [intOf] <;> omega⟩
                · simp only [hda, if_true, if_false, decide_eq_true_eq] at F
                  have da : decide (a ≤ d) = false := by simpa using hda
                  have G : r13 = t13 := by simpa [and_assoc] using F
                  obtain rfl := G
                  clear F
                  go_wp2_with fail
                  refine (wpBin_any 13 a b a d _).mono ?_; rintro e w8 ⟨rfl, hb⟩
                  rw [S13w.out, S13n.out]
                  clear A0 A1 A2 B0 B1 B2 O0 O1 O2 MM0 MM1 MM2 ZZ0 ZZ1 ZZ2
                  replace A := A.keep hb
                  replace B := B.keep hb
                  replace O := O.keep hb
                  replace MM := MM.keep hb
                  replace ZZ := ZZ.keep hb
                  replace K := below_two K hb
                  clear hb
                  have nA : ¬ w1.heap.size = w8.heap.size := Nat.ne_of_lt A.lt
                  have nB : ¬ (w1.heap.size + 1) = w8.heap.size := Nat.ne_of_lt B.lt
                  have nO : ¬ w5.heap.size = w8.heap.size := Nat.ne_of_lt O.lt
                  have nMM : ¬ w6.heap.size = w8.heap.size := Nat.ne_of_lt MM.lt
                  have nZZ : ¬ w7.heap.size = w8.heap.size := Nat.ne_of_lt ZZ.lt
                  replace A := A.alloc (.cells #[.int .i64 a, .int .i64 s13] 26)
                  replace B := B.alloc (.cells #[.int .i64 a, .int .i64 s13] 26)
                  replace O := O.alloc (.cells #[.int .i64 a, .int .i64 s13] 26)
                  replace MM := MM.alloc (.cells #[.int .i64 a, .int .i64 s13] 26)
                  replace ZZ := ZZ.alloc (.cells #[.int .i64 a, .int .i64 s13] 26)
                  replace K := below_step K (.cells #[.int .i64 a, .int .i64 s13] 26)
                  have SS := blk_new w8 (.int .i64 a) (.int .i64 s13) 26
                  obtain ⟨A0, A1, A2⟩ := A.cells
                  obtain ⟨B0, B1, B2⟩ := B.cells
                  obtain ⟨O0, O1, O2⟩ := O.cells
                  obtain ⟨MM0, MM1, MM2⟩ := MM.cells
                  obtain ⟨ZZ0, ZZ1, ZZ2⟩ := ZZ.cells
                  obtain ⟨SS0, SS1, SS2⟩ := SS.cells
                  go_wp2_with fail
                  clear A0 A1 A2 B0 B1 B2 O0 O1 O2 MM0 MM1 MM2 ZZ0 ZZ1 ZZ2 SS0 SS1 SS2
                  clear nA nB nO nMM nZZ
                  replace A := A.drew
                  replace B := B.drew
                  replace O := O.drew
                  replace MM := MM.drew
                  replace ZZ := ZZ.drew
                  replace SS := SS.drew
                  replace K := K.drew
                  have sS := cells6 A B O MM ZZ SS
                  first
                    | (go_region_held3 (fun wx => (wx.cell? ⟨w1.heap.size, 0, none⟩ = some (.int .i64 a) ∧ wx.cell? ⟨w1.heap.size, 1, none⟩ = some (.int .i64 b)) ∧ (wx.cell? ⟨(w1.heap.size + 1), 0, none⟩ = some (.int .i64 a) ∧ wx.cell? ⟨(w1.heap.size + 1), 1, none⟩ = some (.int .i64 d)) ∧ (wx.cell? ⟨w5.heap.size, 0, none⟩ = some (.int .i64 a) ∧ wx.cell? ⟨w5.heap.size, 1, none⟩ = some (.int .i64 1)) ∧ (wx.cell? ⟨w6.heap.size, 0, none⟩ = some (.int .i64 a) ∧ wx.cell? ⟨w6.heap.size, 1, none⟩ = some (.int .i64 m)) ∧ (wx.cell? ⟨w7.heap.size, 0, none⟩ = some (.int .i64 a) ∧ wx.cell? ⟨w7.heap.size, 1, none⟩ = some (.int .i64 0)) ∧ (wx.cell? ⟨w8.heap.size, 0, none⟩ = some (.int .i64 a) ∧ wx.cell? ⟨w8.heap.size, 1, none⟩ = some (.int .i64 s13))) (first | (with_reducible assumption)) (first | (go_at_call 39; (with_reducible refine (wpBin_any 13 a b a m _).mono ?_); rintro e w9 ⟨rfl, hb⟩; rw [R13w.out, R13n.out]; replace A := A.keep hb; replace B := B.keep hb; replace O := O.keep hb; replace MM := MM.keep hb; replace ZZ := ZZ.keep hb; replace SS := SS.keep hb; replace K := below_two K hb; clear hb; replace sS := cells6 A B O MM ZZ SS) | (go_at_call 39; (with_reducible refine (wpBin_any 13 a s13 a 1 _).mono ?_); rintro e w9 ⟨rfl, hb⟩; rw [T13w.out, T13n.out]; replace A := A.keep hb; replace B := B.keep hb; replace O := O.keep hb; replace MM := MM.keep hb; replace ZZ := ZZ.keep hb; replace SS := SS.keep hb; replace K := below_two K hb; clear hb; replace sS := cells6 A B O MM ZZ SS)))
                    | fail
                  clear sS
                  obtain ⟨A0, A1, A2⟩ := A.cells
                  obtain ⟨B0, B1, B2⟩ := B.cells
                  obtain ⟨O0, O1, O2⟩ := O.cells
                  obtain ⟨MM0, MM1, MM2⟩ := MM.cells
                  obtain ⟨ZZ0, ZZ1, ZZ2⟩ := ZZ.cells
                  obtain ⟨SS0, SS1, SS2⟩ := SS.cells
                  go_wp2_with fail
                  go_quiet (fail)
                  rename_i nq
                  replace A := A.drewN nq
                  replace B := B.drewN nq
                  replace O := O.drewN nq
                  replace MM := MM.drewN nq
                  replace ZZ := ZZ.drewN nq
                  replace SS := SS.drewN nq
                  replace K := below_drewN K nq
                  go_wp2_with fail
                  clear A0 A1 A2 B0 B1 B2 O0 O1 O2 MM0 MM1 MM2 ZZ0 ZZ1 ZZ2
                  exact ⟨⟨13 + 1, by omega, by omega, by first | rfl | go_num, A, B, O, MM, ZZ, ⟨K.os, K.tape, K.output, K.size, K.block⟩⟩, by simp [intOf] <;> omega⟩
              · simp only [hm, if_true, if_false] at F
                have dm : decide (0 < m) = false := by simpa using hm
                rcases hda with hda | hda
                · simp only [hda, if_true, if_false, decide_eq_true_eq] at F
                  have da : decide (a ≤ d) = true := by simpa using hda
                  rcases hsn with hsn | hsn
                  · simp only [hsn, if_true, if_false, Bool.and_eq_true, decide_eq_true_eq] at F
                    have dn : decide (0 ≤ sg) = false := by simp; omega
                    have G : s13 = nz ∧ ¬ nz = 0 := by simpa [and_assoc] using F
                    obtain ⟨rfl, g2⟩ := G
                    have g3 : (s13 == 0) = false := by simpa using g2
                    clear g2
                    clear F
                    go_wp2_with fail
                    refine (wpBin_any 13 a b a d _).mono ?_; rintro e w8 ⟨rfl, hb⟩
                    rw [S13w.out, S13n.out]
                    clear A0 A1 A2 B0 B1 B2 O0 O1 O2 MM0 MM1 MM2 ZZ0 ZZ1 ZZ2
                    replace A := A.keep hb
                    replace B := B.keep hb
                    replace O := O.keep hb
                    replace MM := MM.keep hb
                    replace ZZ := ZZ.keep hb
                    replace K := below_two K hb
                    clear hb
                    have nA : ¬ w1.heap.size = w8.heap.size := Nat.ne_of_lt A.lt
                    have nB : ¬ (w1.heap.size + 1) = w8.heap.size := Nat.ne_of_lt B.lt
                    have nO : ¬ w5.heap.size = w8.heap.size := Nat.ne_of_lt O.lt
                    have nMM : ¬ w6.heap.size = w8.heap.size := Nat.ne_of_lt MM.lt
                    have nZZ : ¬ w7.heap.size = w8.heap.size := Nat.ne_of_lt ZZ.lt
                    replace A := A.alloc (.cells #[.int .i64 a, .int .i64 s13] 26)
                    replace B := B.alloc (.cells #[.int .i64 a, .int .i64 s13] 26)
                    replace O := O.alloc (.cells #[.int .i64 a, .int .i64 s13] 26)
                    replace MM := MM.alloc (.cells #[.int .i64 a, .int .i64 s13] 26)
                    replace ZZ := ZZ.alloc (.cells #[.int .i64 a, .int .i64 s13] 26)
                    replace K := below_step K (.cells #[.int .i64 a, .int .i64 s13] 26)
                    have SS := blk_new w8 (.int .i64 a) (.int .i64 s13) 26
                    obtain ⟨A0, A1, A2⟩ := A.cells
                    obtain ⟨B0, B1, B2⟩ := B.cells
                    obtain ⟨O0, O1, O2⟩ := O.cells
                    obtain ⟨MM0, MM1, MM2⟩ := MM.cells
                    obtain ⟨ZZ0, ZZ1, ZZ2⟩ := ZZ.cells
                    obtain ⟨SS0, SS1, SS2⟩ := SS.cells
                    go_wp2_with fail
                    go_quiet (fail)
                    rename_i nq
                    replace A := A.drewN nq
                    replace B := B.drewN nq
                    replace O := O.drewN nq
                    replace MM := MM.drewN nq
                    replace ZZ := ZZ.drewN nq
                    replace SS := SS.drewN nq
                    replace K := below_drewN K nq
                    go_wp2_with fail
                    clear A0 A1 A2 B0 B1 B2 O0 O1 O2 MM0 MM1 MM2 ZZ0 ZZ1 ZZ2 SS0 SS1 SS2
                    clear nA nB nO nMM nZZ
                    replace A := A.drew
                    replace B := B.drew
                    replace O := O.drew
                    replace MM := MM.drew
                    replace ZZ := ZZ.drew
                    replace SS := SS.drew
                    replace K := K.drew
                    have sS := cells6 A B O MM ZZ SS
                    first
                      | (go_region_held3 (fun wx => (wx.cell? ⟨w1.heap.size, 0, none⟩ = some (.int .i64 a) ∧ wx.cell? ⟨w1.heap.size, 1, none⟩ = some (.int .i64 b)) ∧ (wx.cell? ⟨(w1.heap.size + 1), 0, none⟩ = some (.int .i64 a) ∧ wx.cell? ⟨(w1.heap.size + 1), 1, none⟩ = some (.int .i64 d)) ∧ (wx.cell? ⟨w5.heap.size, 0, none⟩ = some (.int .i64 a) ∧ wx.cell? ⟨w5.heap.size, 1, none⟩ = some (.int .i64 1)) ∧ (wx.cell? ⟨w6.heap.size, 0, none⟩ = some (.int .i64 a) ∧ wx.cell? ⟨w6.heap.size, 1, none⟩ = some (.int .i64 m)) ∧ (wx.cell? ⟨w7.heap.size, 0, none⟩ = some (.int .i64 a) ∧ wx.cell? ⟨w7.heap.size, 1, none⟩ = some (.int .i64 0)) ∧ (wx.cell? ⟨w8.heap.size, 0, none⟩ = some (.int .i64 a) ∧ wx.cell? ⟨w8.heap.size, 1, none⟩ = some (.int .i64 s13))) (first | (with_reducible assumption)) (first | (go_at_call 28; (with_reducible refine (vecSigned_impl a b _).mono ?_); rintro e w9 ⟨rfl, hb⟩; rw [SG.out]; replace A := A.keep hb; replace B := B.keep hb; replace O := O.keep hb; replace MM := MM.keep hb; replace ZZ := ZZ.keep hb; replace SS := SS.keep hb; replace K := below_two K hb; clear hb; replace sS := cells6 A B O MM ZZ SS) | (go_at_call 43; (with_reducible refine (wpUn_any 1 a 0 _).mono ?_); rintro e w9 ⟨rfl, hb⟩; rw [Nw.out, Nn.out]; replace A := A.keep hb; replace B := B.keep hb; replace O := O.keep hb; replace MM := MM.keep hb; replace ZZ := ZZ.keep hb; replace SS := SS.keep hb; replace K := below_two K hb; clear hb; replace sS := cells6 A B O MM ZZ SS)))
                      | fail
                    clear sS
                    obtain ⟨A0, A1, A2⟩ := A.cells
                    obtain ⟨B0, B1, B2⟩ := B.cells
                    obtain ⟨O0, O1, O2⟩ := O.cells
                    obtain ⟨MM0, MM1, MM2⟩ := MM.cells
                    obtain ⟨ZZ0, ZZ1, ZZ2⟩ := ZZ.cells
                    obtain ⟨SS0, SS1, SS2⟩ := SS.cells
                    go_wp2_with fail
                    clear A0 A1 A2 B0 B1 B2 O0 O1 O2 MM0 MM1 MM2 ZZ0 ZZ1 ZZ2
                    exact ⟨⟨13 + 1, by omega, by omega, by first | rfl | go_num, A, B, O, MM, ZZ, ⟨K.os, K.tape, K.output, K.size, K.block⟩⟩, by simp [intOf] <;> omega⟩
                  · simp only [hsn, if_true, if_false, Bool.and_eq_true, decide_eq_true_eq] at F
                    have dn : decide (0 ≤ sg) = true := by simp; omega
                    have G : s13 = 0 := by simpa [and_assoc] using F
                    obtain rfl := G
                    clear F
                    go_wp2_with fail
                    refine (wpBin_any 13 a b a d _).mono ?_; rintro e w8 ⟨rfl, hb⟩
                    rw [S13w.out, S13n.out]
                    clear A0 A1 A2 B0 B1 B2 O0 O1 O2 MM0 MM1 MM2 ZZ0 ZZ1 ZZ2
                    replace A := A.keep hb
                    replace B := B.keep hb
                    replace O := O.keep hb
                    replace MM := MM.keep hb
                    replace ZZ := ZZ.keep hb
                    replace K := below_two K hb
                    clear hb
                    have nA : ¬ w1.heap.size = w8.heap.size := Nat.ne_of_lt A.lt
                    have nB : ¬ (w1.heap.size + 1) = w8.heap.size := Nat.ne_of_lt B.lt
                    have nO : ¬ w5.heap.size = w8.heap.size := Nat.ne_of_lt O.lt
                    have nMM : ¬ w6.heap.size = w8.heap.size := Nat.ne_of_lt MM.lt
                    have nZZ : ¬ w7.heap.size = w8.heap.size := Nat.ne_of_lt ZZ.lt
                    replace A := A.alloc (.cells #[.int .i64 a, .int .i64 0] 26)
                    replace B := B.alloc (.cells #[.int .i64 a, .int .i64 0] 26)
                    replace O := O.alloc (.cells #[.int .i64 a, .int .i64 0] 26)
                    replace MM := MM.alloc (.cells #[.int .i64 a, .int .i64 0] 26)
                    replace ZZ := ZZ.alloc (.cells #[.int .i64 a, .int .i64 0] 26)
                    replace K := below_step K (.cells #[.int .i64 a, .int .i64 0] 26)
                    have SS := blk_new w8 (.int .i64 a) (.int .i64 0) 26
                    obtain ⟨A0, A1, A2⟩ := A.cells
                    obtain ⟨B0, B1, B2⟩ := B.cells
                    obtain ⟨O0, O1, O2⟩ := O.cells
                    obtain ⟨MM0, MM1, MM2⟩ := MM.cells
                    obtain ⟨ZZ0, ZZ1, ZZ2⟩ := ZZ.cells
                    obtain ⟨SS0, SS1, SS2⟩ := SS.cells
                    go_wp2_with fail
                    go_quiet (fail)
                    rename_i nq
                    replace A := A.drewN nq
                    replace B := B.drewN nq
                    replace O := O.drewN nq
                    replace MM := MM.drewN nq
                    replace ZZ := ZZ.drewN nq
                    replace SS := SS.drewN nq
                    replace K := below_drewN K nq
                    go_wp2_with fail
                    go_quiet (fail)
                    rename_i nq
                    replace A := A.drewN nq
                    replace B := B.drewN nq
                    replace O := O.drewN nq
                    replace MM := MM.drewN nq
                    replace ZZ := ZZ.drewN nq
                    replace SS := SS.drewN nq
                    replace K := below_drewN K nq
                    go_wp2_with fail
                    clear A0 A1 A2 B0 B1 B2 O0 O1 O2 MM0 MM1 MM2 ZZ0 ZZ1 ZZ2
                    clear nA nB nO nMM nZZ
                    exact ⟨⟨13 + 1, by omega, by omega, by first | rfl | go_num, A, B, O, MM, ZZ, ⟨K.os, K.tape, K.output, K.size, K.block⟩⟩, by simp [intOf] <;> omega⟩
                · simp only [hda, if_true, if_false, decide_eq_true_eq] at F
                  have da : decide (a ≤ d) = false := by simpa using hda
                  clear F
                  go_wp2_with fail
                  refine (wpBin_any 13 a b a d _).mono ?_; rintro e w8 ⟨rfl, hb⟩
                  rw [S13w.out, S13n.out]
                  clear A0 A1 A2 B0 B1 B2 O0 O1 O2 MM0 MM1 MM2 ZZ0 ZZ1 ZZ2
                  replace A := A.keep hb
                  replace B := B.keep hb
                  replace O := O.keep hb
                  replace MM := MM.keep hb
                  replace ZZ := ZZ.keep hb
                  replace K := below_two K hb
                  clear hb
                  have nA : ¬ w1.heap.size = w8.heap.size := Nat.ne_of_lt A.lt
                  have nB : ¬ (w1.heap.size + 1) = w8.heap.size := Nat.ne_of_lt B.lt
                  have nO : ¬ w5.heap.size = w8.heap.size := Nat.ne_of_lt O.lt
                  have nMM : ¬ w6.heap.size = w8.heap.size := Nat.ne_of_lt MM.lt
                  have nZZ : ¬ w7.heap.size = w8.heap.size := Nat.ne_of_lt ZZ.lt
                  replace A := A.alloc (.cells #[.int .i64 a, .int .i64 s13] 26)
                  replace B := B.alloc (.cells #[.int .i64 a, .int .i64 s13] 26)
                  replace O := O.alloc (.cells #[.int .i64 a, .int .i64 s13] 26)
                  replace MM := MM.alloc (.cells #[.int .i64 a, .int .i64 s13] 26)
                  replace ZZ := ZZ.alloc (.cells #[.int .i64 a, .int .i64 s13] 26)
                  replace K := below_step K (.cells #[.int .i64 a, .int .i64 s13] 26)
                  have SS := blk_new w8 (.int .i64 a) (.int .i64 s13) 26
                  obtain ⟨A0, A1, A2⟩ := A.cells
                  obtain ⟨B0, B1, B2⟩ := B.cells
                  obtain ⟨O0, O1, O2⟩ := O.cells
                  obtain ⟨MM0, MM1, MM2⟩ := MM.cells
                  obtain ⟨ZZ0, ZZ1, ZZ2⟩ := ZZ.cells
                  obtain ⟨SS0, SS1, SS2⟩ := SS.cells
                  go_wp2_with fail
                  go_quiet (fail)
                  rename_i nq
                  replace A := A.drewN nq
                  replace B := B.drewN nq
                  replace O := O.drewN nq
                  replace MM := MM.drewN nq
                  replace ZZ := ZZ.drewN nq
                  replace SS := SS.drewN nq
                  replace K := below_drewN K nq
                  go_wp2_with fail
                  go_quiet (fail)
                  rename_i nq
                  replace A := A.drewN nq
                  replace B := B.drewN nq
                  replace O := O.drewN nq
                  replace MM := MM.drewN nq
                  replace ZZ := ZZ.drewN nq
                  replace SS := SS.drewN nq
                  replace K := below_drewN K nq
                  go_wp2_with fail
                  clear A0 A1 A2 B0 B1 B2 O0 O1 O2 MM0 MM1 MM2 ZZ0 ZZ1 ZZ2
                  clear nA nB nO nMM nZZ
                  exact ⟨⟨13 + 1, by omega, by omega, by first | rfl | go_num, A, B, O, MM, ZZ, ⟨K.os, K.tape, K.output, K.size, K.block⟩⟩, by simp [intOf] <;> omega⟩
          · have hsn : sg < 0 ∨ ¬ sg < 0 := by omega
            rcases hsn with hsn | hsn
            · have dn : decide (sg < 0) = true := by simpa using hsn
              go_wp2_with fail
              clear A0 A1 A2 B0 B1 B2 O0 O1 O2 MM0 MM1 MM2 ZZ0 ZZ1 ZZ2
              replace A := A.drew
              replace B := B.drew
              replace O := O.drew
              replace MM := MM.drew
              replace ZZ := ZZ.drew
              replace K := K.drew
              have sS := cells5 A B O MM ZZ
              refine wp_region_noPanic ?_
              refine wp_region_held_drew (S := (fun wx => (wx.cell? ⟨w1.heap.size, 0, none⟩ = some (.int .i64 a) ∧ wx.cell? ⟨w1.heap.size, 1, none⟩ = some (.int .i64 b)) ∧ (wx.cell? ⟨(w1.heap.size + 1), 0, none⟩ = some (.int .i64 a) ∧ wx.cell? ⟨(w1.heap.size + 1), 1, none⟩ = some (.int .i64 d)) ∧ (wx.cell? ⟨w5.heap.size, 0, none⟩ = some (.int .i64 a) ∧ wx.cell? ⟨w5.heap.size, 1, none⟩ = some (.int .i64 1)) ∧ (wx.cell? ⟨w6.heap.size, 0, none⟩ = some (.int .i64 a) ∧ wx.cell? ⟨w6.heap.size, 1, none⟩ = some (.int .i64 m)) ∧ (wx.cell? ⟨w7.heap.size, 0, none⟩ = some (.int .i64 a) ∧ wx.cell? ⟨w7.heap.size, 1, none⟩ = some (.int .i64 0)))) (by kernel_rfl) sS (fun hHeld => ?_)
              refine wpAnyH_take (i := 0) (oi := { dst := some 127, op := Go.Op.load 26 (Go.Operand.tmp 4), type := 26, pos := _, after := #[], guard := none }) (v := ?_) rfl (by kernel_rfl) (by kernel_rfl) (by kernel_rfl) (fun _ _ _ h => h) (Or.inl ⟨by rfl, ?_⟩) hHeld ?_
              rotate_left
              · (intro wq hSw; (try dsimp only at hSw); (try go_simp); (try with_reducible rfl))
              try simp only [Act.put, List.setIfInBounds_toArray, List.set_cons_zero, List.set_cons_succ]
              refine wpAnyH_take (i := 1) (oi := { dst := some 128, op := Go.Op.load 26 (Go.Operand.tmp 12), type := 26, pos := _, after := #[], guard := none }) (v := ?_) rfl (by kernel_rfl) (by kernel_rfl) (by kernel_rfl) (fun _ _ _ h => h) (Or.inl ⟨by rfl, ?_⟩) hHeld ?_
              rotate_left
              · (intro wq hSw; (try dsimp only at hSw); (try go_simp); (try with_reducible rfl))
              try simp only [Act.put, List.setIfInBounds_toArray, List.set_cons_zero, List.set_cons_succ]
              refine wpAnyH_take (i := 3) (oi := { dst := some 130, op := Go.Op.load 26 (Go.Operand.tmp 4), type := 26, pos := _, after := #[], guard := none }) (v := ?_) rfl (by kernel_rfl) (by kernel_rfl) (by kernel_rfl) (fun _ _ _ h => h) (Or.inl ⟨by rfl, ?_⟩) hHeld ?_
              rotate_left
              · (intro wq hSw; (try dsimp only at hSw); (try go_simp); (try with_reducible rfl))
              try simp only [Act.put, List.setIfInBounds_toArray, List.set_cons_zero, List.set_cons_succ]
              refine wpAnyH_ready (rs := [2]) (by kernel_rfl) (by simp) ?_
              refine AllReadyH.cons (o := { dst := some 129, op := Go.Op.call { callee := Go.Callee.value (Go.Operand.func 39), args := #[Go.Operand.const (Go.Value.int Go.IntKind.i64 11), Go.Operand.tmp 127, Go.Operand.tmp 128], argTypes := #[3, 26, 26] }, type := 26, pos := _, after := #[{ on := 0, ground := Go.Ground.data }, { on := 1, ground := Go.Ground.data }], guard := none }) rfl (fun KK hKK => ?_) AllReadyH.nil
              go_simp
              (first | (go_at_call 39; (with_reducible refine (wpBin_any 11 a b a 0 _).mono ?_); rintro e w8 ⟨rfl, hb⟩; rw [L0w.out, L0n.out]; replace A := A.keep hb; replace B := B.keep hb; replace O := O.keep hb; replace MM := MM.keep hb; replace ZZ := ZZ.keep hb; replace K := below_two K hb; clear hb; replace sS := cells5 A B O MM ZZ) | (go_at_call 39; (with_reducible refine (wpBin_any 11 a b a 1 _).mono ?_); rintro e w8 ⟨rfl, hb⟩; rw [L1w.out, L1n.out]; replace A := A.keep hb; replace B := B.keep hb; replace O := O.keep hb; replace MM := MM.keep hb; replace ZZ := ZZ.keep hb; replace K := below_two K hb; clear hb; replace sS := cells5 A B O MM ZZ) | (go_at_call 39; (with_reducible refine (wpBin_any 6 a b a b _).mono ?_); rintro e w8 ⟨rfl, hb⟩; rw [Dw.out, Dn.out]; replace A := A.keep hb; replace B := B.keep hb; replace O := O.keep hb; replace MM := MM.keep hb; replace ZZ := ZZ.keep hb; replace K := below_two K hb; clear hb; replace sS := cells5 A B O MM ZZ) | (go_at_call 28; (with_reducible refine (vecSigned_impl a b _).mono ?_); rintro e w8 ⟨rfl, hb⟩; rw [SG.out]; replace A := A.keep hb; replace B := B.keep hb; replace O := O.keep hb; replace MM := MM.keep hb; replace ZZ := ZZ.keep hb; replace K := below_two K hb; clear hb; replace sS := cells5 A B O MM ZZ) | (go_at_call 39; (with_reducible refine (wpBin_any 13 a b a d _).mono ?_); rintro e w8 ⟨rfl, hb⟩; rw [S13w.out, S13n.out]; replace A := A.keep hb; replace B := B.keep hb; replace O := O.keep hb; replace MM := MM.keep hb; replace ZZ := ZZ.keep hb; replace K := below_two K hb; clear hb; replace sS := cells5 A B O MM ZZ) | (go_at_call 39; (with_reducible refine (wpBin_any 12 a b a d _).mono ?_); rintro e w8 ⟨rfl, hb⟩; rw [S12w.out, S12n.out]; replace A := A.keep hb; replace B := B.keep hb; replace O := O.keep hb; replace MM := MM.keep hb; replace ZZ := ZZ.keep hb; replace K := below_two K hb; clear hb; replace sS := cells5 A B O MM ZZ))
              try go_simp
              refine hKK.out _ _ sS (fun hHeld => ?_)
              clear hKK KK
              try simp only [Act.put, List.setIfInBounds_toArray, List.set_cons_zero, List.set_cons_succ]
              refine wpAnyH_take (i := 4) (oi := { dst := some 131, op := Go.Op.binOp Go.BinOp.eql 26 (Go.Operand.tmp 129) (Go.Operand.tmp 130) 26, type := 4, pos := _, after := #[{ on := 2, ground := Go.Ground.data }, { on := 3, ground := Go.Ground.data }], guard := none }) (v := ?_) rfl (by kernel_rfl) (by kernel_rfl) (by kernel_rfl) (fun _ _ _ h => h) (Or.inl ⟨by rfl, ?_⟩) hHeld ?_
              rotate_left
              · (intro wq hSw; (try dsimp only at hSw); (try go_simp); (try with_reducible rfl))
              try simp only [Act.put, List.setIfInBounds_toArray, List.set_cons_zero, List.set_cons_succ]
              refine wpAnyH_take (i := 5) (oi := { dst := some 132, op := Go.Op.move (Go.Operand.tmp 131), type := 4, pos := _, after := #[{ on := 4, ground := Go.Ground.data }, { on := 2, ground := Go.Ground.chain }], guard := none }) (v := ?_) rfl (by kernel_rfl) (by kernel_rfl) (by kernel_rfl) (fun _ _ _ h => h) (Or.inl ⟨by rfl, ?_⟩) hHeld ?_
              rotate_left
              · (intro wq hSw; (try dsimp only at hSw); (try go_simp); (try with_reducible rfl))
              try simp only [Act.put, List.setIfInBounds_toArray, List.set_cons_zero, List.set_cons_succ]
              refine wpAnyH_take (i := 6) (oi := { dst := some 133, op := Go.Op.load 26 (Go.Operand.tmp 4), type := 26, pos := _, after := #[{ on := 5, ground := Go.Ground.guard }], guard := some (5, true) }) (v := ?_) rfl (by kernel_rfl) (by kernel_rfl) (by kernel_rfl) (fun _ _ _ h => h) (Or.inl ⟨by rfl, ?_⟩) hHeld ?_
              rotate_left
              · (intro wq hSw; (try dsimp only at hSw); (try go_simp); (try with_reducible rfl))
              try simp only [Act.put, List.setIfInBounds_toArray, List.set_cons_zero, List.set_cons_succ]
              refine wpAnyH_take (i := 7) (oi := { dst := some 134, op := Go.Op.load 26 (Go.Operand.tmp 10), type := 26, pos := _, after := #[{ on := 5, ground := Go.Ground.guard }], guard := some (5, true) }) (v := ?_) rfl (by kernel_rfl) (by kernel_rfl) (by kernel_rfl) (fun _ _ _ h => h) (Or.inl ⟨by rfl, ?_⟩) hHeld ?_
              rotate_left
              · (intro wq hSw; (try dsimp only at hSw); (try go_simp); (try with_reducible rfl))
              try simp only [Act.put, List.setIfInBounds_toArray, List.set_cons_zero, List.set_cons_succ]
              refine wpAnyH_take (i := 9) (oi := { dst := some 136, op := Go.Op.load 26 (Go.Operand.tmp 4), type := 26, pos := _, after := #[{ on := 5, ground := Go.Ground.guard }], guard := some (5, true) }) (v := ?_) rfl (by kernel_rfl) (by kernel_rfl) (by kernel_rfl) (fun _ _ _ h => h) (Or.inl ⟨by rfl, ?_⟩) hHeld ?_
              rotate_left
              · (intro wq hSw; (try dsimp only at hSw); (try go_simp); (try with_reducible rfl))
              try simp only [Act.put, List.setIfInBounds_toArray, List.set_cons_zero, List.set_cons_succ]
              refine wpAnyH_take (i := 10) (oi := { dst := some 137, op := Go.Op.load 26 (Go.Operand.tmp 4), type := 26, pos := _, after := #[{ on := 5, ground := Go.Ground.guard }], guard := some (5, true) }) (v := ?_) rfl (by kernel_rfl) (by kernel_rfl) (by kernel_rfl) (fun _ _ _ h => h) (Or.inl ⟨by rfl, ?_⟩) hHeld ?_
              rotate_left
              · (intro wq hSw; (try dsimp only at hSw); (try go_simp); (try with_reducible rfl))
              try simp only [Act.put, List.setIfInBounds_toArray, List.set_cons_zero, List.set_cons_succ]
              refine wpAnyH_ready (rs := [8]) (by kernel_rfl) (by simp) ?_
              refine AllReadyH.cons (o := { dst := some 135, op := Go.Op.call { callee := Go.Callee.value (Go.Operand.func 39), args := #[Go.Operand.const (Go.Value.int Go.IntKind.i64 11), Go.Operand.tmp 133, Go.Operand.tmp 134], argTypes := #[3, 26, 26] }, type := 26, pos := _, after := #[{ on := 6, ground := Go.Ground.data }, { on := 7, ground := Go.Ground.data }, { on := 5, ground := Go.Ground.chain }, { on := 5, ground := Go.Ground.guard }], guard := some (5, true) }) rfl (fun KK hKK => ?_) AllReadyH.nil
              go_simp
              (first | (go_at_call 39; (with_reducible refine (wpBin_any 11 a b a 0 _).mono ?_); rintro e w8 ⟨rfl, hb⟩; rw [L0w.out, L0n.out]; replace A := A.keep hb; replace B := B.keep hb; replace O := O.keep hb; replace MM := MM.keep hb; replace ZZ := ZZ.keep hb; replace K := below_two K hb; clear hb; replace sS := cells5 A B O MM ZZ) | (go_at_call 39; (with_reducible refine (wpBin_any 11 a b a 1 _).mono ?_); rintro e w8 ⟨rfl, hb⟩; rw [L1w.out, L1n.out]; replace A := A.keep hb; replace B := B.keep hb; replace O := O.keep hb; replace MM := MM.keep hb; replace ZZ := ZZ.keep hb; replace K := below_two K hb; clear hb; replace sS := cells5 A B O MM ZZ) | (go_at_call 39; (with_reducible refine (wpBin_any 6 a b a b _).mono ?_); rintro e w8 ⟨rfl, hb⟩; rw [Dw.out, Dn.out]; replace A := A.keep hb; replace B := B.keep hb; replace O := O.keep hb; replace MM := MM.keep hb; replace ZZ := ZZ.keep hb; replace K := below_two K hb; clear hb; replace sS := cells5 A B O MM ZZ) | (go_at_call 28; (with_reducible refine (vecSigned_impl a b _).mono ?_); rintro e w8 ⟨rfl, hb⟩; rw [SG.out]; replace A := A.keep hb; replace B := B.keep hb; replace O := O.keep hb; replace MM := MM.keep hb; replace ZZ := ZZ.keep hb; replace K := below_two K hb; clear hb; replace sS := cells5 A B O MM ZZ) | (go_at_call 39; (with_reducible refine (wpBin_any 13 a b a d _).mono ?_); rintro e w8 ⟨rfl, hb⟩; rw [S13w.out, S13n.out]; replace A := A.keep hb; replace B := B.keep hb; replace O := O.keep hb; replace MM := MM.keep hb; replace ZZ := ZZ.keep hb; replace K := below_two K hb; clear hb; replace sS := cells5 A B O MM ZZ) | (go_at_call 39; (with_reducible refine (wpBin_any 12 a b a d _).mono ?_); rintro e w8 ⟨rfl, hb⟩; rw [S12w.out, S12n.out]; replace A := A.keep hb; replace B := B.keep hb; replace O := O.keep hb; replace MM := MM.keep hb; replace ZZ := ZZ.keep hb; replace K := below_two K hb; clear hb; replace sS := cells5 A B O MM ZZ))
              try go_simp
              refine hKK.out _ _ sS (fun hHeld => ?_)
              clear hKK KK
              try simp only [Act.put, List.setIfInBounds_toArray, List.set_cons_zero, List.set_cons_succ]
              refine wpAnyH_ready (rs := [11]) (by kernel_rfl) (by simp) ?_
              refine AllReadyH.cons (o := { dst := some 138, op := Go.Op.call { callee := Go.Callee.value (Go.Operand.func 39), args := #[Go.Operand.const (Go.Value.int Go.IntKind.i64 6), Go.Operand.tmp 136, Go.Operand.tmp 137], argTypes := #[3, 26, 26] }, type := 26, pos := _, after := #[{ on := 9, ground := Go.Ground.data }, { on := 10, ground := Go.Ground.data }, { on := 8, ground := Go.Ground.chain }, { on := 5, ground := Go.Ground.guard }], guard := some (5, true) }) rfl (fun KK hKK => ?_) AllReadyH.nil
              go_simp
              (first | (go_at_call 39; (with_reducible refine (wpBin_any 11 a b a 0 _).mono ?_); rintro e w8 ⟨rfl, hb⟩; rw [L0w.out, L0n.out]; replace A := A.keep hb; replace B := B.keep hb; replace O := O.keep hb; replace MM := MM.keep hb; replace ZZ := ZZ.keep hb; replace K := below_two K hb; clear hb; replace sS := cells5 A B O MM ZZ) | (go_at_call 39; (with_reducible refine (wpBin_any 11 a b a 1 _).mono ?_); rintro e w8 ⟨rfl, hb⟩; rw [L1w.out, L1n.out]; replace A := A.keep hb; replace B := B.keep hb; replace O := O.keep hb; replace MM := MM.keep hb; replace ZZ := ZZ.keep hb; replace K := below_two K hb; clear hb; replace sS := cells5 A B O MM ZZ) | (go_at_call 39; (with_reducible refine (wpBin_any 6 a b a b _).mono ?_); rintro e w8 ⟨rfl, hb⟩; rw [Dw.out, Dn.out]; replace A := A.keep hb; replace B := B.keep hb; replace O := O.keep hb; replace MM := MM.keep hb; replace ZZ := ZZ.keep hb; replace K := below_two K hb; clear hb; replace sS := cells5 A B O MM ZZ) | (go_at_call 28; (with_reducible refine (vecSigned_impl a b _).mono ?_); rintro e w8 ⟨rfl, hb⟩; rw [SG.out]; replace A := A.keep hb; replace B := B.keep hb; replace O := O.keep hb; replace MM := MM.keep hb; replace ZZ := ZZ.keep hb; replace K := below_two K hb; clear hb; replace sS := cells5 A B O MM ZZ) | (go_at_call 39; (with_reducible refine (wpBin_any 13 a b a d _).mono ?_); rintro e w8 ⟨rfl, hb⟩; rw [S13w.out, S13n.out]; replace A := A.keep hb; replace B := B.keep hb; replace O := O.keep hb; replace MM := MM.keep hb; replace ZZ := ZZ.keep hb; replace K := below_two K hb; clear hb; replace sS := cells5 A B O MM ZZ) | (go_at_call 39; (with_reducible refine (wpBin_any 12 a b a d _).mono ?_); rintro e w8 ⟨rfl, hb⟩; rw [S12w.out, S12n.out]; replace A := A.keep hb; replace B := B.keep hb; replace O := O.keep hb; replace MM := MM.keep hb; replace ZZ := ZZ.keep hb; replace K := below_two K hb; clear hb; replace sS := cells5 A B O MM ZZ))
              try go_simp
              refine hKK.out _ _ sS (fun hHeld => ?_)
              clear hKK KK
              try simp only [Act.put, List.setIfInBounds_toArray, List.set_cons_zero, List.set_cons_succ]
              refine wpAnyH_take (i := 12) (oi := { dst := some 139, op := Go.Op.binOp Go.BinOp.eql 26 (Go.Operand.tmp 135) (Go.Operand.tmp 138) 26, type := 4, pos := _, after := #[{ on := 8, ground := Go.Ground.data }, { on := 11, ground := Go.Ground.data }, { on := 5, ground := Go.Ground.guard }], guard := some (5, true) }) (v := ?_) rfl (by kernel_rfl) (by kernel_rfl) (by kernel_rfl) (fun _ _ _ h => h) (Or.inl ⟨by rfl, ?_⟩) hHeld ?_
              rotate_left
              · (intro wq hSw; (try dsimp only at hSw); (try go_simp); (try with_reducible rfl))
              try simp only [Act.put, List.setIfInBounds_toArray, List.set_cons_zero, List.set_cons_succ]
              refine wpAnyH_take (i := 13) (oi := { dst := some 140, op := Go.Op.pick (Go.Operand.tmp 132) (Go.Operand.tmp 139) (Go.Operand.const (Go.Value.bool false)), type := 4, pos := _, after := #[{ on := 5, ground := Go.Ground.data }, { on := 12, ground := Go.Ground.data }], guard := none }) (v := ?_) rfl (by kernel_rfl) (by kernel_rfl) (by kernel_rfl) (fun _ _ _ h => h) (Or.inl ⟨by rfl, ?_⟩) hHeld ?_
              rotate_left
              · (intro wq hSw; (try dsimp only at hSw); (try go_simp); (try with_reducible rfl))
              try simp only [Act.put, List.setIfInBounds_toArray, List.set_cons_zero, List.set_cons_succ]
              refine wpAnyH_take (i := 14) (oi := { dst := some 141, op := Go.Op.move (Go.Operand.tmp 140), type := 4, pos := _, after := #[{ on := 13, ground := Go.Ground.data }, { on := 11, ground := Go.Ground.chain }], guard := none }) (v := ?_) rfl (by kernel_rfl) (by kernel_rfl) (by kernel_rfl) (fun _ _ _ h => h) (Or.inl ⟨by rfl, ?_⟩) hHeld ?_
              rotate_left
              · (intro wq hSw; (try dsimp only at hSw); (try go_simp); (try with_reducible rfl))
              try simp only [Act.put, List.setIfInBounds_toArray, List.set_cons_zero, List.set_cons_succ]
              refine wpAnyH_take (i := 15) (oi := { dst := some 142, op := Go.Op.load 26 (Go.Operand.tmp 4), type := 26, pos := _, after := #[{ on := 14, ground := Go.Ground.guard }], guard := some (14, true) }) (v := ?_) rfl (by kernel_rfl) (by kernel_rfl) (by kernel_rfl) (fun _ _ _ h => h) (Or.inl ⟨by rfl, ?_⟩) hHeld ?_
              rotate_left
              · (intro wq hSw; (try dsimp only at hSw); (try go_simp); (try with_reducible rfl))
              try simp only [Act.put, List.setIfInBounds_toArray, List.set_cons_zero, List.set_cons_succ]
              refine wpAnyH_ready (rs := [16]) (by kernel_rfl) (by simp) ?_
              refine AllReadyH.cons (o := { dst := some 143, op := Go.Op.call { callee := Go.Callee.value (Go.Operand.func 28), args := #[Go.Operand.tmp 142], argTypes := #[26] }, type := 3, pos := _, after := #[{ on := 15, ground := Go.Ground.data }, { on := 14, ground := Go.Ground.chain }, { on := 14, ground := Go.Ground.guard }], guard := some (14, true) }) rfl (fun KK hKK => ?_) AllReadyH.nil
              go_simp
              (first | (go_at_call 39; (with_reducible refine (wpBin_any 11 a b a 0 _).mono ?_); rintro e w8 ⟨rfl, hb⟩; rw [L0w.out, L0n.out]; replace A := A.keep hb; replace B := B.keep hb; replace O := O.keep hb; replace MM := MM.keep hb; replace ZZ := ZZ.keep hb; replace K := below_two K hb; clear hb; replace sS := cells5 A B O MM ZZ) | (go_at_call 39; (with_reducible refine (wpBin_any 11 a b a 1 _).mono ?_); rintro e w8 ⟨rfl, hb⟩; rw [L1w.out, L1n.out]; replace A := A.keep hb; replace B := B.keep hb; replace O := O.keep hb; replace MM := MM.keep hb; replace ZZ := ZZ.keep hb; replace K := below_two K hb; clear hb; replace sS := cells5 A B O MM ZZ) | (go_at_call 39; (with_reducible refine (wpBin_any 6 a b a b _).mono ?_); rintro e w8 ⟨rfl, hb⟩; rw [Dw.out, Dn.out]; replace A := A.keep hb; replace B := B.keep hb; replace O := O.keep hb; replace MM := MM.keep hb; replace ZZ := ZZ.keep hb; replace K := below_two K hb; clear hb; replace sS := cells5 A B O MM ZZ) | (go_at_call 28; (with_reducible refine (vecSigned_impl a b _).mono ?_); rintro e w8 ⟨rfl, hb⟩; rw [SG.out]; replace A := A.keep hb; replace B := B.keep hb; replace O := O.keep hb; replace MM := MM.keep hb; replace ZZ := ZZ.keep hb; replace K := below_two K hb; clear hb; replace sS := cells5 A B O MM ZZ) | (go_at_call 39; (with_reducible refine (wpBin_any 13 a b a d _).mono ?_); rintro e w8 ⟨rfl, hb⟩; rw [S13w.out, S13n.out]; replace A := A.keep hb; replace B := B.keep hb; replace O := O.keep hb; replace MM := MM.keep hb; replace ZZ := ZZ.keep hb; replace K := below_two K hb; clear hb; replace sS := cells5 A B O MM ZZ) | (go_at_call 39; (with_reducible refine (wpBin_any 12 a b a d _).mono ?_); rintro e w8 ⟨rfl, hb⟩; rw [S12w.out, S12n.out]; replace A := A.keep hb; replace B := B.keep hb; replace O := O.keep hb; replace MM := MM.keep hb; replace ZZ := ZZ.keep hb; replace K := below_two K hb; clear hb; replace sS := cells5 A B O MM ZZ))
              try go_simp
              refine hKK.out _ _ sS (fun hHeld => ?_)
              clear hKK KK
              try simp only [Act.put, List.setIfInBounds_toArray, List.set_cons_zero, List.set_cons_succ]
              refine wpAnyH_take (i := 17) (oi := { dst := some 144, op := Go.Op.binOp Go.BinOp.lss 3 (Go.Operand.tmp 143) (Go.Operand.const (Go.Value.int Go.IntKind.i64 0)) 3, type := 4, pos := _, after := #[{ on := 16, ground := Go.Ground.data }, { on := 14, ground := Go.Ground.guard }], guard := some (14, true) }) (v := ?_) rfl (by kernel_rfl) (by kernel_rfl) (by kernel_rfl) (fun _ _ _ h => h) (Or.inl ⟨by rfl, ?_⟩) hHeld ?_
              rotate_left
              · (intro wq hSw; (try dsimp only at hSw); (try go_simp); (try with_reducible rfl))
              try simp only [Act.put, List.setIfInBounds_toArray, List.set_cons_zero, List.set_cons_succ]
              refine wpAnyH_take (i := 18) (oi := { dst := some 145, op := Go.Op.move (Go.Operand.tmp 144), type := 4, pos := _, after := #[{ on := 17, ground := Go.Ground.data }, { on := 16, ground := Go.Ground.chain }, { on := 14, ground := Go.Ground.guard }], guard := some (14, true) }) (v := ?_) rfl (by kernel_rfl) (by kernel_rfl) (by kernel_rfl) (fun _ _ _ h => h) (Or.inl ⟨by rfl, ?_⟩) hHeld ?_
              rotate_left
              · (intro wq hSw; (try dsimp only at hSw); (try go_simp); (try with_reducible rfl))
              try simp only [Act.put, List.setIfInBounds_toArray, List.set_cons_zero, List.set_cons_succ]
              refine wpAnyH_take (i := 19) (oi := { dst := some 146, op := Go.Op.load 26 (Go.Operand.tmp 4), type := 26, pos := _, after := #[{ on := 18, ground := Go.Ground.guard }], guard := some (18, false) }) (v := undef) rfl (by kernel_rfl) (by kernel_rfl) (by kernel_rfl) (fun _ _ _ h => h) (Or.inr ⟨by rfl, rfl⟩) hHeld ?_
              try simp only [Act.put, List.setIfInBounds_toArray, List.set_cons_zero, List.set_cons_succ]
              refine wpAnyH_take (i := 20) (oi := { dst := some 147, op := Go.Op.load 26 (Go.Operand.tmp 5), type := 26, pos := _, after := #[{ on := 18, ground := Go.Ground.guard }], guard := some (18, false) }) (v := undef) rfl (by kernel_rfl) (by kernel_rfl) (by kernel_rfl) (fun _ _ _ h => h) (Or.inr ⟨by rfl, rfl⟩) hHeld ?_
              try simp only [Act.put, List.setIfInBounds_toArray, List.set_cons_zero, List.set_cons_succ]
              refine wpAnyH_take (i := 21) (oi := { dst := some 148, op := Go.Op.call { callee := Go.Callee.value (Go.Operand.func 39), args := #[Go.Operand.const (Go.Value.int Go.IntKind.i64 13), Go.Operand.tmp 146, Go.Operand.tmp 147], argTypes := #[3, 26, 26] }, type := 26, pos := _, after := #[{ on := 19, ground := Go.Ground.data }, { on := 20, ground := Go.Ground.data }, { on := 18, ground := Go.Ground.chain }, { on := 18, ground := Go.Ground.guard }], guard := some (18, false) }) (v := undef) rfl (by kernel_rfl) (by kernel_rfl) (by kernel_rfl) (fun _ _ _ h => h) (Or.inr ⟨by rfl, rfl⟩) hHeld ?_
              try simp only [Act.put, List.setIfInBounds_toArray, List.set_cons_zero, List.set_cons_succ]
              refine wpAnyH_take (i := 22) (oi := { dst := some 149, op := Go.Op.load 26 (Go.Operand.tmp 4), type := 26, pos := _, after := #[{ on := 18, ground := Go.Ground.guard }], guard := some (18, false) }) (v := undef) rfl (by kernel_rfl) (by kernel_rfl) (by kernel_rfl) (fun _ _ _ h => h) (Or.inr ⟨by rfl, rfl⟩) hHeld ?_
              try simp only [Act.put, List.setIfInBounds_toArray, List.set_cons_zero, List.set_cons_succ]
              refine wpAnyH_take (i := 23) (oi := { dst := some 150, op := Go.Op.load 26 (Go.Operand.tmp 5), type := 26, pos := _, after := #[{ on := 18, ground := Go.Ground.guard }], guard := some (18, false) }) (v := undef) rfl (by kernel_rfl) (by kernel_rfl) (by kernel_rfl) (fun _ _ _ h => h) (Or.inr ⟨by rfl, rfl⟩) hHeld ?_
              try simp only [Act.put, List.setIfInBounds_toArray, List.set_cons_zero, List.set_cons_succ]
              refine wpAnyH_take (i := 24) (oi := { dst := some 151, op := Go.Op.call { callee := Go.Callee.value (Go.Operand.func 39), args := #[Go.Operand.const (Go.Value.int Go.IntKind.i64 12), Go.Operand.tmp 149, Go.Operand.tmp 150], argTypes := #[3, 26, 26] }, type := 26, pos := _, after := #[{ on := 22, ground := Go.Ground.data }, { on := 23, ground := Go.Ground.data }, { on := 21, ground := Go.Ground.chain }, { on := 18, ground := Go.Ground.guard }], guard := some (18, false) }) (v := undef) rfl (by kernel_rfl) (by kernel_rfl) (by kernel_rfl) (fun _ _ _ h => h) (Or.inr ⟨by rfl, rfl⟩) hHeld ?_
              try simp only [Act.put, List.setIfInBounds_toArray, List.set_cons_zero, List.set_cons_succ]
              refine wpAnyH_take (i := 25) (oi := { dst := some 152, op := Go.Op.binOp Go.BinOp.eql 26 (Go.Operand.tmp 148) (Go.Operand.tmp 151) 26, type := 4, pos := _, after := #[{ on := 21, ground := Go.Ground.data }, { on := 24, ground := Go.Ground.data }, { on := 18, ground := Go.Ground.guard }], guard := some (18, false) }) (v := undef) rfl (by kernel_rfl) (by kernel_rfl) (by kernel_rfl) (fun _ _ _ h => h) (Or.inr ⟨by rfl, rfl⟩) hHeld ?_
              try simp only [Act.put, List.setIfInBounds_toArray, List.set_cons_zero, List.set_cons_succ]
              refine wpAnyH_take (i := 26) (oi := { dst := some 153, op := Go.Op.pick (Go.Operand.tmp 145) (Go.Operand.const (Go.Value.bool true)) (Go.Operand.tmp 152), type := 4, pos := _, after := #[{ on := 18, ground := Go.Ground.data }, { on := 25, ground := Go.Ground.data }, { on := 14, ground := Go.Ground.guard }], guard := some (14, true) }) (v := ?_) rfl (by kernel_rfl) (by kernel_rfl) (by kernel_rfl) (fun _ _ _ h => h) (Or.inl ⟨by rfl, ?_⟩) hHeld ?_
              rotate_left
              · (intro wq hSw; (try dsimp only at hSw); (try go_simp); (try with_reducible rfl))
              try simp only [Act.put, List.setIfInBounds_toArray, List.set_cons_zero, List.set_cons_succ]
              refine wpAnyH_take (i := 27) (oi := { dst := some 154, op := Go.Op.pick (Go.Operand.tmp 141) (Go.Operand.tmp 153) (Go.Operand.const (Go.Value.bool false)), type := 4, pos := _, after := #[{ on := 14, ground := Go.Ground.data }, { on := 26, ground := Go.Ground.data }], guard := none }) (v := ?_) rfl (by kernel_rfl) (by kernel_rfl) (by kernel_rfl) (fun _ _ _ h => h) (Or.inl ⟨by rfl, ?_⟩) hHeld ?_
              rotate_left
              · (intro wq hSw; (try dsimp only at hSw); (try go_simp); (try with_reducible rfl))
              try simp only [Act.put, List.setIfInBounds_toArray, List.set_cons_zero, List.set_cons_succ]
              refine wpAnyH_take (i := 28) (oi := { dst := some 2, op := Go.Op.assign (Go.Operand.tmp 154), type := 4, pos := _, after := #[{ on := 27, ground := Go.Ground.data }, { on := 24, ground := Go.Ground.chain }, { on := 0, ground := Go.Ground.phase }, { on := 1, ground := Go.Ground.phase }, { on := 2, ground := Go.Ground.phase }, { on := 3, ground := Go.Ground.phase }, { on := 4, ground := Go.Ground.phase }, { on := 5, ground := Go.Ground.phase }, { on := 6, ground := Go.Ground.phase }, { on := 7, ground := Go.Ground.phase }, { on := 8, ground := Go.Ground.phase }, { on := 9, ground := Go.Ground.phase }, { on := 10, ground := Go.Ground.phase }, { on := 11, ground := Go.Ground.phase }, { on := 12, ground := Go.Ground.phase }, { on := 13, ground := Go.Ground.phase }, { on := 14, ground := Go.Ground.phase }, { on := 15, ground := Go.Ground.phase }, { on := 16, ground := Go.Ground.phase }, { on := 17, ground := Go.Ground.phase }, { on := 18, ground := Go.Ground.phase }, { on := 19, ground := Go.Ground.phase }, { on := 20, ground := Go.Ground.phase }, { on := 21, ground := Go.Ground.phase }, { on := 22, ground := Go.Ground.phase }, { on := 23, ground := Go.Ground.phase }, { on := 24, ground := Go.Ground.phase }, { on := 25, ground := Go.Ground.phase }, { on := 26, ground := Go.Ground.phase }, { on := 27, ground := Go.Ground.phase }], guard := none }) (v := ?_) rfl (by kernel_rfl) (by kernel_rfl) (by kernel_rfl) (fun _ _ _ h => h) (Or.inl ⟨by rfl, ?_⟩) hHeld ?_
              rotate_left
              · (intro wq hSw; (try dsimp only at hSw); (try go_simp); (try with_reducible rfl))
              try simp only [Act.put, List.setIfInBounds_toArray, List.set_cons_zero, List.set_cons_succ]
              refine wpAnyH_done (by kernel_rfl) ?_ _
              refine NoPanic.normal ?_
              clear sS
              obtain ⟨A0, A1, A2⟩ := A.cells
              obtain ⟨B0, B1, B2⟩ := B.cells
              obtain ⟨O0, O1, O2⟩ := O.cells
              obtain ⟨MM0, MM1, MM2⟩ := MM.cells
              obtain ⟨ZZ0, ZZ1, ZZ2⟩ := ZZ.cells
              go_wp2_with fail
              go_ret
              exact ⟨rfl, K⟩
            · have dn : decide (sg < 0) = false := by simpa using hsn
              have G := H7.out
              simp only [hsn, if_false, decide_eq_true_eq] at G
              obtain rfl := G
              go_wp2_with fail
              clear A0 A1 A2 B0 B1 B2 O0 O1 O2 MM0 MM1 MM2 ZZ0 ZZ1 ZZ2
              replace A := A.drew
              replace B := B.drew
              replace O := O.drew
              replace MM := MM.drew
              replace ZZ := ZZ.drew
              replace K := K.drew
              have sS := cells5 A B O MM ZZ
              first
                | (go_region_held3 (fun wx => (wx.cell? ⟨w1.heap.size, 0, none⟩ = some (.int .i64 a) ∧ wx.cell? ⟨w1.heap.size, 1, none⟩ = some (.int .i64 b)) ∧ (wx.cell? ⟨(w1.heap.size + 1), 0, none⟩ = some (.int .i64 a) ∧ wx.cell? ⟨(w1.heap.size + 1), 1, none⟩ = some (.int .i64 d)) ∧ (wx.cell? ⟨w5.heap.size, 0, none⟩ = some (.int .i64 a) ∧ wx.cell? ⟨w5.heap.size, 1, none⟩ = some (.int .i64 1)) ∧ (wx.cell? ⟨w6.heap.size, 0, none⟩ = some (.int .i64 a) ∧ wx.cell? ⟨w6.heap.size, 1, none⟩ = some (.int .i64 m)) ∧ (wx.cell? ⟨w7.heap.size, 0, none⟩ = some (.int .i64 a) ∧ wx.cell? ⟨w7.heap.size, 1, none⟩ = some (.int .i64 0))) (first | (with_reducible assumption)) (first | (go_at_call 39; (with_reducible refine (wpBin_any 11 a b a 0 _).mono ?_); rintro e w8 ⟨rfl, hb⟩; rw [L0w.out, L0n.out]; replace A := A.keep hb; replace B := B.keep hb; replace O := O.keep hb; replace MM := MM.keep hb; replace ZZ := ZZ.keep hb; replace K := below_two K hb; clear hb; replace sS := cells5 A B O MM ZZ) | (go_at_call 39; (with_reducible refine (wpBin_any 11 a b a 1 _).mono ?_); rintro e w8 ⟨rfl, hb⟩; rw [L1w.out, L1n.out]; replace A := A.keep hb; replace B := B.keep hb; replace O := O.keep hb; replace MM := MM.keep hb; replace ZZ := ZZ.keep hb; replace K := below_two K hb; clear hb; replace sS := cells5 A B O MM ZZ) | (go_at_call 39; (with_reducible refine (wpBin_any 6 a b a b _).mono ?_); rintro e w8 ⟨rfl, hb⟩; rw [Dw.out, Dn.out]; replace A := A.keep hb; replace B := B.keep hb; replace O := O.keep hb; replace MM := MM.keep hb; replace ZZ := ZZ.keep hb; replace K := below_two K hb; clear hb; replace sS := cells5 A B O MM ZZ) | (go_at_call 28; (with_reducible refine (vecSigned_impl a b _).mono ?_); rintro e w8 ⟨rfl, hb⟩; rw [SG.out]; replace A := A.keep hb; replace B := B.keep hb; replace O := O.keep hb; replace MM := MM.keep hb; replace ZZ := ZZ.keep hb; replace K := below_two K hb; clear hb; replace sS := cells5 A B O MM ZZ) | (go_at_call 39; (with_reducible refine (wpBin_any 13 a b a d _).mono ?_); rintro e w8 ⟨rfl, hb⟩; rw [S13w.out, S13n.out]; replace A := A.keep hb; replace B := B.keep hb; replace O := O.keep hb; replace MM := MM.keep hb; replace ZZ := ZZ.keep hb; replace K := below_two K hb; clear hb; replace sS := cells5 A B O MM ZZ) | (go_at_call 39; (with_reducible refine (wpBin_any 12 a b a d _).mono ?_); rintro e w8 ⟨rfl, hb⟩; rw [S12w.out, S12n.out]; replace A := A.keep hb; replace B := B.keep hb; replace O := O.keep hb; replace MM := MM.keep hb; replace ZZ := ZZ.keep hb; replace K := below_two K hb; clear hb; replace sS := cells5 A B O MM ZZ)))
                | fail
              clear sS
              obtain ⟨A0, A1, A2⟩ := A.cells
              obtain ⟨B0, B1, B2⟩ := B.cells
              obtain ⟨O0, O1, O2⟩ := O.cells
              obtain ⟨MM0, MM1, MM2⟩ := MM.cells
              obtain ⟨ZZ0, ZZ1, ZZ2⟩ := ZZ.cells
              go_wp2_with fail
              go_ret
              exact ⟨rfl, K⟩
      · have hac' : (a == c) = false := by simpa using hac
        refine (vecOk_impl c d _).mono ?_; rintro e w5 ⟨rfl, hb⟩
        rw [hv2]
        clear A0 A1 A2 B0 B1 B2 X0 X1 X2 Y0 Y1 Y2
        replace A := A.keep hb
        replace B := B.keep hb
        replace X := X.keep hb
        replace Y := Y.keep hb
        replace K := below_two K hb
        clear hb
        obtain ⟨A0, A1, A2⟩ := A.cells
        obtain ⟨B0, B1, B2⟩ := B.cells
        obtain ⟨X0, X1, X2⟩ := X.cells
        obtain ⟨Y0, Y1, Y2⟩ := Y.cells
        go_wp2_with fail
        go_ret
        exact ⟨rfl, K⟩
end Go.Proofs.Ytpnpjdebmakamaa
