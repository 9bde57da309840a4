/- The walk of FnVecDiv: for every argument the law returns true and leaves alone what was there. -/
import Derived.Test.YtpnpjdebmakamaaRg
import Derived.Test.YtpnpjdebmakamaaWp
import Derived.Test.YtpnpjdebmakamaaBy
import Derived.Test.YtpnpjdebmakamaaVs
import Derived.Test.YtpnpjdebmakamaaVq
import Derived.Test.YtpnpjdebmakamaaWf
namespace Go.Proofs.Ytpnpjdebmakamaa
open Go.RowKit

def divB (m n k : Int) : Bool := vokB m n && vokB m k
def divC (m n k : Int) : Bool := decide (binW 9 m n m k = m) && decide (binW 10 m n m k = m) && decide (0 ≤ binN 9 m n m k ∧ binN 9 m n m k ≤ 15) && decide (0 ≤ binN 10 m n m k ∧ binN 10 m n m k ≤ 15) &&
    (if k = 0 then decide (binN 10 m n m k = n) && decide (unW 1 m k = m) && decide (unN 1 m k = binN 9 m n m k) else decide (binN 9 m n m k * k + binN 10 m n m k = n) && decide (binN 10 m n m k < k))
theorem div_nat : ∀ m : Nat, m < 5 → ∀ n : Nat, n < 16 → ∀ k : Nat, k < 16 → (!divB m n k || divC m n k) = true := by decide +kernel
theorem div_facts {a b d : Int} (h : vokB a b = true) (h' : vokB a d = true) : divC a b d = true := by
  obtain ⟨m, n, rfl, rfl, q1, q2, q3⟩ := vok_nat h
  obtain ⟨m', k, e, rfl, _, _, q4⟩ := vok_nat h'
  have := div_nat m q2 n q3 k q4
  simpa [divB, h, h'] using this

set_option linter.unusedSimpArgs false in
set_option linter.unusedVariables false in
set_option maxRecDepth 20000 in
set_option maxHeartbeats 8000000 in
theorem walk_FnVecDiv (v : Value) {w : World} (h : BytesIn w v) :
    Calls Try.prog 19 #[v] w fun e w' => e = .returned (.bool true) ∧ Below w.heap.size w w' := by
  obtain ⟨a0, len, cap, rfl⟩ : ∃ a len cap, v = .slice a len cap := by
    rcases h with ⟨a, c, rfl⟩ | ⟨b, off, len, cap, rfl, _⟩ <;> exact ⟨_, _, _, rfl⟩
  by_cases hb : (1048576 : Int) < len
  · go_enter Try.func19, Try.ntmps19
    go_wp2_with fail
    go_ret
    exact ⟨rfl, Below.refl _ _⟩
  go_enter Try.func19, Try.ntmps19
  go_wp2_with fail
  refine (drawVecBin_any _ _ h).mono ?_
  rintro e w1 ⟨_, rfl, ⟨op, a, b, c, d, rfl⟩, hb1⟩
  have K := hb1
  clear hb1
  replace K := below_step (below_step K (.cells #[.int .i64 a, .int .i64 b] 26)) (.cells #[.int .i64 c, .int .i64 d] 26)
  have A := (blk_new w1 (.int .i64 a) (.int .i64 b) 26).alloc (.cells #[.int .i64 c, .int .i64 d] 26)
  have B := blk_new1 w1 (.cells #[.int .i64 a, .int .i64 b] 26) (.int .i64 c) (.int .i64 d) 26
  obtain ⟨A0, A1, A2⟩ := A.cells
  obtain ⟨B0, B1, B2⟩ := B.cells
  go_wp2_with fail
  refine (vecBin_impl op a b c d _).mono ?_; rintro e w2 ⟨rfl, hb⟩
  clear A0 A1 A2 B0 B1 B2
  replace A := A.keep hb
  replace B := B.keep hb
  replace K := below_two K hb
  clear hb
  have nA : ¬ w1.heap.size = w2.heap.size := Nat.ne_of_lt A.lt
  have nB : ¬ (w1.heap.size + 1) = w2.heap.size := Nat.ne_of_lt B.lt
  replace A := A.alloc (.cells #[.int .i64 (binW op a b c d), .int .i64 (binN op a b c d)] 26)
  replace B := B.alloc (.cells #[.int .i64 (binW op a b c d), .int .i64 (binN op a b c d)] 26)
  replace K := below_step K (.cells #[.int .i64 (binW op a b c d), .int .i64 (binN op a b c d)] 26)
  have X := blk_new w2 (.int .i64 (binW op a b c d)) (.int .i64 (binN op a b c d)) 26
  obtain ⟨A0, A1, A2⟩ := A.cells
  obtain ⟨B0, B1, B2⟩ := B.cells
  obtain ⟨X0, X1, X2⟩ := X.cells
  go_wp2_with fail
  refine (vecBin_spec op a b c d _).mono ?_; rintro e w3 ⟨rfl, hb⟩
  clear A0 A1 A2 B0 B1 B2 X0 X1 X2
  clear nA nB
  replace A := A.keep hb
  replace B := B.keep hb
  replace X := X.keep hb
  replace K := below_two K hb
  clear hb
  have nA : ¬ w1.heap.size = w3.heap.size := Nat.ne_of_lt A.lt
  have nB : ¬ (w1.heap.size + 1) = w3.heap.size := Nat.ne_of_lt B.lt
  have nX : ¬ w2.heap.size = w3.heap.size := Nat.ne_of_lt X.lt
  replace A := A.alloc (.cells #[.int .i64 (binW op a b c d), .int .i64 (binN op a b c d)] 26)
  replace B := B.alloc (.cells #[.int .i64 (binW op a b c d), .int .i64 (binN op a b c d)] 26)
  replace X := X.alloc (.cells #[.int .i64 (binW op a b c d), .int .i64 (binN op a b c d)] 26)
  replace K := below_step K (.cells #[.int .i64 (binW op a b c d), .int .i64 (binN op a b c d)] 26)
  have Y := blk_new w3 (.int .i64 (binW op a b c d)) (.int .i64 (binN op a b c d)) 26
  obtain ⟨A0, A1, A2⟩ := A.cells
  obtain ⟨B0, B1, B2⟩ := B.cells
  obtain ⟨X0, X1, X2⟩ := X.cells
  obtain ⟨Y0, Y1, Y2⟩ := Y.cells
  go_wp2_with fail
  cases hv : vokB a b
  · refine (vecOk_impl a b _).mono ?_; rintro e w4 ⟨rfl, hb⟩
    rw [hv]
    clear A0 A1 A2 B0 B1 B2 X0 X1 X2 Y0 Y1 Y2
    clear nA nB nX
    replace A := A.keep hb
    replace B := B.keep hb
    replace X := X.keep hb
    replace Y := Y.keep hb
    replace K := below_two K hb
    clear hb
    obtain ⟨A0, A1, A2⟩ := A.cells
    obtain ⟨B0, B1, B2⟩ := B.cells
    obtain ⟨X0, X1, X2⟩ := X.cells
    obtain ⟨Y0, Y1, Y2⟩ := Y.cells
    go_wp2_with fail
    go_ret
    exact ⟨rfl, K⟩
  · refine (vecOk_impl a b _).mono ?_; rintro e w4 ⟨rfl, hb⟩
    rw [hv]
    clear A0 A1 A2 B0 B1 B2 X0 X1 X2 Y0 Y1 Y2
    clear nA nB nX
    replace A := A.keep hb
    replace B := B.keep hb
    replace X := X.keep hb
    replace Y := Y.keep hb
    replace K := below_two K hb
    clear hb
    obtain ⟨A0, A1, A2⟩ := A.cells
    obtain ⟨B0, B1, B2⟩ := B.cells
    obtain ⟨X0, X1, X2⟩ := X.cells
    obtain ⟨Y0, Y1, Y2⟩ := Y.cells
    go_wp2_with fail
    cases hv2 : vokB c d
    · refine (vecOk_impl c d _).mono ?_; rintro e w5 ⟨rfl, hb⟩
      rw [hv2]
      clear A0 A1 A2 B0 B1 B2 X0 X1 X2 Y0 Y1 Y2
      replace A := A.keep hb
      replace B := B.keep hb
      replace X := X.keep hb
      replace Y := Y.keep hb
      replace K := below_two K hb
      clear hb
      obtain ⟨A0, A1, A2⟩ := A.cells
      obtain ⟨B0, B1, B2⟩ := B.cells
      obtain ⟨X0, X1, X2⟩ := X.cells
      obtain ⟨Y0, Y1, Y2⟩ := Y.cells
      go_wp2_with fail
      go_ret
      exact ⟨rfl, K⟩
    · by_cases hac : a = c
      · subst hac
        have F := div_facts hv hv2
        simp only [divC, Bool.and_eq_true, decide_eq_true_eq] at F
        obtain ⟨⟨⟨⟨f1, f2⟩, f3, f4⟩, f5, f6⟩, f7⟩ := F
        obtain ⟨_, _, b0, _⟩ := vokB_bd hv
        obtain ⟨_, _, d0, _⟩ := vokB_bd hv2
        have b1 := vok_two hv
        have d1 := vok_two hv2
        have b2 := (vokB_bd hv).2.2.2
        have d2 := (vokB_bd hv2).2.2.2
        generalize eq : binN 9 a b a d = q at *
        generalize er : binN 10 a b a d = r at *
        have E1 := Lib.hid f1
        have E2 := Lib.hid f2
        have E3 := Lib.hid eq
        have E4 := Lib.hid er
        clear f1 f2 eq er
        by_cases hd : d = 0
        · subst hd
          simp only [if_true, Bool.and_eq_true, decide_eq_true_eq] at f7
          obtain ⟨⟨rfl, g1⟩, g2⟩ := f7
          have E5 := Lib.hid g1
          have E6 := Lib.hid g2
          clear g1 g2
          refine (vecOk_impl a 0 _).mono ?_; rintro e w5 ⟨rfl, hb⟩
          rw [hv2]
          clear A0 A1 A2 B0 B1 B2 X0 X1 X2 Y0 Y1 Y2
          replace A := A.keep hb
          replace B := B.keep hb
          replace X := X.keep hb
          replace Y := Y.keep hb
          replace K := below_two K hb
          clear hb
          obtain ⟨A0, A1, A2⟩ := A.cells
          obtain ⟨B0, B1, B2⟩ := B.cells
          obtain ⟨X0, X1, X2⟩ := X.cells
          obtain ⟨Y0, Y1, Y2⟩ := Y.cells
          go_wp2_with fail
          refine (wpBin_any 9 a r a 0 _).mono ?_; rintro e w6 ⟨rfl, hb⟩
          rw [E1.out, E3.out]
          clear A0 A1 A2 B0 B1 B2 X0 X1 X2 Y0 Y1 Y2
          replace A := A.keep hb
          replace B := B.keep hb
          replace X := X.keep hb
          replace Y := Y.keep hb
          replace K := below_two K hb
          clear hb
          have nA : ¬ w1.heap.size = w6.heap.size := Nat.ne_of_lt A.lt
          have nB : ¬ (w1.heap.size + 1) = w6.heap.size := Nat.ne_of_lt B.lt
          have nX : ¬ w2.heap.size = w6.heap.size := Nat.ne_of_lt X.lt
          have nY : ¬ w3.heap.size = w6.heap.size := Nat.ne_of_lt Y.lt
          replace A := A.alloc (.cells #[.int .i64 a, .int .i64 q] 26)
          replace B := B.alloc (.cells #[.int .i64 a, .int .i64 q] 26)
          replace X := X.alloc (.cells #[.int .i64 a, .int .i64 q] 26)
          replace Y := Y.alloc (.cells #[.int .i64 a, .int .i64 q] 26)
          replace K := below_step K (.cells #[.int .i64 a, .int .i64 q] 26)
          have Q := blk_new w6 (.int .i64 a) (.int .i64 q) 26
          obtain ⟨A0, A1, A2⟩ := A.cells
          obtain ⟨B0, B1, B2⟩ := B.cells
          obtain ⟨X0, X1, X2⟩ := X.cells
          obtain ⟨Y0, Y1, Y2⟩ := Y.cells
          obtain ⟨Q0, Q1, Q2⟩ := Q.cells
          go_wp2_with fail
          refine (wpBin_any 10 a r a 0 _).mono ?_; rintro e w7 ⟨rfl, hb⟩
          rw [E2.out, E4.out]
          clear A0 A1 A2 B0 B1 B2 X0 X1 X2 Y0 Y1 Y2 Q0 Q1 Q2
          clear nA nB nX nY
          replace A := A.keep hb
          replace B := B.keep hb
          replace X := X.keep hb
          replace Y := Y.keep hb
          replace Q := Q.keep hb
          replace K := below_two K hb
          clear hb
          have nA : ¬ w1.heap.size = w7.heap.size := Nat.ne_of_lt A.lt
          have nB : ¬ (w1.heap.size + 1) = w7.heap.size := Nat.ne_of_lt B.lt
          have nX : ¬ w2.heap.size = w7.heap.size := Nat.ne_of_lt X.lt
          have nY : ¬ w3.heap.size = w7.heap.size := Nat.ne_of_lt Y.lt
          have nQ : ¬ w6.heap.size = w7.heap.size := Nat.ne_of_lt Q.lt
          replace A := A.alloc (.cells #[.int .i64 a, .int .i64 r] 26)
          replace B := B.alloc (.cells #[.int .i64 a, .int .i64 r] 26)
          replace X := X.alloc (.cells #[.int .i64 a, .int .i64 r] 26)
          replace Y := Y.alloc (.cells #[.int .i64 a, .int .i64 r] 26)
          replace Q := Q.alloc (.cells #[.int .i64 a, .int .i64 r] 26)
          replace K := below_step K (.cells #[.int .i64 a, .int .i64 r] 26)
          have R := blk_new w7 (.int .i64 a) (.int .i64 r) 26
          obtain ⟨A0, A1, A2⟩ := A.cells
          obtain ⟨B0, B1, B2⟩ := B.cells
          obtain ⟨X0, X1, X2⟩ := X.cells
          obtain ⟨Y0, Y1, Y2⟩ := Y.cells
          obtain ⟨Q0, Q1, Q2⟩ := Q.cells
          obtain ⟨R0, R1, R2⟩ := R.cells
          go_wp2_with fail
          clear A0 A1 A2 B0 B1 B2 X0 X1 X2 Y0 Y1 Y2 Q0 Q1 Q2 R0 R1 R2
          clear nA nB nX nY nQ
          replace A := A.drew
          replace B := B.drew
          replace X := X.drew
          replace Y := Y.drew
          replace Q := Q.drew
          replace R := R.drew
          replace K := K.drew
          have sS := cells4 A B Q R
          go_region_held3 (fun wx => (wx.cell? ⟨w1.heap.size, 0, none⟩ = some (.int .i64 a) ∧ wx.cell? ⟨w1.heap.size, 1, none⟩ = some (.int .i64 r)) ∧ (wx.cell? ⟨(w1.heap.size + 1), 0, none⟩ = some (.int .i64 a) ∧ wx.cell? ⟨(w1.heap.size + 1), 1, none⟩ = some (.int .i64 0)) ∧ (wx.cell? ⟨w6.heap.size, 0, none⟩ = some (.int .i64 a) ∧ wx.cell? ⟨w6.heap.size, 1, none⟩ = some (.int .i64 q)) ∧ (wx.cell? ⟨w7.heap.size, 0, none⟩ = some (.int .i64 a) ∧ wx.cell? ⟨w7.heap.size, 1, none⟩ = some (.int .i64 r)))
            (first | (with_reducible assumption))
            (first
              | (go_at_call 43; (with_reducible refine (wpUn_any 1 a 0 _).mono ?_); rintro e w8 ⟨rfl, hb⟩; rw [E5.out, E6.out]; replace A := A.keep hb; replace B := B.keep hb; replace X := X.keep hb; replace Y := Y.keep hb; replace Q := Q.keep hb; replace R := R.keep hb; replace K := below_two K hb; clear hb; replace sS := cells4 A B Q R))
          clear sS
          obtain ⟨A0, A1, A2⟩ := A.cells
          obtain ⟨B0, B1, B2⟩ := B.cells
          obtain ⟨X0, X1, X2⟩ := X.cells
          obtain ⟨Y0, Y1, Y2⟩ := Y.cells
          obtain ⟨Q0, Q1, Q2⟩ := Q.cells
          obtain ⟨R0, R1, R2⟩ := R.cells
          go_wp2_with fail
          go_ret
          exact ⟨rfl, K⟩
        · simp only [hd, if_false, Bool.and_eq_true, decide_eq_true_eq] at f7
          obtain ⟨g1, g2⟩ := f7
          have g3 : 0 ≤ q * d := Int.mul_nonneg f3 d0
          have hd' : (d == 0) = false := by simpa using hd
          generalize hz : q * d = z at *
          have g4 : (z + r == b) = true := by simpa using g1
          have g5 : z ≤ 16 := by omega
          have g6 : b ≤ 16 := by omega
          clear g1
          refine (vecOk_impl a d _).mono ?_; rintro e w5 ⟨rfl, hb⟩
          rw [hv2]
          clear A0 A1 A2 B0 B1 B2 X0 X1 X2 Y0 Y1 Y2
          replace A := A.keep hb
          replace B := B.keep hb
          replace X := X.keep hb
          replace Y := Y.keep hb
          replace K := below_two K hb
          clear hb
          obtain ⟨A0, A1, A2⟩ := A.cells
          obtain ⟨B0, B1, B2⟩ := B.cells
          obtain ⟨X0, X1, X2⟩ := X.cells
          obtain ⟨Y0, Y1, Y2⟩ := Y.cells
          go_wp2_with fail
          refine (wpBin_any 9 a b a d _).mono ?_; rintro e w6 ⟨rfl, hb⟩
          rw [E1.out, E3.out]
          clear A0 A1 A2 B0 B1 B2 X0 X1 X2 Y0 Y1 Y2
          replace A := A.keep hb
          replace B := B.keep hb
          replace X := X.keep hb
          replace Y := Y.keep hb
          replace K := below_two K hb
          clear hb
          have nA : ¬ w1.heap.size = w6.heap.size := Nat.ne_of_lt A.lt
          have nB : ¬ (w1.heap.size + 1) = w6.heap.size := Nat.ne_of_lt B.lt
          have nX : ¬ w2.heap.size = w6.heap.size := Nat.ne_of_lt X.lt
          have nY : ¬ w3.heap.size = w6.heap.size := Nat.ne_of_lt Y.lt
          replace A := A.alloc (.cells #[.int .i64 a, .int .i64 q] 26)
          replace B := B.alloc (.cells #[.int .i64 a, .int .i64 q] 26)
          replace X := X.alloc (.cells #[.int .i64 a, .int .i64 q] 26)
          replace Y := Y.alloc (.cells #[.int .i64 a, .int .i64 q] 26)
          replace K := below_step K (.cells #[.int .i64 a, .int .i64 q] 26)
          have Q := blk_new w6 (.int .i64 a) (.int .i64 q) 26
          obtain ⟨A0, A1, A2⟩ := A.cells
          obtain ⟨B0, B1, B2⟩ := B.cells
          obtain ⟨X0, X1, X2⟩ := X.cells
          obtain ⟨Y0, Y1, Y2⟩ := Y.cells
          obtain ⟨Q0, Q1, Q2⟩ := Q.cells
          go_wp2_with fail
          refine (wpBin_any 10 a b a d _).mono ?_; rintro e w7 ⟨rfl, hb⟩
          rw [E2.out, E4.out]
          clear A0 A1 A2 B0 B1 B2 X0 X1 X2 Y0 Y1 Y2 Q0 Q1 Q2
          clear nA nB nX nY
          replace A := A.keep hb
          replace B := B.keep hb
          replace X := X.keep hb
          replace Y := Y.keep hb
          replace Q := Q.keep hb
          replace K := below_two K hb
          clear hb
          have nA : ¬ w1.heap.size = w7.heap.size := Nat.ne_of_lt A.lt
          have nB : ¬ (w1.heap.size + 1) = w7.heap.size := Nat.ne_of_lt B.lt
          have nX : ¬ w2.heap.size = w7.heap.size := Nat.ne_of_lt X.lt
          have nY : ¬ w3.heap.size = w7.heap.size := Nat.ne_of_lt Y.lt
          have nQ : ¬ w6.heap.size = w7.heap.size := Nat.ne_of_lt Q.lt
          replace A := A.alloc (.cells #[.int .i64 a, .int .i64 r] 26)
          replace B := B.alloc (.cells #[.int .i64 a, .int .i64 r] 26)
          replace X := X.alloc (.cells #[.int .i64 a, .int .i64 r] 26)
          replace Y := Y.alloc (.cells #[.int .i64 a, .int .i64 r] 26)
          replace Q := Q.alloc (.cells #[.int .i64 a, .int .i64 r] 26)
          replace K := below_step K (.cells #[.int .i64 a, .int .i64 r] 26)
          have R := blk_new w7 (.int .i64 a) (.int .i64 r) 26
          obtain ⟨A0, A1, A2⟩ := A.cells
          obtain ⟨B0, B1, B2⟩ := B.cells
          obtain ⟨X0, X1, X2⟩ := X.cells
          obtain ⟨Y0, Y1, Y2⟩ := Y.cells
          obtain ⟨Q0, Q1, Q2⟩ := Q.cells
          obtain ⟨R0, R1, R2⟩ := R.cells
          go_wp2_with fail
          go_ret
          exact ⟨rfl, K⟩
      · have hac' : (a == c) = false := by simpa using hac
        refine (vecOk_impl c d _).mono ?_; rintro e w5 ⟨rfl, hb⟩
        rw [hv2]
        clear A0 A1 A2 B0 B1 B2 X0 X1 X2 Y0 Y1 Y2
        replace A := A.keep hb
        replace B := B.keep hb
        replace X := X.keep hb
        replace Y := Y.keep hb
        replace K := below_two K hb
        clear hb
        obtain ⟨A0, A1, A2⟩ := A.cells
        obtain ⟨B0, B1, B2⟩ := B.cells
        obtain ⟨X0, X1, X2⟩ := X.cells
        obtain ⟨Y0, Y1, Y2⟩ := Y.cells
        go_wp2_with fail
        go_ret
        exact ⟨rfl, K⟩
end Go.Proofs.Ytpnpjdebmakamaa
