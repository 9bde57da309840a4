/- The walk of FnVecBits: for every argument the law returns true and leaves alone what was there. -/
import Derived.Test.YtpnpjdebmakamaaRg
import Derived.Test.YtpnpjdebmakamaaWq
import Derived.Test.YtpnpjdebmakamaaBy
import Derived.Test.YtpnpjdebmakamaaVs
import Derived.Test.YtpnpjdebmakamaaVq
namespace Go.Proofs.Ytpnpjdebmakamaa
open Go.RowKit

def bitsC (m n k : Int) : Bool := decide (binN 4 m (unN 1 m n) m (unN 1 m k) = unN 1 m (binN 3 m n m k)) && decide (binN 7 m (binN 4 m n m k) m (binN 3 m n m k) = binN 5 m n m k) &&
    decide (binN 6 m (binN 3 m n m k) m (binN 4 m n m k) = binN 6 m n m k) && decide (binN 5 m (binN 5 m n m k) m k = n) && decide (binN 3 m n m (binN 4 m n m k) = n) && decide (binN 4 m n m (binN 3 m n m k) = n)
theorem bits_nat : ∀ m : Nat, m < 5 → ∀ n : Nat, n < 16 → ∀ k : Nat, k < 16 → (!(vokB m n && vokB m k) || bitsC m n k) = true := by decide +kernel
theorem bits_facts {a b d : Int} (h : vokB a b = true) (h' : vokB a d = true) : bitsC a b d = true := by
  obtain ⟨m, n, rfl, rfl, q1, q2, q3⟩ := vok_natq h
  obtain ⟨m', k, e, rfl, _, _, q4⟩ := vok_natq h'
  have := bits_nat m q2 n q3 k q4
  simpa [h, h'] using this

set_option linter.unusedSimpArgs false in
set_option linter.unusedVariables false in
set_option maxRecDepth 20000 in
set_option maxHeartbeats 8000000 in
theorem walk_FnVecBits (v : Value) {w : World} (h : BytesIn w v) :
    Calls Try.prog 18 #[v] w fun e w' => e = .returned (.bool true) ∧ Below w.heap.size w w' := by
  obtain ⟨a0, len, cap, rfl⟩ : ∃ a len cap, v = .slice a len cap := by
    rcases h with ⟨a, c, rfl⟩ | ⟨b, off, len, cap, rfl, _⟩ <;> exact ⟨_, _, _, rfl⟩
  by_cases hb : (1048576 : Int) < len
  · go_enter Try.func18, Try.ntmps18
    go_wp2_with fail
    go_ret
    exact ⟨rfl, Below.refl _ _⟩
  go_enter Try.func18, Try.ntmps18
  go_wp2_with fail
  refine (drawVecBin_any _ _ h).mono ?_
  rintro e w1 ⟨_, rfl, ⟨op, a, b, c, d, rfl⟩, hb1⟩
  have K := hb1
  clear hb1
  replace K := below_step (below_step K (.cells #[.int .i64 a, .int .i64 b] 26)) (.cells #[.int .i64 c, .int .i64 d] 26)
  have A := (blk_new w1 (.int .i64 a) (.int .i64 b) 26).alloc (.cells #[.int .i64 c, .int .i64 d] 26)
  have B := blk_new1 w1 (.cells #[.int .i64 a, .int .i64 b] 26) (.int .i64 c) (.int .i64 d) 26
  obtain ⟨A0, A1, A2⟩ := A.cells
  obtain ⟨B0, B1, B2⟩ := B.cells
  go_wp2_with fail
  refine (vecBin_impl op a b c d _).mono ?_; rintro e w2 ⟨rfl, hb⟩
  clear A0 A1 A2 B0 B1 B2
  replace A := A.keep hb
  replace B := B.keep hb
  replace K := below_two K hb
  clear hb
  have nA : ¬ w1.heap.size = w2.heap.size := Nat.ne_of_lt A.lt
  have nB : ¬ (w1.heap.size + 1) = w2.heap.size := Nat.ne_of_lt B.lt
  replace A := A.alloc (.cells #[.int .i64 (binW op a b c d), .int .i64 (binN op a b c d)] 26)
  replace B := B.alloc (.cells #[.int .i64 (binW op a b c d), .int .i64 (binN op a b c d)] 26)
  replace K := below_step K (.cells #[.int .i64 (binW op a b c d), .int .i64 (binN op a b c d)] 26)
  have X := blk_new w2 (.int .i64 (binW op a b c d)) (.int .i64 (binN op a b c d)) 26
  obtain ⟨A0, A1, A2⟩ := A.cells
  obtain ⟨B0, B1, B2⟩ := B.cells
  obtain ⟨X0, X1, X2⟩ := X.cells
  go_wp2_with fail
  refine (vecBin_spec op a b c d _).mono ?_; rintro e w3 ⟨rfl, hb⟩
  clear A0 A1 A2 B0 B1 B2 X0 X1 X2
  clear nA nB
  replace A := A.keep hb
  replace B := B.keep hb
  replace X := X.keep hb
  replace K := below_two K hb
  clear hb
  have nA : ¬ w1.heap.size = w3.heap.size := Nat.ne_of_lt A.lt
  have nB : ¬ (w1.heap.size + 1) = w3.heap.size := Nat.ne_of_lt B.lt
  have nX : ¬ w2.heap.size = w3.heap.size := Nat.ne_of_lt X.lt
  replace A := A.alloc (.cells #[.int .i64 (binW op a b c d), .int .i64 (binN op a b c d)] 26)
  replace B := B.alloc (.cells #[.int .i64 (binW op a b c d), .int .i64 (binN op a b c d)] 26)
  replace X := X.alloc (.cells #[.int .i64 (binW op a b c d), .int .i64 (binN op a b c d)] 26)
  replace K := below_step K (.cells #[.int .i64 (binW op a b c d), .int .i64 (binN op a b c d)] 26)
  have Y := blk_new w3 (.int .i64 (binW op a b c d)) (.int .i64 (binN op a b c d)) 26
  obtain ⟨A0, A1, A2⟩ := A.cells
  obtain ⟨B0, B1, B2⟩ := B.cells
  obtain ⟨X0, X1, X2⟩ := X.cells
  obtain ⟨Y0, Y1, Y2⟩ := Y.cells
  go_wp2_with fail
  cases hv : vokB a b
  · refine (vecOk_impl a b _).mono ?_; rintro e w4 ⟨rfl, hb⟩
    rw [hv]
    clear A0 A1 A2 B0 B1 B2 X0 X1 X2 Y0 Y1 Y2
    clear nA nB nX
    replace A := A.keep hb
    replace B := B.keep hb
    replace X := X.keep hb
    replace Y := Y.keep hb
    replace K := below_two K hb
    clear hb
    obtain ⟨A0, A1, A2⟩ := A.cells
    obtain ⟨B0, B1, B2⟩ := B.cells
    obtain ⟨X0, X1, X2⟩ := X.cells
    obtain ⟨Y0, Y1, Y2⟩ := Y.cells
    go_wp2_with fail
    go_ret
    exact ⟨rfl, K⟩
  · refine (vecOk_impl a b _).mono ?_; rintro e w4 ⟨rfl, hb⟩
    rw [hv]
    clear A0 A1 A2 B0 B1 B2 X0 X1 X2 Y0 Y1 Y2
    clear nA nB nX
    replace A := A.keep hb
    replace B := B.keep hb
    replace X := X.keep hb
    replace Y := Y.keep hb
    replace K := below_two K hb
    clear hb
    obtain ⟨A0, A1, A2⟩ := A.cells
    obtain ⟨B0, B1, B2⟩ := B.cells
    obtain ⟨X0, X1, X2⟩ := X.cells
    obtain ⟨Y0, Y1, Y2⟩ := Y.cells
    go_wp2_with fail
    cases hv2 : vokB c d
    · refine (vecOk_impl c d _).mono ?_; rintro e w5 ⟨rfl, hb⟩
      rw [hv2]
      clear A0 A1 A2 B0 B1 B2 X0 X1 X2 Y0 Y1 Y2
      replace A := A.keep hb
      replace B := B.keep hb
      replace X := X.keep hb
      replace Y := Y.keep hb
      replace K := below_two K hb
      clear hb
      obtain ⟨A0, A1, A2⟩ := A.cells
      obtain ⟨B0, B1, B2⟩ := B.cells
      obtain ⟨X0, X1, X2⟩ := X.cells
      obtain ⟨Y0, Y1, Y2⟩ := Y.cells
      go_wp2_with fail
      go_ret
      exact ⟨rfl, K⟩
    · by_cases hac : a = c
      · subst hac
        have F := bits_facts hv hv2
        simp only [bitsC, Bool.and_eq_true, decide_eq_true_eq] at F
        obtain ⟨⟨⟨⟨⟨f1, f2⟩, f3⟩, f4⟩, f5⟩, f6⟩ := F
        have Vb := hv
        have Vd := hv2
        have Po := bin_ok (op := 3) (by decide) (by decide) Vb Vd
        generalize Pe : binN 3 a b a d = p at *
        have Vp := Po.2.1
        have Pn := Lib.hid Pe
        have Pw := Lib.hid Po.1
        clear Pe Po
        have Qo := bin_ok (op := 4) (by decide) (by decide) Vb Vd
        generalize Qe : binN 4 a b a d = q at *
        have Vq := Qo.2.1
        have Qn := Lib.hid Qe
        have Qw := Lib.hid Qo.1
        clear Qe Qo
        have NBo := un_ok (op := 1) (by decide) Vb
        generalize NBe : unN 1 a b = nb at *
        have Vnb := NBo.2
        have NBn := Lib.hid NBe
        have NBw := Lib.hid NBo.1
        clear NBe NBo
        have NDo := un_ok (op := 1) (by decide) Vd
        generalize NDe : unN 1 a d = nd at *
        have Vnd := NDo.2
        have NDn := Lib.hid NDe
        have NDw := Lib.hid NDo.1
        clear NDe NDo
        have NPo := un_ok (op := 1) (by decide) Vp
        generalize NPe : unN 1 a p = np at *
        have Vnp := NPo.2
        have NPn := Lib.hid NPe
        have NPw := Lib.hid NPo.1
        clear NPe NPo
        have DMo := bin_ok (op := 4) (by decide) (by decide) Vnb Vnd
        have DMn := Lib.hid (f1 : binN 4 a nb a nd = np)
        have DMw := Lib.hid DMo.1
        clear DMo
        have X5o := bin_ok (op := 5) (by decide) (by decide) Vb Vd
        generalize X5e : binN 5 a b a d = x at *
        have Vx := X5o.2.1
        have X5n := Lib.hid X5e
        have X5w := Lib.hid X5o.1
        clear X5e X5o
        have M7o := bin_ok (op := 7) (by decide) (by decide) Vq Vp
        have M7n := Lib.hid (f2 : binN 7 a q a p = x)
        have M7w := Lib.hid M7o.1
        clear M7o
        have To := bin_ok (op := 6) (by decide) (by decide) Vp Vq
        generalize Te : binN 6 a p a q = t at *
        have Vt := To.2.1
        have Tn := Lib.hid Te
        have Tw := Lib.hid To.1
        clear Te To
        have T2o := bin_ok (op := 6) (by decide) (by decide) Vb Vd
        have T2n := Lib.hid (f3.symm : binN 6 a b a d = t)
        have T2w := Lib.hid T2o.1
        clear T2o
        have Yo := bin_ok (op := 5) (by decide) (by decide) Vx Vd
        have Yn := Lib.hid (f4 : binN 5 a x a d = b)
        have Yw := Lib.hid Yo.1
        clear Yo
        have Y3o := bin_ok (op := 3) (by decide) (by decide) Vb Vq
        have Y3n := Lib.hid (f5 : binN 3 a b a q = b)
        have Y3w := Lib.hid Y3o.1
        clear Y3o
        have Y4o := bin_ok (op := 4) (by decide) (by decide) Vb Vp
        have Y4n := Lib.hid (f6 : binN 4 a b a p = b)
        have Y4w := Lib.hid Y4o.1
        clear Y4o
        clear f1 f2 f3 f4 f5 f6
        refine (vecOk_impl a d _).mono ?_; rintro e w5 ⟨rfl, hb⟩
        rw [hv2]
        clear A0 A1 A2 B0 B1 B2 X0 X1 X2 Y0 Y1 Y2
        replace A := A.keep hb
        replace B := B.keep hb
        replace X := X.keep hb
        replace Y := Y.keep hb
        replace K := below_two K hb
        clear hb
        obtain ⟨A0, A1, A2⟩ := A.cells
        obtain ⟨B0, B1, B2⟩ := B.cells
        obtain ⟨X0, X1, X2⟩ := X.cells
        obtain ⟨Y0, Y1, Y2⟩ := Y.cells
        go_wp2_with fail
        refine (wpBin_any 3 a b a d _).mono ?_; rintro e w6 ⟨rfl, hb⟩
        rw [Pw.out, Pn.out]
        clear A0 A1 A2 B0 B1 B2 X0 X1 X2 Y0 Y1 Y2
        replace A := A.keep hb
        replace B := B.keep hb
        replace X := X.keep hb
        replace Y := Y.keep hb
        replace K := below_two K hb
        clear hb
        have nA : ¬ w1.heap.size = w6.heap.size := Nat.ne_of_lt A.lt
        have nB : ¬ (w1.heap.size + 1) = w6.heap.size := Nat.ne_of_lt B.lt
        have nX : ¬ w2.heap.size = w6.heap.size := Nat.ne_of_lt X.lt
        have nY : ¬ w3.heap.size = w6.heap.size := Nat.ne_of_lt Y.lt
        replace A := A.alloc (.cells #[.int .i64 a, .int .i64 p] 26)
        replace B := B.alloc (.cells #[.int .i64 a, .int .i64 p] 26)
        replace X := X.alloc (.cells #[.int .i64 a, .int .i64 p] 26)
        replace Y := Y.alloc (.cells #[.int .i64 a, .int .i64 p] 26)
        replace K := below_step K (.cells #[.int .i64 a, .int .i64 p] 26)
        have G := blk_new w6 (.int .i64 a) (.int .i64 p) 26
        obtain ⟨A0, A1, A2⟩ := A.cells
        obtain ⟨B0, B1, B2⟩ := B.cells
        obtain ⟨X0, X1, X2⟩ := X.cells
        obtain ⟨Y0, Y1, Y2⟩ := Y.cells
        obtain ⟨G0, G1, G2⟩ := G.cells
        go_wp2_with fail
        refine (wpBin_any 4 a b a d _).mono ?_; rintro e w7 ⟨rfl, hb⟩
        rw [Qw.out, Qn.out]
        clear A0 A1 A2 B0 B1 B2 X0 X1 X2 Y0 Y1 Y2 G0 G1 G2
        clear nA nB nX nY
        replace A := A.keep hb
        replace B := B.keep hb
        replace X := X.keep hb
        replace Y := Y.keep hb
        replace G := G.keep hb
        replace K := below_two K hb
        clear hb
        have nA : ¬ w1.heap.size = w7.heap.size := Nat.ne_of_lt A.lt
        have nB : ¬ (w1.heap.size + 1) = w7.heap.size := Nat.ne_of_lt B.lt
        have nX : ¬ w2.heap.size = w7.heap.size := Nat.ne_of_lt X.lt
        have nY : ¬ w3.heap.size = w7.heap.size := Nat.ne_of_lt Y.lt
        have nG : ¬ w6.heap.size = w7.heap.size := Nat.ne_of_lt G.lt
        replace A := A.alloc (.cells #[.int .i64 a, .int .i64 q] 26)
        replace B := B.alloc (.cells #[.int .i64 a, .int .i64 q] 26)
        replace X := X.alloc (.cells #[.int .i64 a, .int .i64 q] 26)
        replace Y := Y.alloc (.cells #[.int .i64 a, .int .i64 q] 26)
        replace G := G.alloc (.cells #[.int .i64 a, .int .i64 q] 26)
        replace K := below_step K (.cells #[.int .i64 a, .int .i64 q] 26)
        have H := blk_new w7 (.int .i64 a) (.int .i64 q) 26
        obtain ⟨A0, A1, A2⟩ := A.cells
        obtain ⟨B0, B1, B2⟩ := B.cells
        obtain ⟨X0, X1, X2⟩ := X.cells
        obtain ⟨Y0, Y1, Y2⟩ := Y.cells
        obtain ⟨G0, G1, G2⟩ := G.cells
        obtain ⟨H0, H1, H2⟩ := H.cells
        go_wp2_with fail
        clear A0 A1 A2 B0 B1 B2 X0 X1 X2 Y0 Y1 Y2 G0 G1 G2 H0 H1 H2
        clear nA nB nX nY nG
        replace A := A.drew
        replace B := B.drew
        replace X := X.drew
        replace Y := Y.drew
        replace G := G.drew
        replace H := H.drew
        replace K := K.drew
        have sS := cells4 A B G H
        go_region_held3 (fun wx => (wx.cell? ⟨w1.heap.size, 0, none⟩ = some (.int .i64 a) ∧ wx.cell? ⟨w1.heap.size, 1, none⟩ = some (.int .i64 b)) ∧ (wx.cell? ⟨(w1.heap.size + 1), 0, none⟩ = some (.int .i64 a) ∧ wx.cell? ⟨(w1.heap.size + 1), 1, none⟩ = some (.int .i64 d)) ∧ (wx.cell? ⟨w6.heap.size, 0, none⟩ = some (.int .i64 a) ∧ wx.cell? ⟨w6.heap.size, 1, none⟩ = some (.int .i64 p)) ∧ (wx.cell? ⟨w7.heap.size, 0, none⟩ = some (.int .i64 a) ∧ wx.cell? ⟨w7.heap.size, 1, none⟩ = some (.int .i64 q)))
          (first | (with_reducible assumption))
          (first
            | (go_at_call 43; (with_reducible refine (wpUn_any 1 a p _).mono ?_); rintro e w8 ⟨rfl, hb⟩; rw [NPw.out, NPn.out]; replace A := A.keep hb; replace B := B.keep hb; replace X := X.keep hb; replace Y := Y.keep hb; replace G := G.keep hb; replace H := H.keep hb; replace K := below_two K hb; clear hb; replace sS := cells4 A B G H)
            | (go_at_call 43; (with_reducible refine (wpUn_any 1 a b _).mono ?_); rintro e w8 ⟨rfl, hb⟩; rw [NBw.out, NBn.out]; replace A := A.keep hb; replace B := B.keep hb; replace X := X.keep hb; replace Y := Y.keep hb; replace G := G.keep hb; replace H := H.keep hb; replace K := below_two K hb; clear hb; replace sS := cells4 A B G H)
            | (go_at_call 43; (with_reducible refine (wpUn_any 1 a d _).mono ?_); rintro e w8 ⟨rfl, hb⟩; rw [NDw.out, NDn.out]; replace A := A.keep hb; replace B := B.keep hb; replace X := X.keep hb; replace Y := Y.keep hb; replace G := G.keep hb; replace H := H.keep hb; replace K := below_two K hb; clear hb; replace sS := cells4 A B G H)
            | (go_at_call 39; (with_reducible refine (wpBin_any 4 a nb a nd _).mono ?_); rintro e w8 ⟨rfl, hb⟩; rw [DMw.out, DMn.out]; replace A := A.keep hb; replace B := B.keep hb; replace X := X.keep hb; replace Y := Y.keep hb; replace G := G.keep hb; replace H := H.keep hb; replace K := below_two K hb; clear hb; replace sS := cells4 A B G H)
            | (go_at_call 39; (with_reducible refine (wpBin_any 5 a b a d _).mono ?_); rintro e w8 ⟨rfl, hb⟩; rw [X5w.out, X5n.out]; replace A := A.keep hb; replace B := B.keep hb; replace X := X.keep hb; replace Y := Y.keep hb; replace G := G.keep hb; replace H := H.keep hb; replace K := below_two K hb; clear hb; replace sS := cells4 A B G H)
            | (go_at_call 39; (with_reducible refine (wpBin_any 7 a q a p _).mono ?_); rintro e w8 ⟨rfl, hb⟩; rw [M7w.out, M7n.out]; replace A := A.keep hb; replace B := B.keep hb; replace X := X.keep hb; replace Y := Y.keep hb; replace G := G.keep hb; replace H := H.keep hb; replace K := below_two K hb; clear hb; replace sS := cells4 A B G H))
        clear sS
        obtain ⟨A0, A1, A2⟩ := A.cells
        obtain ⟨B0, B1, B2⟩ := B.cells
        obtain ⟨X0, X1, X2⟩ := X.cells
        obtain ⟨Y0, Y1, Y2⟩ := Y.cells
        obtain ⟨G0, G1, G2⟩ := G.cells
        obtain ⟨H0, H1, H2⟩ := H.cells
        go_wp2_with fail
        clear A0 A1 A2 B0 B1 B2 X0 X1 X2 Y0 Y1 Y2 G0 G1 G2 H0 H1 H2
        replace A := A.drew
        replace B := B.drew
        replace X := X.drew
        replace Y := Y.drew
        replace G := G.drew
        replace H := H.drew
        replace K := K.drew
        have sS := cells4 A B G H
        go_region_held3 (fun wx => (wx.cell? ⟨w1.heap.size, 0, none⟩ = some (.int .i64 a) ∧ wx.cell? ⟨w1.heap.size, 1, none⟩ = some (.int .i64 b)) ∧ (wx.cell? ⟨(w1.heap.size + 1), 0, none⟩ = some (.int .i64 a) ∧ wx.cell? ⟨(w1.heap.size + 1), 1, none⟩ = some (.int .i64 d)) ∧ (wx.cell? ⟨w6.heap.size, 0, none⟩ = some (.int .i64 a) ∧ wx.cell? ⟨w6.heap.size, 1, none⟩ = some (.int .i64 p)) ∧ (wx.cell? ⟨w7.heap.size, 0, none⟩ = some (.int .i64 a) ∧ wx.cell? ⟨w7.heap.size, 1, none⟩ = some (.int .i64 q)))
          (first | (with_reducible assumption))
          (first
            | (go_at_call 39; (with_reducible refine (wpBin_any 6 a p a q _).mono ?_); rintro e w9 ⟨rfl, hb⟩; rw [Tw.out, Tn.out]; replace A := A.keep hb; replace B := B.keep hb; replace X := X.keep hb; replace Y := Y.keep hb; replace G := G.keep hb; replace H := H.keep hb; replace K := below_two K hb; clear hb; replace sS := cells4 A B G H)
            | (go_at_call 39; (with_reducible refine (wpBin_any 6 a b a d _).mono ?_); rintro e w9 ⟨rfl, hb⟩; rw [T2w.out, T2n.out]; replace A := A.keep hb; replace B := B.keep hb; replace X := X.keep hb; replace Y := Y.keep hb; replace G := G.keep hb; replace H := H.keep hb; replace K := below_two K hb; clear hb; replace sS := cells4 A B G H)
            | (go_at_call 39; (with_reducible refine (wpBin_any 5 a b a d _).mono ?_); rintro e w9 ⟨rfl, hb⟩; rw [X5w.out, X5n.out]; replace A := A.keep hb; replace B := B.keep hb; replace X := X.keep hb; replace Y := Y.keep hb; replace G := G.keep hb; replace H := H.keep hb; replace K := below_two K hb; clear hb; replace sS := cells4 A B G H)
            | (go_at_call 39; (with_reducible refine (wpBin_any 5 a x a d _).mono ?_); rintro e w9 ⟨rfl, hb⟩; rw [Yw.out, Yn.out]; replace A := A.keep hb; replace B := B.keep hb; replace X := X.keep hb; replace Y := Y.keep hb; replace G := G.keep hb; replace H := H.keep hb; replace K := below_two K hb; clear hb; replace sS := cells4 A B G H)
            | (go_at_call 39; (with_reducible refine (wpBin_any 3 a b a q _).mono ?_); rintro e w9 ⟨rfl, hb⟩; rw [Y3w.out, Y3n.out]; replace A := A.keep hb; replace B := B.keep hb; replace X := X.keep hb; replace Y := Y.keep hb; replace G := G.keep hb; replace H := H.keep hb; replace K := below_two K hb; clear hb; replace sS := cells4 A B G H)
            | (go_at_call 39; (with_reducible refine (wpBin_any 4 a b a p _).mono ?_); rintro e w9 ⟨rfl, hb⟩; rw [Y4w.out, Y4n.out]; replace A := A.keep hb; replace B := B.keep hb; replace X := X.keep hb; replace Y := Y.keep hb; replace G := G.keep hb; replace H := H.keep hb; replace K := below_two K hb; clear hb; replace sS := cells4 A B G H))
        clear sS
        obtain ⟨A0, A1, A2⟩ := A.cells
        obtain ⟨B0, B1, B2⟩ := B.cells
        obtain ⟨X0, X1, X2⟩ := X.cells
        obtain ⟨Y0, Y1, Y2⟩ := Y.cells
        obtain ⟨G0, G1, G2⟩ := G.cells
        obtain ⟨H0, H1, H2⟩ := H.cells
        go_wp2_with fail
        go_ret
        exact ⟨rfl, K⟩
      · have hac' : (a == c) = false := by simpa using hac
        refine (vecOk_impl c d _).mono ?_; rintro e w5 ⟨rfl, hb⟩
        rw [hv2]
        clear A0 A1 A2 B0 B1 B2 X0 X1 X2 Y0 Y1 Y2
        replace A := A.keep hb
        replace B := B.keep hb
        replace X := X.keep hb
        replace Y := Y.keep hb
        replace K := below_two K hb
        clear hb
        obtain ⟨A0, A1, A2⟩ := A.cells
        obtain ⟨B0, B1, B2⟩ := B.cells
        obtain ⟨X0, X1, X2⟩ := X.cells
        obtain ⟨Y0, Y1, Y2⟩ := Y.cells
        go_wp2_with fail
        go_ret
        exact ⟨rfl, K⟩
end Go.Proofs.Ytpnpjdebmakamaa
