/- The walk of FnVecUn: for every argument the law returns true and leaves alone what was there. -/
import Derived.Test.YtpnpjdebmakamaaRg
import Derived.Test.YtpnpjdebmakamaaWq
import Derived.Test.YtpnpjdebmakamaaBy
import Derived.Test.YtpnpjdebmakamaaVs
namespace Go.Proofs.Ytpnpjdebmakamaa
open Go.RowKit

def unC (p m n : Int) : Bool := decide (unN p m (unN p m n) = n) && decide (unN 2 m n = binN 6 m (unN 1 m n) m 1)
theorem un_nat : ∀ m : Nat, m < 5 → ∀ n : Nat, n < 16 → (!vokB m n || (unC 1 m n && unC 2 m n && vokB m 1)) = true := by decide +kernel
theorem un_facts {op a b : Int} (ho : op = 1 ∨ op = 2) (h : vokB a b = true) : unN op a (unN op a b) = b ∧ unN 2 a b = binN 6 a (unN 1 a b) a 1 ∧ vokB a 1 = true := by
  obtain ⟨m, n, rfl, rfl, q1, q2, q3⟩ := vok_natq h
  have := un_nat m q2 n q3
  simp only [h, Bool.not_true, Bool.false_or, Bool.and_eq_true, unC, decide_eq_true_eq] at this
  obtain ⟨⟨⟨x1, x2⟩, x3, x4⟩, x5⟩ := this
  rcases ho with rfl | rfl
  · exact ⟨x1, x2, x5⟩
  · exact ⟨x3, x4, x5⟩
theorem un_split {op a b : Int} (h : unB op a b = true) : (op = 1 ∨ op = 2) ∧ vokB a b = true := by
  simp only [unB, Bool.and_eq_true, Bool.or_eq_true, decide_eq_true_eq] at h
  exact ⟨h.2, h.1⟩

set_option linter.unusedSimpArgs false in
set_option linter.unusedVariables false in
set_option maxRecDepth 20000 in
set_option maxHeartbeats 8000000 in
theorem walk_FnVecUn (v : Value) {w : World} (h : BytesIn w v) :
    Calls Try.prog 14 #[v] w fun e w' => e = .returned (.bool true) ∧ Below w.heap.size w w' := by
  obtain ⟨a0, len, cap, rfl⟩ : ∃ a len cap, v = .slice a len cap := by
    rcases h with ⟨a, c, rfl⟩ | ⟨b, off, len, cap, rfl, _⟩ <;> exact ⟨_, _, _, rfl⟩
  by_cases hb : (1048576 : Int) < len
  · go_enter Try.func14, Try.ntmps14
    go_wp2_with fail
    go_ret
    exact ⟨rfl, Below.refl _ _⟩
  go_enter Try.func14, Try.ntmps14
  go_wp2_with fail
  refine (drawVecUn_any _ _ h).mono ?_
  rintro e w1 ⟨_, rfl, ⟨op, a, b, rfl⟩, hb1⟩
  have K := hb1
  clear hb1
  replace K := below_step K (.cells #[.int .i64 a, .int .i64 b] 26)
  have A := blk_new w1 (.int .i64 a) (.int .i64 b) 26
  obtain ⟨A0, A1, A2⟩ := A.cells
  go_wp2_with fail
  cases hB : unB op a b
  · have hW : unW op a b = 0 := by simp [unW, hB]
    have hN : unN op a b = 0 := by simp [unN, hB]
    refine (vecUn_impl op a b _).mono ?_; rintro e w2 ⟨rfl, hb⟩
    rw [hW, hN, hB]
    clear A0 A1 A2
    replace A := A.keep hb
    replace K := below_two K hb
    clear hb
    have nA : ¬ w1.heap.size = w2.heap.size := Nat.ne_of_lt A.lt
    replace A := A.alloc (.cells #[.int .i64 0, .int .i64 0] 26)
    replace K := below_step K (.cells #[.int .i64 0, .int .i64 0] 26)
    have X := blk_new w2 (.int .i64 0) (.int .i64 0) 26
    obtain ⟨A0, A1, A2⟩ := A.cells
    obtain ⟨X0, X1, X2⟩ := X.cells
    go_wp2_with fail
    refine (vecUn_spec op a b _).mono ?_; rintro e w3 ⟨rfl, hb⟩
    rw [hW, hN, hB]
    clear A0 A1 A2 X0 X1 X2
    clear nA
    replace A := A.keep hb
    replace X := X.keep hb
    replace K := below_two K hb
    clear hb
    have nA : ¬ w1.heap.size = w3.heap.size := Nat.ne_of_lt A.lt
    have nX : ¬ w2.heap.size = w3.heap.size := Nat.ne_of_lt X.lt
    replace A := A.alloc (.cells #[.int .i64 0, .int .i64 0] 26)
    replace X := X.alloc (.cells #[.int .i64 0, .int .i64 0] 26)
    replace K := below_step K (.cells #[.int .i64 0, .int .i64 0] 26)
    have Y := blk_new w3 (.int .i64 0) (.int .i64 0) 26
    obtain ⟨A0, A1, A2⟩ := A.cells
    obtain ⟨X0, X1, X2⟩ := X.cells
    obtain ⟨Y0, Y1, Y2⟩ := Y.cells
    go_wp2_with fail
    go_ret
    exact ⟨rfl, K⟩
  · obtain ⟨ho, hv⟩ := un_split hB
    obtain ⟨f1, f2, V1⟩ := un_facts ho hv
    obtain ⟨f3, Vn⟩ := un_ok ho hv
    generalize hn : unN op a b = n at *
    have Nn := Lib.hid hn
    have Nw := Lib.hid f3
    have No := un_ok ho Vn
    have NNw := Lib.hid No.1
    have NNn := Lib.hid f1
    clear hn f3 f1 No
    have Vb := hv
    have To := un_ok (op := 1) (by decide) Vb
    generalize Te : unN 1 a b = t at *
    have Vt := To.2
    have Tn := Lib.hid Te
    have Tw := Lib.hid To.1
    clear Te To
    have Go := un_ok (op := 2) (by decide) Vb
    generalize Ge : unN 2 a b = g at *
    have Vg := Go.2
    have Gn := Lib.hid Ge
    have Gw := Lib.hid Go.1
    clear Ge Go
    have So := bin_ok (op := 6) (by decide) (by decide) Vt V1
    have Sn := Lib.hid (f2.symm : binN 6 a t a 1 = g)
    have Sw := Lib.hid So.1
    clear So
    clear f2
    have HB := Lib.hid hB
    clear hB
    refine (vecUn_impl op a b _).mono ?_; rintro e w2 ⟨rfl, hb⟩
    rw [Nw.out, Nn.out, HB.out]
    clear A0 A1 A2
    replace A := A.keep hb
    replace K := below_two K hb
    clear hb
    have nA : ¬ w1.heap.size = w2.heap.size := Nat.ne_of_lt A.lt
    replace A := A.alloc (.cells #[.int .i64 a, .int .i64 n] 26)
    replace K := below_step K (.cells #[.int .i64 a, .int .i64 n] 26)
    have X := blk_new w2 (.int .i64 a) (.int .i64 n) 26
    obtain ⟨A0, A1, A2⟩ := A.cells
    obtain ⟨X0, X1, X2⟩ := X.cells
    go_wp2_with fail
    refine (vecUn_spec op a b _).mono ?_; rintro e w3 ⟨rfl, hb⟩
    rw [Nw.out, Nn.out, HB.out]
    clear A0 A1 A2 X0 X1 X2
    clear nA
    replace A := A.keep hb
    replace X := X.keep hb
    replace K := below_two K hb
    clear hb
    have nA : ¬ w1.heap.size = w3.heap.size := Nat.ne_of_lt A.lt
    have nX : ¬ w2.heap.size = w3.heap.size := Nat.ne_of_lt X.lt
    replace A := A.alloc (.cells #[.int .i64 a, .int .i64 n] 26)
    replace X := X.alloc (.cells #[.int .i64 a, .int .i64 n] 26)
    replace K := below_step K (.cells #[.int .i64 a, .int .i64 n] 26)
    have Y := blk_new w3 (.int .i64 a) (.int .i64 n) 26
    obtain ⟨A0, A1, A2⟩ := A.cells
    obtain ⟨X0, X1, X2⟩ := X.cells
    obtain ⟨Y0, Y1, Y2⟩ := Y.cells
    go_wp2_with fail
    clear A0 A1 A2 X0 X1 X2 Y0 Y1 Y2
    clear nA nX
    replace A := A.alloc (.cells #[.int .i64 a, .int .i64 1] 26)
    replace X := X.alloc (.cells #[.int .i64 a, .int .i64 1] 26)
    have O := blk_new1 w3 (.cells #[.int .i64 a, .int .i64 n] 26) (.int .i64 a) (.int .i64 1) 26
    replace Y := Y.alloc (.cells #[.int .i64 a, .int .i64 1] 26)
    replace K := below_step K (.cells #[.int .i64 a, .int .i64 1] 26)
    generalize (w3.alloc (.cells #[.int .i64 a, .int .i64 n] 26)).alloc (.cells #[.int .i64 a, .int .i64 1] 26) = wz at *
    replace A := A.drew
    replace X := X.drew
    replace Y := Y.drew
    replace O := O.drew
    replace K := K.drew
    have sS := cells3 A X O
    first
      | (go_region_held3 (fun wx => (wx.cell? ⟨w1.heap.size, 0, none⟩ = some (.int .i64 a) ∧ wx.cell? ⟨w1.heap.size, 1, none⟩ = some (.int .i64 b)) ∧ (wx.cell? ⟨w2.heap.size, 0, none⟩ = some (.int .i64 a) ∧ wx.cell? ⟨w2.heap.size, 1, none⟩ = some (.int .i64 n)) ∧ (wx.cell? ⟨(w3.heap.size + 1), 0, none⟩ = some (.int .i64 a) ∧ wx.cell? ⟨(w3.heap.size + 1), 1, none⟩ = some (.int .i64 1))) (first | (with_reducible assumption)) (first | (go_at_call 23; (with_reducible refine (vecOk_impl a n _).mono ?_); rintro e w4 ⟨rfl, hb⟩; rw [Vn]; replace A := A.keep hb; replace X := X.keep hb; replace Y := Y.keep hb; replace O := O.keep hb; replace K := below_two K hb; clear hb; replace sS := cells3 A X O) | (go_at_call 43; (with_reducible refine (wpUn_any op a n _).mono ?_); rintro e w4 ⟨rfl, hb⟩; rw [NNw.out, NNn.out]; replace A := A.keep hb; replace X := X.keep hb; replace Y := Y.keep hb; replace O := O.keep hb; replace K := below_two K hb; clear hb; replace sS := cells3 A X O) | (go_at_call 43; (with_reducible refine (wpUn_any 2 a b _).mono ?_); rintro e w4 ⟨rfl, hb⟩; rw [Gw.out, Gn.out]; replace A := A.keep hb; replace X := X.keep hb; replace Y := Y.keep hb; replace O := O.keep hb; replace K := below_two K hb; clear hb; replace sS := cells3 A X O) | (go_at_call 43; (with_reducible refine (wpUn_any 1 a b _).mono ?_); rintro e w4 ⟨rfl, hb⟩; rw [Tw.out, Tn.out]; replace A := A.keep hb; replace X := X.keep hb; replace Y := Y.keep hb; replace O := O.keep hb; replace K := below_two K hb; clear hb; replace sS := cells3 A X O) | (go_at_call 39; (with_reducible refine (wpBin_any 6 a t a 1 _).mono ?_); rintro e w4 ⟨rfl, hb⟩; rw [Sw.out, Sn.out]; replace A := A.keep hb; replace X := X.keep hb; replace Y := Y.keep hb; replace O := O.keep hb; replace K := below_two K hb; clear hb; replace sS := cells3 A X O)))
      | fail
    clear sS
    obtain ⟨A0, A1, A2⟩ := A.cells
    obtain ⟨X0, X1, X2⟩ := X.cells
    obtain ⟨Y0, Y1, Y2⟩ := Y.cells
    obtain ⟨O0, O1, O2⟩ := O.cells
    go_wp2_with fail
    go_ret
    exact ⟨rfl, K⟩
end Go.Proofs.Ytpnpjdebmakamaa
