/- Formulas: what they read as; the statements' own copies, sizes and comparisons of them. The conditions stand in each statement. -/
import Derived.Test.YtjobbokjebhjgaaSt
namespace Go.Proofs.Ytjobbokjebhjgaa
open Go.RowKit

theorem OwnSS.le {w : World} {base base' : Nat} {tt ti : TypeId} {v : Value} {ls : List (List Int)} {k : Nat} {fs : List Value} (h : OwnSS w base tt ti v ls k fs) (hb : base' ≤ base) : OwnSS w base' tt ti v ls k fs :=
  ⟨Go.Joins.ownsRow_le h.top hb, fun i hi => Go.Joins.ownsRow_le (h.row i hi) hb, h.apart, h.off, h.rest⟩

theorem OwnSS.setBelow {w : World} {base : Nat} {tt ti : TypeId} {v : Value} {ls : List (List Int)} {k : Nat} {fs : List Value} (h : OwnSS w base tt ti v ls k fs) {a : Addr} (ha : a.block < base) (u : Value) : OwnSS (w.setCell a u) base tt ti v ls k fs :=
  ⟨ownsRow_setCell_below h.top ha u, fun i hi => ownsRow_setCell_below (h.row i hi) ha u, h.apart, h.off, h.rest⟩

set_option maxHeartbeats 400000 in
theorem szCnf_any (m : Int) (v : Value) (ls : List (List Int)) (left : Int) (w : World) (h : IntSS w v ls) (h0 : 0 ≤ left) (h1 : left ≤ 1048576) :
    Calls Try.prog 21 #[.agg #[.int .i64 m, v], .int .i64 left] w fun e w' => e = .returned (.int .i64 (szSS left ls)) ∧ Below w.heap.size w w' := by
  have hb := below_self_alloc w (.cells #[.int .i64 m, v] 35)
  have h2 := h.below hb
  obtain ⟨a, cap, F, rfl, _⟩ := h
  have C : Hid (Calls Try.prog 53 #[.slice a ls.length cap, .int .i64 left] (w.alloc (.cells #[.int .i64 m, .slice a ls.length cap] 35)) (DrewRet (.int .i64 (szSS left ls)) (w.alloc (.cells #[.int .i64 m, .slice a ls.length cap] 35)))) := szIntSS_any _ ls left _ h2 h0 h1
  obtain ⟨s1, s2, _⟩ := szSS_le ls left h0
  generalize szSS left ls = z at *
  by_cases hz : z < 0
  · obtain rfl : z = -1 := by omega
    go_enter Try.func21, Try.ntmps21
    go_wp2_with fail
    refine C.out.mono ?_; rintro e w1 ⟨rfl, n, rfl⟩
    go_wp2_with fail
    go_ret
    exact ⟨rfl, below_drewN hb _⟩
  · go_enter Try.func21, Try.ntmps21
    go_wp2_with fail
    refine C.out.mono ?_; rintro e w1 ⟨rfl, n, rfl⟩
    go_wp2_with fail
    go_ret
    exact ⟨rfl, below_drewN hb _⟩

theorem dec_same {α : Type} [DecidableEq α] (m : Int) (l : α) : decide (m = m ∧ l = l) = true := by simp
theorem IntSS.form {w : World} {v : Value} {l : List (List Int)} (h : IntSS w v l) : ∃ a cap, v = .slice a l.length cap := by
  obtain ⟨a, cap, _, rfl, _⟩ := h; exact ⟨a, cap, rfl⟩
/-- whether two formulas are one -/
def sameC (m : Int) (l : List (List Int)) (m' : Int) (l' : List (List Int)) : Bool := decide (m = m' ∧ l = l')
theorem sameC_self (m : Int) (l : List (List Int)) : sameC m l m l = true := by simp [sameC]
def NewCnf (m : Int) (ls : List (List Int)) (w : World) (e : Ending) (w' : World) : Prop := ∃ v fs, e = .returned (.agg #[.int .i64 m, v]) ∧ OwnSS w' w.heap.size 22 3 v ls ls.length fs ∧ Below w.heap.size w w'

set_option maxHeartbeats 1000000 in
theorem toCnf_any (m : Int) (v : Value) (ls : List (List Int)) (w : World) (h : IntSS w v ls) (hn : ls.length ≤ 1048576) (hm : ∀ i, i < ls.length → (ls.getD i []).length ≤ 1048576) :
    Calls Try.prog 23 #[.agg #[.int .i64 m, v]] w (NewCnf m ls w) := by
  obtain ⟨a, cap, F, e1, hr, hF⟩ := id h
  subst e1
  go_enter Try.func23, Try.ntmps23
  go_wp2_with fail
  have hb0 := below_res3 (w := w) (o := .cells #[.int .i64 m, .slice a ls.length cap] 35) (o' := .cells #[.int .i64 0, .slice none 0 0] 38) (o'' := .cells #[.int .i64 m, .slice none 0 0] 38) (Below.refl _ _)
  refine (toIntSS_any _ ls _ (h.below hb0) hn hm).mono ?_; rintro e w1 ⟨v1, fs, rfl, o1, b1⟩
  have K2 : Blk w1 (w.heap.size + 1 + 1) (.int .i64 m) (.slice none 0 0) 38 := (blk_new2 w _ _ _ _ _).keep b1
  have K1 : Blk w1 (w.heap.size + 1) (.int .i64 0) (.slice none 0 0) 38 := ((blk_new1 w _ _ _ _).alloc _).keep b1
  have B1 : Below w.heap.size w w1 := below_res3 b1
  obtain ⟨a2, c2, rfl, _⟩ := Row.of_own o1.top
  obtain ⟨k20, k21, k22⟩ := K2.cells
  obtain ⟨f20, f21⟩ := K2.frozen
  obtain ⟨k10, k11, k12⟩ := K1.cells
  obtain ⟨f10, f11⟩ := K1.frozen
  have O : Hid (OwnSS w1 ((w.heap.size + 1) + 1 + 1) 22 3 (.slice a2 ls.length c2) ls ls.length fs) := by have o3 := o1; simp at o3; exact o3
  clear o1 h hF hr hb0 b1 hm hn
  go_wp2_with fail
  have R := ((K1.set_other (p := ⟨w.heap.size + 1 + 1, 1, none⟩) (z := .slice a2 ls.length c2) (by simp)).set0 (.int .i64 m)).set1 (.slice a2 ls.length c2)
  obtain ⟨r0, r1, _⟩ := R.cells
  have B2 := ((B1.setCell (p := ⟨w.heap.size + 1 + 1, 1, none⟩) (by simp; omega) (.slice a2 ls.length c2)).setCell (p := ⟨w.heap.size + 1, 0, none⟩) (by simp) (.int .i64 m)).setCell (p := ⟨w.heap.size + 1, 1, none⟩) (by simp) (.slice a2 ls.length c2)
  have O2 := ((O.out.setBelow (a := ⟨w.heap.size + 1 + 1, 1, none⟩) (by simp) (.slice a2 ls.length c2)).setBelow (a := ⟨w.heap.size + 1, 0, none⟩) (by simp) (.int .i64 m)).setBelow (a := ⟨w.heap.size + 1, 1, none⟩) (by simp) (.slice a2 ls.length c2)
  exact bodyPost_ret (v := .agg #[.int .i64 m, .slice a2 ls.length c2]) (by simp [results, Try.results23, go_sem, r0, r1]) rfl ⟨_, fs, rfl, O2.le (by omega), B2⟩

set_option maxHeartbeats 1000000 in
theorem eqCnf_any (m : Int) (v : Value) (ls : List (List Int)) (m' : Int) (v' : Value) (ls' : List (List Int)) (w : World) (h : IntSS w v ls) (h' : IntSS w v' ls') :
    Calls Try.prog 25 #[.agg #[.int .i64 m, v], .agg #[.int .i64 m', v']] w fun e w' => e = .returned (.bool (decide (m = m' ∧ ls = ls'))) ∧ Below w.heap.size w w' := by
  have hb : Below w.heap.size w ((w.alloc (.cells #[.int .i64 m, v] 38)).alloc (.cells #[.int .i64 m', v'] 38)) := below_res (Below.refl _ _)
  have h2 := h.below hb
  have h2' := h'.below hb
  obtain ⟨a, cap, F, rfl, _⟩ := h
  obtain ⟨a', cap', F', rfl, _⟩ := h'
  have C1 := eqIntSS_any _ _ ls ls' _ h2 h2'
  by_cases hm : m = m'
  · subst hm
    have e : decide (m = m ∧ ls = ls') = decide (ls = ls') := by simp
    rw [e]; clear e
    generalize decide (ls = ls') = z at *
    have C := Lib.hid C1
    clear C1 h2 h2'
    cases z
    · go_enter Try.func25, Try.ntmps25
      go_wp2_with fail
      refine C.out.mono ?_; rintro e w1 ⟨rfl, n, rfl⟩
      go_wp2_with fail
      go_ret
      exact ⟨rfl, below_drewN hb _⟩
    · go_enter Try.func25, Try.ntmps25
      go_wp2_with fail
      refine C.out.mono ?_; rintro e w1 ⟨rfl, n, rfl⟩
      go_wp2_with fail
      go_ret
      exact ⟨rfl, below_drewN hb _⟩
  · have e : decide (m = m' ∧ ls = ls') = false := by simp [hm]
    rw [e]; clear e C1
    have hm2 : (m != m') = true := by simpa using hm
    go_enter Try.func25, Try.ntmps25
    go_wp2_with fail
    go_ret
    exact ⟨rfl, hb⟩
theorem eqCnf_same (m : Int) (v : Value) (ls : List (List Int)) (v' : Value) (w : World) (h : IntSS w v ls) (h' : IntSS w v' ls) :
    Calls Try.prog 25 #[.agg #[.int .i64 m, v], .agg #[.int .i64 m, v']] w fun e w' => e = .returned (.bool true) ∧ Below w.heap.size w w' := by
  have := eqCnf_any m v ls m v' ls w h h'
  rw [dec_same] at this
  exact this
end Go.Proofs.Ytjobbokjebhjgaa
