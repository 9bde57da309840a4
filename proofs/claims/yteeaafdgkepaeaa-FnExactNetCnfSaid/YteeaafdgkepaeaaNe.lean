/- Nets: toNet, eqNet of the statements; NetSame of the reference and of the program. The conditions stand in each statement. -/
import Derived.Test.YteeaafdgkepaeaaNg
import Derived.Test.YteeaafdgkepaeaaBn
namespace Go.Proofs.Yteeaafdgkepaeaa
open Go.RowKit

theorem Gates.form {w : World} {v : Value} {l : List Gt} (h : Gates w v l) : ∃ a cap, v = .slice a l.length cap := by
  obtain ⟨a, cap, rfl, _⟩ := h; exact ⟨a, cap, rfl⟩
theorem gates_own {w : World} {base : Nat} {e : TypeId} {v : Value} {gs : List Gt} (h : w.ownsRow base e 3 v gs.length (fillS (gcell gs) gzero gs.length 3 gs.length)) : Gates w v gs := by
  obtain ⟨a, cap, rfl, hr⟩ := RowS.of_own (by omega) h
  exact ⟨a, cap, rfl, hr⟩

def NewNet (m : Int) (gs : List Gt) (w : World) (e : Ending) (w' : World) : Prop := ∃ v, e = .returned (.agg #[.int .i64 m, v]) ∧ w'.ownsRow w.heap.size 47 3 v gs.length (fillS (gcell gs) gzero gs.length 3 gs.length) ∧ Below w.heap.size w w'

set_option maxHeartbeats 1000000 in
theorem toNet_any (m : Int) (v : Value) (gs : List Gt) (w : World) (h : Gates w v gs) (hn : gs.length ≤ 1048576) :
    Calls Try.prog 19 #[.agg #[.int .i64 m, v]] w (NewNet m gs w) := by
  obtain ⟨a, cap, rfl⟩ := h.form
  go_enter Try.func19, Try.ntmps19
  go_wp2_with fail
  have hb0 := below_res3 (w := w) (o := .cells #[.int .i64 m, .slice a gs.length cap] 34) (o' := .cells #[.int .i64 0, .slice none 0 0] 39) (o'' := .cells #[.int .i64 m, .slice none 0 0] 39) (Below.refl _ _)
  refine (toGateS_any _ gs _ (h.below hb0) hn).mono ?_; rintro e w1 ⟨v1, rfl, o1, b1⟩
  have K2 : Blk w1 (w.heap.size + 1 + 1) (.int .i64 m) (.slice none 0 0) 39 := (blk_new2 w _ _ _ _ _).keep b1
  have K1 : Blk w1 (w.heap.size + 1) (.int .i64 0) (.slice none 0 0) 39 := ((blk_new1 w _ _ _ _).alloc _).keep b1
  have B1 : Below w.heap.size w w1 := below_res3 b1
  obtain ⟨a2, c2, rfl, _⟩ := RowS.of_own (by omega) o1
  obtain ⟨k20, k21, k22⟩ := K2.cells
  obtain ⟨f20, f21⟩ := K2.frozen
  obtain ⟨k10, k11, k12⟩ := K1.cells
  obtain ⟨f10, f11⟩ := K1.frozen
  have O : Hid (w1.ownsRow (w.heap.size + 1 + 1 + 1) 47 3 (.slice a2 gs.length c2) gs.length (fillS (gcell gs) gzero gs.length 3 gs.length)) := by have o3 := o1; simp at o3; exact o3
  clear o1 h hb0 b1 hn
  go_wp2_with fail
  have R := ((K1.set_other (p := ⟨w.heap.size + 1 + 1, 1, none⟩) (z := .slice a2 gs.length c2) (by simp)).set0 (.int .i64 m)).set1 (.slice a2 gs.length c2)
  obtain ⟨r0, r1, _⟩ := R.cells
  have B2 := ((B1.setCell (p := ⟨w.heap.size + 1 + 1, 1, none⟩) (by simp; omega) (.slice a2 gs.length c2)).setCell (p := ⟨w.heap.size + 1, 0, none⟩) (by simp) (.int .i64 m)).setCell (p := ⟨w.heap.size + 1, 1, none⟩) (by simp) (.slice a2 gs.length c2)
  have O2 := ownsRow_setCell_below (ownsRow_setCell_below (ownsRow_setCell_below O.out (a := ⟨w.heap.size + 1 + 1, 1, none⟩) (by simp) (.slice a2 gs.length c2)) (a := ⟨w.heap.size + 1, 0, none⟩) (by simp) (.int .i64 m)) (a := ⟨w.heap.size + 1, 1, none⟩) (by simp) (.slice a2 gs.length c2)
  exact bodyPost_ret (v := .agg #[.int .i64 m, .slice a2 gs.length c2]) (by simp [results, Try.results19, go_sem, r0, r1]) rfl ⟨_, rfl, Go.Joins.ownsRow_le O2 (by omega), B2⟩

theorem three_keep {w w' : World} (hb : Below w.heap.size w w') {b o : Nat} {x y z : Value} (hl : b < w.heap.size) (h : w.cell? ⟨b, o, none⟩ = some x ∧ w.cell? ⟨b, o + 1, none⟩ = some y ∧ w.cell? ⟨b, o + 2, none⟩ = some z) :
    w'.cell? ⟨b, o, none⟩ = some x ∧ w'.cell? ⟨b, o + 1, none⟩ = some y ∧ w'.cell? ⟨b, o + 2, none⟩ = some z :=
  ⟨(hb.cell (p := ⟨b, o, none⟩) hl).trans h.1, (hb.cell (p := ⟨b, o + 1, none⟩) hl).trans h.2.1, (hb.cell (p := ⟨b, o + 2, none⟩) hl).trans h.2.2⟩
theorem three_drew {w : World} {b o : Nat} {x y z : Value} (h : w.cell? ⟨b, o, none⟩ = some x ∧ w.cell? ⟨b, o + 1, none⟩ = some y ∧ w.cell? ⟨b, o + 2, none⟩ = some z) :
    w.drew.cell? ⟨b, o, none⟩ = some x ∧ w.drew.cell? ⟨b, o + 1, none⟩ = some y ∧ w.drew.cell? ⟨b, o + 2, none⟩ = some z := h
def sameG (g h : Gt) : Bool := decide (g = h)
set_option maxHeartbeats 1000000 in
theorem eqGate_any (x : Bool) (a b : Int) (x' : Bool) (a' b' : Int) (w : World) :
    Calls Try.prog 66 #[.agg #[.bool x, .int .i64 a, .int .i64 b], .agg #[.bool x', .int .i64 a', .int .i64 b']] w fun e w' => e = .returned (.bool (sameG (x, a, b) (x', a', b'))) ∧ Below w.heap.size w w' := by
  have hb : Below w.heap.size w ((w.alloc (.cells #[.bool x, .int .i64 a, .int .i64 b] 47)).alloc (.cells #[.bool x', .int .i64 a', .int .i64 b'] 47)) := below_res (Below.refl _ _)
  have e : sameG (x, a, b) (x', a', b') = (decide (x = x') && (decide (a = a') && decide (b = b'))) := by simp [sameG, Bool.decide_and]
  rw [e]; clear e
  by_cases h0 : x = x'
  · rw [decide_eq_true h0, Bool.true_and]
    subst h0
    by_cases h1 : a = a'
    · have q1 : (a != a') = false := by simpa using h1
      rw [decide_eq_true h1, Bool.true_and]
      by_cases h2 : b = b'
      · have q2 : (b != b') = false := by simpa using h2
        rw [decide_eq_true h2]
        clear h1 h2
        go_enter Try.func66, Try.ntmps66
        go_wp2_with fail
        go_ret
        exact ⟨rfl, hb⟩
      · have q2 : (b != b') = true := by simpa using h2
        rw [decide_eq_false h2]
        clear h1 h2
        go_enter Try.func66, Try.ntmps66
        go_wp2_with fail
        go_ret
        exact ⟨rfl, hb⟩
    · have q1 : (a != a') = true := by simpa using h1
      rw [decide_eq_false h1, Bool.false_and]
      clear h1
      go_enter Try.func66, Try.ntmps66
      go_wp2_with fail
      go_ret
      exact ⟨rfl, hb⟩
  · rw [decide_eq_false h0, Bool.false_and]
    obtain rfl : x = !x' := by cases x <;> cases x' <;> simp_all
    clear h0
    go_enter Try.func66, Try.ntmps66
    go_wp2_with fail
    go_ret
    exact ⟨rfl, hb⟩

set_option maxHeartbeats 4000000 in
theorem eqGateS_any (v v' : Value) (l l' : List Gt) (w : World) (h : Gates w v l) (h' : Gates w v' l') :
    Calls Try.prog 49 #[v, v'] w fun e w' => e = .returned (.bool (decide (l = l'))) ∧ Below w.heap.size w w' := by
  have hl := h.len
  have hl' := h'.len
  obtain ⟨a, cap, rfl, hr⟩ := h
  obtain ⟨a', cap', rfl, hr'⟩ := h'
  by_cases hn : l.length = l'.length
  · rw [← hn] at hr'
    have D : Hid (∀ i, i < l.length → (l.getD i gz ≠ l'.getD i gz → decide (l = l') = false)) := fun i _ h => by simpa using list_ne_at gz h
    have E : Hid ((∀ i, i < l.length → l.getD i gz = l'.getD i gz) → decide (l = l') = true) := fun h => by simpa using list_eq_of gz hn h
    rw [← hn]
    generalize decide (l = l') = z at *
    clear hn hl'
    have B0 := Below.refl w.heap.size w
    go_enter Try.func49, Try.ntmps49
    go_wp2
    go_loopw [5] (fun i wr => ∃ k : Nat, k ≤ l.length ∧ i = .int .i64 k ∧ Hid (∀ i, i < k → l.getD i gz = l'.getD i gz) ∧ Below w.heap.size w wr) (fun i _ => l.length - (intOf i).toNat)
    case atStart => exact ⟨0, Nat.zero_le _, rfl, fun i hi => absurd hi (by omega), B0⟩
    case round =>
      obtain ⟨k, hk, rfl, hsame, B⟩ := hrel
      clear B0
      by_cases hlt : k < l.length
      · obtain ⟨b, off, rfl, g4, g5, g6, g7⟩ := (hr.below B).three hlt
        obtain ⟨b', off', rfl, g4', g5', g6', g7'⟩ := (hr'.below B).three hlt
        have S : Hid (l.getD k gz = l'.getD k gz → ∀ i, i < k + 1 → l.getD i gz = l'.getD i gz) := fun h i hi => by
          rcases Nat.lt_or_ge i k with h1 | h1
          · exact hsame.out i h1
          · rw [show i = k by omega]; exact h
        have D2 : Hid (l.getD k gz ≠ l'.getD k gz → z = false) := D.out k hlt
        clear hsame D E hr hr'
        generalize l.getD k gz = x at *
        generalize l'.getD k gz = y at *
        obtain ⟨x0, x1, x2⟩ := x
        obtain ⟨y0, y1, y2⟩ := y
        have hk0 : (0 : Int) ≤ (k : Int) := by omega
        have hk1 : (k : Int) < (l.length : Int) := by omega
        dsimp only at g5 g6 g7 g5' g6' g7'
        have C1 := fun w => eqGate_any x0 x1 x2 y0 y1 y2 w
        have sS := And.intro (three_drew (And.intro g5 (And.intro g6 g7))) (three_drew (And.intro g5' (And.intro g6' g7')))
        by_cases hxy : ((x0, x1, x2) : Gt) = (y0, y1, y2)
        · have eS : sameG (x0, x1, x2) (y0, y1, y2) = true := by simpa [sameG] using hxy
          rw [eS] at C1
          have S2 : Hid (∀ i, i < k + 1 → l.getD i gz = l'.getD i gz) := S.out hxy
          have C := Lib.hid C1
          clear S D2 C1 hxy eS
          replace B := B.drew
          go_wp2_with fail
          first
            | (go_region_held3 (fun wx : World => (wx.cell? ⟨b, off + k * 3, none⟩ = some (.bool x0) ∧ wx.cell? ⟨b, off + k * 3 + 1, none⟩ = some (.int .i64 x1) ∧ wx.cell? ⟨b, off + k * 3 + 2, none⟩ = some (.int .i64 x2)) ∧ (wx.cell? ⟨b', off' + k * 3, none⟩ = some (.bool y0) ∧ wx.cell? ⟨b', off' + k * 3 + 1, none⟩ = some (.int .i64 y1) ∧ wx.cell? ⟨b', off' + k * 3 + 2, none⟩ = some (.int .i64 y2))) (first | (with_reducible assumption)) (first | (go_at_call 66; (with_reducible refine (C.out _).mono ?_); rintro e w1 ⟨rfl, hb⟩; replace B := below_two B hb; replace sS := And.intro (three_keep hb g4 sS.1) (three_keep hb g4' sS.2); clear hb)))
            | fail
          go_wp2_with fail
          exact ⟨⟨k + 1, by omega, by go_num, S2, B⟩, by simp [intOf]; omega⟩
        · have hz := D2.out hxy
          subst hz
          have eS : sameG (x0, x1, x2) (y0, y1, y2) = false := by simpa [sameG] using hxy
          rw [eS] at C1
          have C := Lib.hid C1
          clear S D2 C1 hxy eS
          replace B := B.drew
          go_wp2_with fail
          first
            | (go_region_held3 (fun wx : World => (wx.cell? ⟨b, off + k * 3, none⟩ = some (.bool x0) ∧ wx.cell? ⟨b, off + k * 3 + 1, none⟩ = some (.int .i64 x1) ∧ wx.cell? ⟨b, off + k * 3 + 2, none⟩ = some (.int .i64 x2)) ∧ (wx.cell? ⟨b', off' + k * 3, none⟩ = some (.bool y0) ∧ wx.cell? ⟨b', off' + k * 3 + 1, none⟩ = some (.int .i64 y1) ∧ wx.cell? ⟨b', off' + k * 3 + 2, none⟩ = some (.int .i64 y2))) (first | (with_reducible assumption)) (first | (go_at_call 66; (with_reducible refine (C.out _).mono ?_); rintro e w1 ⟨rfl, hb⟩; replace B := below_two B hb; replace sS := And.intro (three_keep hb g4 sS.1) (three_keep hb g4' sS.2); clear hb)))
            | fail
          go_wp2_with fail
          go_ret
          exact ⟨rfl, B⟩
      · obtain rfl : k = l.length := by omega
        have hz := E.out hsame.out
        subst hz
        clear D E hsame hr hr'
        go_wp2_with fail
        go_ret
        exact ⟨rfl, B⟩
  · have hz : decide (l = l') = false := by simpa using fun e => hn (by rw [e])
    rw [hz]
    have hn' : ((l.length : Int) != (l'.length : Int)) = true := by simp; omega
    clear hr hr' hz
    go_enter Try.func49, Try.ntmps49
    go_wp2
    go_ret
    exact ⟨rfl, Below.refl _ _⟩
theorem dec_same {α : Type} [DecidableEq α] (m : Int) (l : α) : decide (m = m ∧ l = l) = true := by simp
/-- whether two nets are one -/
def sameN (m : Int) (l : List Gt) (m' : Int) (l' : List Gt) : Bool := decide (m = m' ∧ l = l')
theorem sameN_self (m : Int) (l : List Gt) : sameN m l m l = true := by simp [sameN]

set_option maxHeartbeats 1000000 in
theorem eqNet_any (m : Int) (v : Value) (ls : List Gt) (m' : Int) (v' : Value) (ls' : List Gt) (w : World) (h : Gates w v ls) (h' : Gates w v' ls') :
    Calls Try.prog 21 #[.agg #[.int .i64 m, v], .agg #[.int .i64 m', v']] w fun e w' => e = .returned (.bool (decide (m = m' ∧ ls = ls'))) ∧ Below w.heap.size w w' := by
  have hb : Below w.heap.size w ((w.alloc (.cells #[.int .i64 m, v] 39)).alloc (.cells #[.int .i64 m', v'] 39)) := below_res (Below.refl _ _)
  have h2 := h.below hb
  have h2' := h'.below hb
  obtain ⟨a, cap, rfl, _⟩ := h
  obtain ⟨a', cap', rfl, _⟩ := h'
  have C1 := eqGateS_any _ _ ls ls' _ h2 h2'
  by_cases hm : m = m'
  · subst hm
    have e : decide (m = m ∧ ls = ls') = decide (ls = ls') := by simp
    rw [e]; clear e
    generalize decide (ls = ls') = z at *
    have C := Lib.hid C1
    clear C1 h2 h2'
    cases z
    · go_enter Try.func21, Try.ntmps21
      go_wp2_with fail
      refine C.out.mono ?_; rintro e w1 ⟨rfl, b1⟩
      go_wp2_with fail
      go_ret
      exact ⟨rfl, below_two hb b1⟩
    · go_enter Try.func21, Try.ntmps21
      go_wp2_with fail
      refine C.out.mono ?_; rintro e w1 ⟨rfl, b1⟩
      go_wp2_with fail
      go_ret
      exact ⟨rfl, below_two hb b1⟩
  · have e : decide (m = m' ∧ ls = ls') = false := by simp [hm]
    rw [e]; clear e C1
    have hm2 : (m != m') = true := by simpa using hm
    go_enter Try.func21, Try.ntmps21
    go_wp2_with fail
    go_ret
    exact ⟨rfl, hb⟩
theorem eqNet_same (m : Int) (v : Value) (ls : List Gt) (v' : Value) (w : World) (h : Gates w v ls) (h' : Gates w v' ls) :
    Calls Try.prog 21 #[.agg #[.int .i64 m, v], .agg #[.int .i64 m, v']] w fun e w' => e = .returned (.bool true) ∧ Below w.heap.size w w' := by
  have := eqNet_any m v ls m v' ls w h h'
  rw [dec_same] at this
  exact this
end Go.Proofs.Yteeaafdgkepaeaa
