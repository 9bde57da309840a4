/- States of the search: the statements' own copies, sizes and comparisons of them; SatSame of the reference and of the program. The conditions stand in each statement. -/
import Derived.Test.YtjobbokjebhjgaaCe
import Derived.Test.YtjobbokjebhjgaaBn
namespace Go.Proofs.Ytjobbokjebhjgaa
open Go.RowKit

theorem Ints.form {w : World} {v : Value} {l : List Int} (h : Ints w v l) : ∃ a cap, v = .slice a l.length cap := by
  obtain ⟨a, cap, rfl, _⟩ := h; exact ⟨a, cap, rfl⟩

/-- what remains of the size behind a state -/
def szSat (left : Int) (p q : List Int) (ls : List (List Int)) : Int :=
  if left < p.length then -1 else if left - p.length < q.length then -1 else szSS (left - p.length - q.length) ls
theorem szSat_le (p q : List Int) (ls : List (List Int)) (left : Int) (h : 0 ≤ left) : -1 ≤ szSat left p q ls ∧ szSat left p q ls ≤ left ∧ (0 ≤ szSat left p q ls → (p.length : Int) ≤ left ∧ (q.length : Int) ≤ left ∧ (ls.length : Int) ≤ left ∧ ∀ i, i < ls.length → ((ls.getD i []).length : Int) ≤ left) := by
  unfold szSat
  by_cases h1 : left < p.length
  · rw [if_pos h1]; exact ⟨by omega, by omega, fun h => by omega⟩
  · rw [if_neg h1]
    by_cases h2 : left - p.length < q.length
    · rw [if_pos h2]; exact ⟨by omega, by omega, fun h => by omega⟩
    · rw [if_neg h2]
      obtain ⟨i1, i2, i3⟩ := szSS_le ls (left - p.length - q.length) (by omega)
      refine ⟨i1, by omega, fun h => ?_⟩
      obtain ⟨j1, j2⟩ := i3 h
      exact ⟨by omega, by omega, by omega, fun i hi => by have := j2 i hi; omega⟩

set_option maxHeartbeats 1000000 in
theorem szSat_any (vp vq vl : Value) (c : Int) (p q : List Int) (ls : List (List Int)) (left : Int) (w : World) (hp : Ints w vp p) (hq : Ints w vq q) (h : IntSS w vl ls) (h0 : 0 ≤ left) (h1 : left ≤ 1048576) :
    Calls Try.prog 28 #[.agg #[vp, vq, vl, .int .i64 c], .int .i64 left] w fun e w' => e = .returned (.int .i64 (szSat left p q ls)) ∧ Below w.heap.size w w' := by
  have hb := below_self_alloc w (.cells #[vp, vq, vl, .int .i64 c] 44)
  replace hp := hp.below hb
  replace hq := hq.below hb
  replace h := h.below hb
  have lp := hp.len
  have lq := hq.len
  obtain ⟨ap, cp, rfl⟩ := hp.form
  obtain ⟨aq, cq, rfl⟩ := hq.form
  obtain ⟨al, cl, rfl⟩ := h.form
  have C1 := szIntS_any _ p left _ hp h0 h1
  unfold szSat
  by_cases hc : left < (p.length : Int)
  · rw [if_pos hc] at C1 ⊢
    have C := Lib.hid C1
    clear C1 hp hq h
    go_enter Try.func28, Try.ntmps28
    go_wp2_with fail
    refine C.out.mono ?_; rintro e w1 ⟨rfl, rfl⟩
    go_wp2_with fail
    go_ret
    exact ⟨rfl, hb⟩
  · rw [if_neg hc] at C1 ⊢
    have C := Lib.hid C1
    clear C1 hp
    have D1 := szIntS_any _ q (left - p.length) _ hq (by omega) (by omega)
    by_cases hd : left - p.length < (q.length : Int)
    · rw [if_pos hd] at D1 ⊢
      have D := Lib.hid D1
      clear D1 hq h
      generalize hL : left - (p.length : Int) = L at *
      have L0 : 0 ≤ L := by omega
      have L1 : L ≤ 1048576 := by omega
      clear hL hc
      go_enter Try.func28, Try.ntmps28
      go_wp2_with fail
      refine C.out.mono ?_; rintro e w1 ⟨rfl, rfl⟩
      go_wp2_with fail
      refine D.out.mono ?_; rintro e w1 ⟨rfl, rfl⟩
      go_wp2_with fail
      go_ret
      exact ⟨rfl, hb⟩
    · rw [if_neg hd] at D1 ⊢
      have D := Lib.hid D1
      clear D1 hq
      have E := Lib.hid (szIntSS_any _ ls (left - p.length - q.length) _ h (by omega) (by omega))
      obtain ⟨s1, s2, _⟩ := szSS_le ls (left - p.length - q.length) (by omega)
      clear h
      generalize szSS (left - p.length - q.length) ls = z at *
      generalize hM : left - (p.length : Int) - (q.length : Int) = M at *
      generalize hL : left - (p.length : Int) = L at *
      have L0 : 0 ≤ L := by omega
      have L1 : L ≤ 1048576 := by omega
      have M0 : 0 ≤ M := by omega
      have M1 : M ≤ 1048576 := by omega
      clear hL hM hc hd
      by_cases hz : z < 0
      · obtain rfl : z = -1 := by omega
        go_enter Try.func28, Try.ntmps28
        go_wp2_with fail
        refine C.out.mono ?_; rintro e w1 ⟨rfl, rfl⟩
        go_wp2_with fail
        refine D.out.mono ?_; rintro e w1 ⟨rfl, rfl⟩
        go_wp2_with fail
        refine E.out.mono ?_; rintro e w1 ⟨rfl, n, rfl⟩
        go_wp2_with fail
        go_ret
        exact ⟨rfl, below_drewN hb _⟩
      · go_enter Try.func28, Try.ntmps28
        go_wp2_with fail
        refine C.out.mono ?_; rintro e w1 ⟨rfl, rfl⟩
        go_wp2_with fail
        refine D.out.mono ?_; rintro e w1 ⟨rfl, rfl⟩
        go_wp2_with fail
        refine E.out.mono ?_; rintro e w1 ⟨rfl, n, rfl⟩
        go_wp2_with fail
        go_ret
        exact ⟨rfl, below_drewN hb _⟩

/-- whether two states are one -/
def sameS (p q : List Int) (ls : List (List Int)) (c : Int) (p' q' : List Int) (ls' : List (List Int)) (c' : Int) : Bool := decide (c = c') && (decide (p = p') && (decide (q = q') && decide (ls = ls')))
theorem sameS_self (p q : List Int) (ls : List (List Int)) (c : Int) : sameS p q ls c p q ls c = true := by simp [sameS]

/-! ### by program: gen_ca.py -/
set_option linter.unusedSimpArgs false in
set_option linter.unusedVariables false in
set_option maxHeartbeats 4000000 in
theorem eqSat_any (vp vq vl : Value) (c : Int) (p q : List Int) (l : List (List Int)) (vp' vq' vl' : Value) (c' : Int) (p' q' : List Int) (l' : List (List Int)) (w : World) (hp : Ints w vp p) (hq : Ints w vq q) (hl : IntSS w vl l) (hp' : Ints w vp' p') (hq' : Ints w vq' q') (hl' : IntSS w vl' l') :
    Calls Try.prog 32 #[.agg #[vp, vq, vl, .int .i64 c], .agg #[vp', vq', vl', .int .i64 c']] w fun e w' => e = .returned (.bool (sameS p q l c p' q' l' c')) ∧ Below w.heap.size w w' := by
  obtain ⟨ap, cp, rfl⟩ := hp.form
  obtain ⟨aq, cq, rfl⟩ := hq.form
  obtain ⟨al, cl, rfl⟩ := hl.form
  obtain ⟨ap', cp', rfl⟩ := hp'.form
  obtain ⟨aq', cq', rfl⟩ := hq'.form
  obtain ⟨al', cl', rfl⟩ := hl'.form
  have hb : Below w.heap.size w ((w.alloc (.cells #[.slice ap p.length cp, .slice aq q.length cq, .slice al l.length cl, .int .i64 c] 47)).alloc (.cells #[.slice ap' p'.length cp', .slice aq' q'.length cq', .slice al' l'.length cl', .int .i64 c'] 47)) := below_res (Below.refl _ _)
  replace hp := hp.below hb
  replace hq := hq.below hb
  replace hl := hl.below hb
  replace hp' := hp'.below hb
  replace hq' := hq'.below hb
  replace hl' := hl'.below hb
  unfold sameS
  obtain ⟨bp, ep⟩ : ∃ b, b = decide (p = p') := ⟨_, rfl⟩
  rw [← ep]
  have Ep := Lib.hid ep.symm
  clear ep
  obtain ⟨bq, eq⟩ : ∃ b, b = decide (q = q') := ⟨_, rfl⟩
  rw [← eq]
  have Eq := Lib.hid eq.symm
  clear eq
  obtain ⟨bl, el⟩ : ∃ b, b = decide (l = l') := ⟨_, rfl⟩
  rw [← el]
  have El := Lib.hid el.symm
  clear el
  have HP := And.intro hp hp'
  have HQ := And.intro hq hq'
  have HL := And.intro hl hl'
  replace HP := Lib.hid HP
  replace HQ := Lib.hid HQ
  replace HL := Lib.hid HL
  clear hp hp' hq hq' hl hl'
  cases bp
  · try simp only [Bool.false_and, Bool.and_false]
    go_enter Try.func32, Try.ntmps32
    go_wp2_with fail
    refine (eqIntS_any _ _ p p' _ (by exact HP.out.1) (by exact HP.out.2)).mono ?_; rintro e w1 ⟨rfl, n1, rfl⟩
    rw [Ep.out]
    go_wp2_with fail
    go_ret
    exact ⟨rfl, by first | exact hb | exact below_drewN hb _ | exact below_drewN (below_drewN hb _) _ | exact below_drewN (below_drewN (below_drewN hb _) _) _⟩
  · try simp only [Bool.true_and, Bool.and_true]
    cases bq
    · try simp only [Bool.false_and, Bool.and_false]
      go_enter Try.func32, Try.ntmps32
      go_wp2_with fail
      refine (eqIntS_any _ _ p p' _ (by exact HP.out.1) (by exact HP.out.2)).mono ?_; rintro e w1 ⟨rfl, n1, rfl⟩
      rw [Ep.out]
      go_wp2_with fail
      refine (eqIntS_any _ _ q q' _ (by exact HQ.out.1) (by exact HQ.out.2)).mono ?_; rintro e w2 ⟨rfl, n2, rfl⟩
      rw [Eq.out]
      go_wp2_with fail
      go_ret
      exact ⟨rfl, by first | exact hb | exact below_drewN hb _ | exact below_drewN (below_drewN hb _) _ | exact below_drewN (below_drewN (below_drewN hb _) _) _⟩
    · try simp only [Bool.true_and, Bool.and_true]
      cases bl
      · try simp only [Bool.false_and, Bool.and_false]
        go_enter Try.func32, Try.ntmps32
        go_wp2_with fail
        refine (eqIntS_any _ _ p p' _ (by exact HP.out.1) (by exact HP.out.2)).mono ?_; rintro e w1 ⟨rfl, n1, rfl⟩
        rw [Ep.out]
        go_wp2_with fail
        refine (eqIntS_any _ _ q q' _ (by exact HQ.out.1) (by exact HQ.out.2)).mono ?_; rintro e w2 ⟨rfl, n2, rfl⟩
        rw [Eq.out]
        go_wp2_with fail
        refine (eqIntSS_any _ _ l l' _ (by exact HL.out.1) (by exact HL.out.2)).mono ?_; rintro e w3 ⟨rfl, n3, rfl⟩
        rw [El.out]
        go_wp2_with fail
        go_ret
        exact ⟨rfl, by first | exact hb | exact below_drewN hb _ | exact below_drewN (below_drewN hb _) _ | exact below_drewN (below_drewN (below_drewN hb _) _) _⟩
      · try simp only [Bool.true_and, Bool.and_true]
        by_cases hc : c = c'
        · rw [decide_eq_true hc]
          have hc2 : (c == c') = true := by simpa using hc
          have hc3 : (c != c') = false := by simpa using hc
          clear hc
          try simp only [Bool.true_and, Bool.and_true, Bool.false_and, Bool.and_false]
          go_enter Try.func32, Try.ntmps32
          go_wp2_with fail
          refine (eqIntS_any _ _ p p' _ (by exact HP.out.1) (by exact HP.out.2)).mono ?_; rintro e w1 ⟨rfl, n1, rfl⟩
          rw [Ep.out]
          go_wp2_with fail
          refine (eqIntS_any _ _ q q' _ (by exact HQ.out.1) (by exact HQ.out.2)).mono ?_; rintro e w2 ⟨rfl, n2, rfl⟩
          rw [Eq.out]
          go_wp2_with fail
          refine (eqIntSS_any _ _ l l' _ (by exact HL.out.1) (by exact HL.out.2)).mono ?_; rintro e w3 ⟨rfl, n3, rfl⟩
          rw [El.out]
          go_wp2_with fail
          go_ret
          exact ⟨rfl, by first | exact hb | exact below_drewN hb _ | exact below_drewN (below_drewN hb _) _ | exact below_drewN (below_drewN (below_drewN hb _) _) _⟩
        · rw [decide_eq_false hc]
          have hc2 : (c == c') = false := by simpa using hc
          have hc3 : (c != c') = true := by simpa using hc
          clear hc
          try simp only [Bool.true_and, Bool.and_true, Bool.false_and, Bool.and_false]
          go_enter Try.func32, Try.ntmps32
          go_wp2_with fail
          refine (eqIntS_any _ _ p p' _ (by exact HP.out.1) (by exact HP.out.2)).mono ?_; rintro e w1 ⟨rfl, n1, rfl⟩
          rw [Ep.out]
          go_wp2_with fail
          refine (eqIntS_any _ _ q q' _ (by exact HQ.out.1) (by exact HQ.out.2)).mono ?_; rintro e w2 ⟨rfl, n2, rfl⟩
          rw [Eq.out]
          go_wp2_with fail
          refine (eqIntSS_any _ _ l l' _ (by exact HL.out.1) (by exact HL.out.2)).mono ?_; rintro e w3 ⟨rfl, n3, rfl⟩
          rw [El.out]
          go_wp2_with fail
          go_ret
          exact ⟨rfl, by first | exact hb | exact below_drewN hb _ | exact below_drewN (below_drewN hb _) _ | exact below_drewN (below_drewN (below_drewN hb _) _) _⟩

set_option linter.unusedSimpArgs false in
set_option linter.unusedVariables false in
set_option maxHeartbeats 4000000 in
theorem satSame_impl (vp vq vl : Value) (c : Int) (p q : List Int) (l : List (List Int)) (vp' vq' vl' : Value) (c' : Int) (p' q' : List Int) (l' : List (List Int)) (w : World) (hp : Ints w vp p) (hq : Ints w vq q) (hl : IntSS w vl l) (hp' : Ints w vp' p') (hq' : Ints w vq' q') (hl' : IntSS w vl' l') :
    Calls Try.prog 31 #[.agg #[vp, vq, vl, .int .i64 c], .agg #[vp', vq', vl', .int .i64 c']] w fun e w' => e = .returned (.bool (sameS p q l c p' q' l' c')) ∧ Below w.heap.size w w' := by
  obtain ⟨ap, cp, rfl⟩ := hp.form
  obtain ⟨aq, cq, rfl⟩ := hq.form
  obtain ⟨al, cl, rfl⟩ := hl.form
  obtain ⟨ap', cp', rfl⟩ := hp'.form
  obtain ⟨aq', cq', rfl⟩ := hq'.form
  obtain ⟨al', cl', rfl⟩ := hl'.form
  have hb : Below w.heap.size w ((w.alloc (.cells #[.slice ap p.length cp, .slice aq q.length cq, .slice al l.length cl, .int .i64 c] 47)).alloc (.cells #[.slice ap' p'.length cp', .slice aq' q'.length cq', .slice al' l'.length cl', .int .i64 c'] 47)) := below_res (Below.refl _ _)
  replace hp := hp.below hb
  replace hq := hq.below hb
  replace hl := hl.below hb
  replace hp' := hp'.below hb
  replace hq' := hq'.below hb
  replace hl' := hl'.below hb
  unfold sameS
  obtain ⟨bp, ep⟩ : ∃ b, b = decide (p = p') := ⟨_, rfl⟩
  rw [← ep]
  have Ep := Lib.hid ep.symm
  clear ep
  obtain ⟨bq, eq⟩ : ∃ b, b = decide (q = q') := ⟨_, rfl⟩
  rw [← eq]
  have Eq := Lib.hid eq.symm
  clear eq
  obtain ⟨bl, el⟩ : ∃ b, b = decide (l = l') := ⟨_, rfl⟩
  rw [← el]
  have El := Lib.hid el.symm
  clear el
  have HP := And.intro hp hp'
  have HQ := And.intro hq hq'
  have HL := And.intro hl hl'
  replace HP := Lib.hid HP
  replace HQ := Lib.hid HQ
  replace HL := Lib.hid HL
  clear hp hp' hq hq' hl hl'
  cases bp
  · try simp only [Bool.false_and, Bool.and_false]
    go_enter Try.func31, Try.ntmps31
    go_wp2_with fail
    refine (equalInts_any _ _ p p' _ (by exact HP.out.1) (by exact HP.out.2)).mono ?_; rintro e w1 ⟨rfl, n1, rfl⟩
    rw [Ep.out]
    go_wp2_with fail
    go_ret
    exact ⟨rfl, by first | exact hb | exact below_drewN hb _ | exact below_drewN (below_drewN hb _) _ | exact below_drewN (below_drewN (below_drewN hb _) _) _⟩
  · try simp only [Bool.true_and, Bool.and_true]
    cases bq
    · try simp only [Bool.false_and, Bool.and_false]
      go_enter Try.func31, Try.ntmps31
      go_wp2_with fail
      refine (equalInts_any _ _ p p' _ (by exact HP.out.1) (by exact HP.out.2)).mono ?_; rintro e w1 ⟨rfl, n1, rfl⟩
      rw [Ep.out]
      go_wp2_with fail
      refine (equalInts_any _ _ q q' _ (by exact HQ.out.1) (by exact HQ.out.2)).mono ?_; rintro e w2 ⟨rfl, n2, rfl⟩
      rw [Eq.out]
      go_wp2_with fail
      go_ret
      exact ⟨rfl, by first | exact hb | exact below_drewN hb _ | exact below_drewN (below_drewN hb _) _ | exact below_drewN (below_drewN (below_drewN hb _) _) _⟩
    · try simp only [Bool.true_and, Bool.and_true]
      cases bl
      · try simp only [Bool.false_and, Bool.and_false]
        go_enter Try.func31, Try.ntmps31
        go_wp2_with fail
        refine (equalInts_any _ _ p p' _ (by exact HP.out.1) (by exact HP.out.2)).mono ?_; rintro e w1 ⟨rfl, n1, rfl⟩
        rw [Ep.out]
        go_wp2_with fail
        refine (equalInts_any _ _ q q' _ (by exact HQ.out.1) (by exact HQ.out.2)).mono ?_; rintro e w2 ⟨rfl, n2, rfl⟩
        rw [Eq.out]
        go_wp2_with fail
        refine (sameLists_any _ _ l l' _ (by exact HL.out.1) (by exact HL.out.2)).mono ?_; rintro e w3 ⟨rfl, n3, rfl⟩
        rw [El.out]
        go_wp2_with fail
        go_ret
        exact ⟨rfl, by first | exact hb | exact below_drewN hb _ | exact below_drewN (below_drewN hb _) _ | exact below_drewN (below_drewN (below_drewN hb _) _) _⟩
      · try simp only [Bool.true_and, Bool.and_true]
        by_cases hc : c = c'
        · rw [decide_eq_true hc]
          have hc2 : (c == c') = true := by simpa using hc
          have hc3 : (c != c') = false := by simpa using hc
          clear hc
          try simp only [Bool.true_and, Bool.and_true, Bool.false_and, Bool.and_false]
          go_enter Try.func31, Try.ntmps31
          go_wp2_with fail
          refine (equalInts_any _ _ p p' _ (by exact HP.out.1) (by exact HP.out.2)).mono ?_; rintro e w1 ⟨rfl, n1, rfl⟩
          rw [Ep.out]
          go_wp2_with fail
          refine (equalInts_any _ _ q q' _ (by exact HQ.out.1) (by exact HQ.out.2)).mono ?_; rintro e w2 ⟨rfl, n2, rfl⟩
          rw [Eq.out]
          go_wp2_with fail
          refine (sameLists_any _ _ l l' _ (by exact HL.out.1) (by exact HL.out.2)).mono ?_; rintro e w3 ⟨rfl, n3, rfl⟩
          rw [El.out]
          go_wp2_with fail
          go_ret
          exact ⟨rfl, by first | exact hb | exact below_drewN hb _ | exact below_drewN (below_drewN hb _) _ | exact below_drewN (below_drewN (below_drewN hb _) _) _⟩
        · rw [decide_eq_false hc]
          have hc2 : (c == c') = false := by simpa using hc
          have hc3 : (c != c') = true := by simpa using hc
          clear hc
          try simp only [Bool.true_and, Bool.and_true, Bool.false_and, Bool.and_false]
          go_enter Try.func31, Try.ntmps31
          go_wp2_with fail
          refine (equalInts_any _ _ p p' _ (by exact HP.out.1) (by exact HP.out.2)).mono ?_; rintro e w1 ⟨rfl, n1, rfl⟩
          rw [Ep.out]
          go_wp2_with fail
          refine (equalInts_any _ _ q q' _ (by exact HQ.out.1) (by exact HQ.out.2)).mono ?_; rintro e w2 ⟨rfl, n2, rfl⟩
          rw [Eq.out]
          go_wp2_with fail
          refine (sameLists_any _ _ l l' _ (by exact HL.out.1) (by exact HL.out.2)).mono ?_; rintro e w3 ⟨rfl, n3, rfl⟩
          rw [El.out]
          go_wp2_with fail
          go_ret
          exact ⟨rfl, by first | exact hb | exact below_drewN hb _ | exact below_drewN (below_drewN hb _) _ | exact below_drewN (below_drewN (below_drewN hb _) _) _⟩

set_option linter.unusedSimpArgs false in
set_option linter.unusedVariables false in
set_option maxHeartbeats 4000000 in
theorem satSame_spec (vp vq vl : Value) (c : Int) (p q : List Int) (l : List (List Int)) (vp' vq' vl' : Value) (c' : Int) (p' q' : List Int) (l' : List (List Int)) (w : World) (hp : Ints w vp p) (hq : Ints w vq q) (hl : IntSS w vl l) (hp' : Ints w vp' p') (hq' : Ints w vq' q') (hl' : IntSS w vl' l') :
    Calls Try.prog 29 #[.agg #[vp, vq, vl, .int .i64 c], .agg #[vp', vq', vl', .int .i64 c']] w fun e w' => e = .returned (.bool (sameS p q l c p' q' l' c')) ∧ Below w.heap.size w w' := by
  obtain ⟨ap, cp, rfl⟩ := hp.form
  obtain ⟨aq, cq, rfl⟩ := hq.form
  obtain ⟨al, cl, rfl⟩ := hl.form
  obtain ⟨ap', cp', rfl⟩ := hp'.form
  obtain ⟨aq', cq', rfl⟩ := hq'.form
  obtain ⟨al', cl', rfl⟩ := hl'.form
  have hb : Below w.heap.size w ((w.alloc (.cells #[.slice ap p.length cp, .slice aq q.length cq, .slice al l.length cl, .int .i64 c] 47)).alloc (.cells #[.slice ap' p'.length cp', .slice aq' q'.length cq', .slice al' l'.length cl', .int .i64 c'] 47)) := below_res (Below.refl _ _)
  replace hb : Below w.heap.size w ((((w.alloc (.cells #[.slice ap p.length cp, .slice aq q.length cq, .slice al l.length cl, .int .i64 c] 47)).alloc (.cells #[.slice ap' p'.length cp', .slice aq' q'.length cq', .slice al' l'.length cl', .int .i64 c'] 47)).alloc (.cells #[.int .i64 0, .slice al l.length cl] 38)).alloc (.cells #[.int .i64 0, .slice al' l'.length cl'] 38)) := below_step (below_step hb _) _
  replace hp := hp.below hb
  replace hq := hq.below hb
  replace hl := hl.below hb
  replace hp' := hp'.below hb
  replace hq' := hq'.below hb
  replace hl' := hl'.below hb
  unfold sameS
  obtain ⟨bp, ep⟩ : ∃ b, b = decide (p = p') := ⟨_, rfl⟩
  rw [← ep]
  have Ep := Lib.hid ep.symm
  clear ep
  obtain ⟨bq, eq⟩ : ∃ b, b = decide (q = q') := ⟨_, rfl⟩
  rw [← eq]
  have Eq := Lib.hid eq.symm
  clear eq
  obtain ⟨bl, el⟩ : ∃ b, b = decide (l = l') := ⟨_, rfl⟩
  rw [← el]
  have El := Lib.hid el.symm
  clear el
  have ES : Hid (sameC 0 l 0 l' = bl) := by show decide ((0 : Int) = 0 ∧ l = l') = bl; rw [← El.out]; simp
  have HP := And.intro hp hp'
  have HQ := And.intro hq hq'
  have HL := And.intro hl hl'
  replace HP := Lib.hid HP
  replace HQ := Lib.hid HQ
  replace HL := Lib.hid HL
  clear hp hp' hq hq' hl hl'
  by_cases hc : c = c'
  · rw [decide_eq_true hc]
    have hc2 : (c == c') = true := by simpa using hc
    have hc3 : (c != c') = false := by simpa using hc
    clear hc
    try simp only [Bool.true_and, Bool.and_true, Bool.false_and, Bool.and_false]
    cases bp
    · try simp only [Bool.false_and, Bool.and_false]
      go_enter Try.func29, Try.ntmps29
      go_wp2_with fail
      refine (l4Ints_any _ _ p p' _ (by exact HP.out.1) (by exact HP.out.2)).mono ?_; rintro e w1 ⟨rfl, n1, rfl⟩
      rw [Ep.out]
      go_wp2_with fail
      go_ret
      exact ⟨rfl, by first | exact hb | exact below_drewN hb _ | exact below_drewN (below_drewN hb _) _ | exact below_drewN (below_drewN (below_drewN hb _) _) _⟩
    · try simp only [Bool.true_and, Bool.and_true]
      cases bq
      · try simp only [Bool.false_and, Bool.and_false]
        go_enter Try.func29, Try.ntmps29
        go_wp2_with fail
        refine (l4Ints_any _ _ p p' _ (by exact HP.out.1) (by exact HP.out.2)).mono ?_; rintro e w1 ⟨rfl, n1, rfl⟩
        rw [Ep.out]
        go_wp2_with fail
        refine (l4Ints_any _ _ q q' _ (by exact HQ.out.1) (by exact HQ.out.2)).mono ?_; rintro e w2 ⟨rfl, n2, rfl⟩
        rw [Eq.out]
        go_wp2_with fail
        go_ret
        exact ⟨rfl, by first | exact hb | exact below_drewN hb _ | exact below_drewN (below_drewN hb _) _ | exact below_drewN (below_drewN (below_drewN hb _) _) _⟩
      · try simp only [Bool.true_and, Bool.and_true]
        cases bl
        · try simp only [Bool.false_and, Bool.and_false]
          go_enter Try.func29, Try.ntmps29
          go_wp2_with fail
          refine (l4Ints_any _ _ p p' _ (by exact HP.out.1) (by exact HP.out.2)).mono ?_; rintro e w1 ⟨rfl, n1, rfl⟩
          rw [Ep.out]
          go_wp2_with fail
          refine (l4Ints_any _ _ q q' _ (by exact HQ.out.1) (by exact HQ.out.2)).mono ?_; rintro e w2 ⟨rfl, n2, rfl⟩
          rw [Eq.out]
          go_wp2_with fail
          refine (cnfSame_spec 0 _ l 0 _ l' _ (by exact HL.out.1) (by exact HL.out.2)).mono ?_; rintro e w3 ⟨rfl, hs⟩
          rw [ES.out]
          go_wp2_with fail
          go_ret
          exact ⟨rfl, below_two (by first | exact hb | exact below_drewN hb _ | exact below_drewN (below_drewN hb _) _) hs⟩
        · try simp only [Bool.true_and, Bool.and_true]
          go_enter Try.func29, Try.ntmps29
          go_wp2_with fail
          refine (l4Ints_any _ _ p p' _ (by exact HP.out.1) (by exact HP.out.2)).mono ?_; rintro e w1 ⟨rfl, n1, rfl⟩
          rw [Ep.out]
          go_wp2_with fail
          refine (l4Ints_any _ _ q q' _ (by exact HQ.out.1) (by exact HQ.out.2)).mono ?_; rintro e w2 ⟨rfl, n2, rfl⟩
          rw [Eq.out]
          go_wp2_with fail
          refine (cnfSame_spec 0 _ l 0 _ l' _ (by exact HL.out.1) (by exact HL.out.2)).mono ?_; rintro e w3 ⟨rfl, hs⟩
          rw [ES.out]
          go_wp2_with fail
          go_ret
          exact ⟨rfl, below_two (by first | exact hb | exact below_drewN hb _ | exact below_drewN (below_drewN hb _) _) hs⟩
  · rw [decide_eq_false hc]
    have hc2 : (c == c') = false := by simpa using hc
    have hc3 : (c != c') = true := by simpa using hc
    clear hc
    try simp only [Bool.true_and, Bool.and_true, Bool.false_and, Bool.and_false]
    go_enter Try.func29, Try.ntmps29
    go_wp2_with fail
    go_ret
    exact ⟨rfl, by first | exact hb | exact below_drewN hb _ | exact below_drewN (below_drewN hb _) _ | exact below_drewN (below_drewN (below_drewN hb _) _) _⟩

def NewSat (p q : List Int) (ls : List (List Int)) (c : Int) (w : World) (e : Ending) (w' : World) : Prop :=
  ∃ vp vq vl, e = .returned (.agg #[vp, vq, vl, .int .i64 c]) ∧ Ints w' vp p ∧ Ints w' vq q ∧ IntSS w' vl ls ∧ Below w.heap.size w w'

set_option maxHeartbeats 4000000 in
theorem toSat_any (vp vq vl : Value) (c : Int) (p q : List Int) (ls : List (List Int)) (w : World) (hp : Ints w vp p) (hq : Ints w vq q) (h : IntSS w vl ls) (np : p.length ≤ 1048576) (nq : q.length ≤ 1048576) (hn : ls.length ≤ 1048576) (hm : ∀ i, i < ls.length → (ls.getD i []).length ≤ 1048576) :
    Calls Try.prog 30 #[.agg #[vp, vq, vl, .int .i64 c]] w (NewSat p q ls c w) := by
  obtain ⟨ap, cp, rfl⟩ := hp.form
  obtain ⟨aq, cq, rfl⟩ := hq.form
  obtain ⟨al, cl, rfl⟩ := h.form
  have HM := Lib.hid hm
  clear hm
  go_enter Try.func30, Try.ntmps30
  go_wp2_with fail
  have hb0 := below_res3 (w := w) (o := .cells #[.slice ap p.length cp, .slice aq q.length cq, .slice al ls.length cl, .int .i64 c] 44) (o' := .cells #[.slice none 0 0, .slice none 0 0, .slice none 0 0, .int .i64 0] 47) (o'' := .cells #[.slice none 0 0, .slice none 0 0, .slice none 0 0, .int .i64 0] 47) (Below.refl _ _)
  refine (toIntS_any _ p _ (hp.below hb0) np).mono ?_; rintro e w1 ⟨v1, rfl, o1, b1⟩
  have A : Blk4 w1 w.heap.size (.slice ap p.length cp) (.slice aq q.length cq) (.slice al ls.length cl) (.int .i64 c) 44 := (((blk4_new w _ _ _ _ _).alloc _).alloc _).keep b1
  have R : Blk4 w1 (w.heap.size + 1) (.slice none 0 0) (.slice none 0 0) (.slice none 0 0) (.int .i64 0) 47 := ((blk4_new1 w _ _ _ _ _ _).alloc _).keep b1
  have U : Blk4 w1 (w.heap.size + 1 + 1) (.slice none 0 0) (.slice none 0 0) (.slice none 0 0) (.int .i64 0) 47 := (blk4_new2 w _ _ _ _ _ _ _).keep b1
  have B : Below w.heap.size w w1 := below_res3 b1
  have N1 : w.heap.size + 1 + 1 + 1 ≤ w1.heap.size := by have := b1.size; simp at this; omega
  obtain ⟨a1, c1, rfl, _⟩ := Row.of_own o1
  have O1 : w1.ownsRow (w.heap.size + 1 + 1 + 1) 3 1 (.slice a1 p.length c1) p.length (p.map (.int .i64)) := by have o3 := o1; simp at o3; exact o3
  obtain ⟨A0, A1, A2, A3, A4⟩ := A.cells
  obtain ⟨U0, U1, U2, U3, U4⟩ := U.cells
  obtain ⟨G0, G1, G2, G3⟩ := U.frozen
  clear o1 b1 hb0 hp np
  go_wp2_with fail
  clear A0 A1 A2 A3 A4 U0 U1 U2 U3 U4 G0 G1 G2 G3
  have U' := U.set0 (.slice a1 p.length c1)
  have A' := A.set_other (p := ⟨w.heap.size + 1 + 1, 0, none⟩) (z := .slice a1 p.length c1) (by simp; omega)
  have R' := R.set_other (p := ⟨w.heap.size + 1 + 1, 0, none⟩) (z := .slice a1 p.length c1) (by simp)
  have O1' := ownsRow_setCell_below O1 (a := ⟨w.heap.size + 1 + 1, 0, none⟩) (by simp) (.slice a1 p.length c1)
  have B' := B.setCell (p := ⟨w.heap.size + 1 + 1, 0, none⟩) (by simp; omega) (.slice a1 p.length c1)
  clear U A R O1 B
  refine (toIntS_any _ q _ (hq.below B') nq).mono ?_; rintro e w2 ⟨v2, rfl, o2, b2⟩
  replace A := A'.keep b2
  replace R := R'.keep b2
  replace U := U'.keep b2
  replace O1 := own_keep O1' b2
  have N2 : w.heap.size + 1 + 1 + 1 ≤ w2.heap.size := by have := b2.size; simp at this; omega
  replace B := below_two B' b2
  obtain ⟨a2, c2, rfl, _⟩ := Row.of_own o2
  have O2 : w2.ownsRow (w.heap.size + 1 + 1 + 1) 3 1 (.slice a2 q.length c2) q.length (q.map (.int .i64)) := Go.Joins.ownsRow_le o2 (by simp; omega)
  obtain ⟨A0, A1, A2, A3, A4⟩ := A.cells
  obtain ⟨U0, U1, U2, U3, U4⟩ := U.cells
  obtain ⟨G0, G1, G2, G3⟩ := U.frozen
  clear o2 b2 B' hq nq A' R' U' O1' N1
  go_wp2_with fail
  clear A0 A1 A2 A3 A4 U0 U1 U2 U3 U4 G0 G1 G2 G3
  have U' := U.set1 (.slice a2 q.length c2)
  have A' := A.set_other (p := ⟨w.heap.size + 1 + 1, 1, none⟩) (z := .slice a2 q.length c2) (by simp; omega)
  have R' := R.set_other (p := ⟨w.heap.size + 1 + 1, 1, none⟩) (z := .slice a2 q.length c2) (by simp)
  have O1' := ownsRow_setCell_below O1 (a := ⟨w.heap.size + 1 + 1, 1, none⟩) (by simp) (.slice a2 q.length c2)
  have O2' := ownsRow_setCell_below O2 (a := ⟨w.heap.size + 1 + 1, 1, none⟩) (by simp) (.slice a2 q.length c2)
  have B' := B.setCell (p := ⟨w.heap.size + 1 + 1, 1, none⟩) (by simp; omega) (.slice a2 q.length c2)
  clear U A R O1 O2 B
  refine (toIntSS_any _ ls _ (h.below B') hn HM.out).mono ?_; rintro e w3 ⟨v3, fs, rfl, o3, b3⟩
  replace A := A'.keep b3
  replace R := R'.keep b3
  replace U := U'.keep b3
  replace O1 := own_keep O1' b3
  replace O2 := own_keep O2' b3
  replace B := below_two B' b3
  obtain ⟨a3, c3, rfl, _⟩ := Row.of_own o3.top
  have O3 := o3.le (base' := w.heap.size + 1 + 1 + 1) (by simp; omega)
  obtain ⟨A0, A1, A2, A3, A4⟩ := A.cells
  obtain ⟨U0, U1, U2, U3, U4⟩ := U.cells
  obtain ⟨G0, G1, G2, G3⟩ := U.frozen
  obtain ⟨R0, R1, R2, R3, R4⟩ := R.cells
  obtain ⟨F0, F1, F2, F3⟩ := R.frozen
  have P3 := Lib.hid O3
  have P2 := Lib.hid O2
  have P1 := Lib.hid O1
  clear o3 b3 B' h hn A' R' U' O1' O2' N2 O1 O2 O3 HM
  go_wp2_with fail
  have Rf := (((((R.set_other (p := ⟨w.heap.size + 1 + 1, 2, none⟩) (z := .slice a3 ls.length c3) (by simp)).set_other (p := ⟨w.heap.size + 1 + 1, 3, none⟩) (z := .int .i64 c) (by simp)).set0 (.slice a1 p.length c1)).set1 (.slice a2 q.length c2)).set2 (.slice a3 ls.length c3)).set3 (.int .i64 c)
  obtain ⟨r0, r1, r2, r3, _⟩ := Rf.cells
  have Bf := (((((B.setCell (p := ⟨w.heap.size + 1 + 1, 2, none⟩) (by simp; omega) (.slice a3 ls.length c3)).setCell (p := ⟨w.heap.size + 1 + 1, 3, none⟩) (by simp; omega) (.int .i64 c)).setCell (p := ⟨w.heap.size + 1, 0, none⟩) (by simp) (.slice a1 p.length c1)).setCell (p := ⟨w.heap.size + 1, 1, none⟩) (by simp) (.slice a2 q.length c2)).setCell (p := ⟨w.heap.size + 1, 2, none⟩) (by simp) (.slice a3 ls.length c3)).setCell (p := ⟨w.heap.size + 1, 3, none⟩) (by simp) (.int .i64 c)
  have S : ∀ {t : TypeId} {n : Nat} {xs : List Value} {v : Value}, w3.ownsRow (w.heap.size + 1 + 1 + 1) t 1 v n xs → ((((((w3.setCell ⟨w.heap.size + 1 + 1, 2, none⟩ (.slice a3 ls.length c3)).setCell ⟨w.heap.size + 1 + 1, 3, none⟩ (.int .i64 c)).setCell ⟨w.heap.size + 1, 0, none⟩ (.slice a1 p.length c1)).setCell ⟨w.heap.size + 1, 1, none⟩ (.slice a2 q.length c2)).setCell ⟨w.heap.size + 1, 2, none⟩ (.slice a3 ls.length c3)).setCell ⟨w.heap.size + 1, 3, none⟩ (.int .i64 c)).ownsRow (w.heap.size + 1 + 1 + 1) t 1 v n xs := fun h =>
    ownsRow_setCell_below (ownsRow_setCell_below (ownsRow_setCell_below (ownsRow_setCell_below (ownsRow_setCell_below (ownsRow_setCell_below h (by simp) _) (by simp) _) (by simp) _) (by simp) _) (by simp) _) (by simp) _
  exact bodyPost_ret (v := .agg #[.slice a1 p.length c1, .slice a2 q.length c2, .slice a3 ls.length c3, .int .i64 c]) (by simp [results, Try.results30, go_sem, r0, r1, r2, r3]) rfl
    ⟨_, _, _, rfl, Ints.of_own (S P1.out), Ints.of_own (S P2.out), OwnSS.ints ⟨S P3.out.top, fun i hi => S (P3.out.row i hi), P3.out.apart, P3.out.off, P3.out.rest⟩, Bf⟩
end Go.Proofs.Ytjobbokjebhjgaa
