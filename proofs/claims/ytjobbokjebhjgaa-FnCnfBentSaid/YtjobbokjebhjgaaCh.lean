/- ClauseHas of the program: a clause holds if one of its literals does. The conditions stand in each statement. -/
import Derived.Test.YtjobbokjebhjgaaNm
namespace Go.Proofs.Ytjobbokjebhjgaa
open Go.RowKit

theorem lof_any (m n : Int) (w : World) (hn : 0 ≤ n) (hn' : n ≤ 9223372036854775807) :
    Calls Try.prog 70 #[.int .i64 m, .int .i64 n] w fun e w' => e = .returned (.bool (decide (m ≠ 0 ∧ -n ≤ m ∧ m ≤ n))) ∧ w = w' := by
  by_cases h0 : m = 0
  · subst h0
    go_enter Try.func70, Try.ntmps70
    go_wp2
    go_ret
    exact ⟨by simp, rfl⟩
  · have h0' : (m == 0) = false := by simpa using h0
    have h0'' : (m != 0) = true := by simpa using h0
    by_cases h1 : -n ≤ m
    · by_cases h2 : m ≤ n
      · have e : decide (m ≠ 0 ∧ -n ≤ m ∧ m ≤ n) = true := by simp [h0, h1, h2]
        rw [e]; clear e
        go_enter Try.func70, Try.ntmps70
        go_wp2
        go_ret
        exact ⟨rfl, rfl⟩
      · have e : decide (m ≠ 0 ∧ -n ≤ m ∧ m ≤ n) = false := by simp [h2]
        rw [e]; clear e
        go_enter Try.func70, Try.ntmps70
        go_wp2
        go_ret
        exact ⟨rfl, rfl⟩
    · have e : decide (m ≠ 0 ∧ -n ≤ m ∧ m ≤ n) = false := by simp [h1]
      rw [e]; clear e
      go_enter Try.func70, Try.ntmps70
      go_wp2
      go_ret
      exact ⟨rfl, rfl⟩
theorem variable_any (m : Int) (w : World) (h0 : -9223372036854775807 ≤ m) (h1 : m ≤ 9223372036854775807) :
    Calls Try.prog 71 #[.int .i64 m] w fun e w' => e = .returned (.int .i64 (mabs m)) ∧ w = w' := by
  by_cases h : m < 0
  · have e : mabs m = -m := by simp [mabs, h]
    rw [e]; clear e
    go_enter Try.func71, Try.ntmps71
    go_wp2
    go_ret
    exact ⟨rfl, rfl⟩
  · have e : mabs m = m := by simp [mabs, h]
    rw [e]; clear e
    go_enter Try.func71, Try.ntmps71
    go_wp2
    go_ret
    exact ⟨rfl, rfl⟩

set_option maxHeartbeats 2000000 in
theorem holds_any (v : Value) (l : List Bool) (m : Int) (w : World) (h : Bools w v l) (m0 : -9223372036854775808 ≤ m) (m1 : m ≤ 9223372036854775807) :
    Calls Try.prog 47 #[.int .i64 m, v] w fun e w' => e = .returned (.bool (nlit l m)) ∧ w = w' := by
  have hl := h.len
  obtain ⟨a, cap, rfl, r1, r2, r3⟩ := h
  rcases nlit_cases l m with ⟨h1, h2, hz⟩ | ⟨h1, h2, hz⟩ | ⟨h1, hz⟩
  · rw [hz]; clear hz
    rcases r3 with r3 | ⟨b, off, rfl, r4, r5⟩
    · omega
    have r6 : w.cell? ⟨b, off + (m.toNat - 1), none⟩ = some (.bool (l.getD (m.toNat - 1) false)) := r5 _ (by omega)
    clear r5
    generalize l.getD (m.toNat - 1) false = x at *
    have i0 : (0 : Int) ≤ m - 1 := by omega
    have i1 : m - 1 < (l.length : Int) := by omega
    have C1 := fun w => lof_any m l.length w (by omega) (by omega)
    have e1 : decide (m ≠ 0 ∧ -(l.length : Int) ≤ m ∧ m ≤ l.length) = true := by simp; omega
    have e2 : mabs m = m := by simp [mabs]; omega
    rw [e1] at C1
    have C := Lib.hid C1
    have E2 := Lib.hid e2
    clear C1 e1 e2
    go_enter Try.func47, Try.ntmps47
    go_wp2_with fail
    refine (C.out _).mono ?_; rintro e w1 ⟨rfl, rfl⟩
    go_wp2_with fail
    refine (variable_any m _ (by omega) (by omega)).mono ?_; rintro e w1 ⟨rfl, rfl⟩
    rw [E2.out]
    go_wp2_with fail
    go_ret
    exact ⟨rfl, rfl⟩
  · rw [hz]; clear hz
    rcases r3 with r3 | ⟨b, off, rfl, r4, r5⟩
    · omega
    have r6 : w.cell? ⟨b, off + ((-m).toNat - 1), none⟩ = some (.bool (l.getD ((-m).toNat - 1) false)) := r5 _ (by omega)
    clear r5
    generalize l.getD ((-m).toNat - 1) false = x at *
    have i0 : (0 : Int) ≤ -m - 1 := by omega
    have i1 : -m - 1 < (l.length : Int) := by omega
    have C1 := fun w => lof_any m l.length w (by omega) (by omega)
    have e1 : decide (m ≠ 0 ∧ -(l.length : Int) ≤ m ∧ m ≤ l.length) = true := by simp; omega
    have e2 : mabs m = -m := by simp [mabs]; omega
    rw [e1] at C1
    have C := Lib.hid C1
    have E2 := Lib.hid e2
    clear C1 e1 e2
    go_enter Try.func47, Try.ntmps47
    go_wp2_with fail
    refine (C.out _).mono ?_; rintro e w1 ⟨rfl, rfl⟩
    go_wp2_with fail
    refine (variable_any m _ (by omega) (by omega)).mono ?_; rintro e w1 ⟨rfl, rfl⟩
    rw [E2.out]
    go_wp2_with fail
    go_ret
    have hm : ¬ 0 < m := by omega
    exact ⟨by simp [hm], rfl⟩
  · rw [hz]; clear hz r3
    have C1 := fun w => lof_any m l.length w (by omega) (by omega)
    have e1 : decide (m ≠ 0 ∧ -(l.length : Int) ≤ m ∧ m ≤ l.length) = false := by simp; omega
    rw [e1] at C1
    have C := Lib.hid C1
    clear C1 e1 h1
    go_enter Try.func47, Try.ntmps47
    go_wp2_with fail
    refine (C.out _).mono ?_; rintro e w1 ⟨rfl, rfl⟩
    go_wp2_with fail
    go_ret
    exact ⟨rfl, rfl⟩

set_option maxHeartbeats 1000000 in
theorem has1_any (v : Value) (l : List Bool) (m : Int) (g : Nat) (w : World) (h : Bools w v l) (hg : w.cell? ⟨g, 0, none⟩ = some v) (m0 : -9223372036854775808 ≤ m) (m1 : m ≤ 9223372036854775807) :
    Calls Try.prog 46 #[.int .i64 m, .pointer (some ⟨g, 0, none⟩)] w fun e w' => e = .returned (.bool (nlit l m)) ∧ w = w' := by
  obtain ⟨a, cap, rfl, hr⟩ := h
  go_enter Try.func46, Try.ntmps46
  go_wp2_with fail
  refine (holds_any _ l m _ ⟨a, cap, rfl, hr⟩ m0 m1).mono ?_; rintro e w1 ⟨rfl, rfl⟩
  go_wp2_with fail
  go_ret
  exact ⟨rfl, rfl⟩

/-- an index, or -1; the Bool tells whether one is there -/
def IdxRet (b : Bool) (w : World) (e : Ending) (w' : World) : Prop := ∃ n : Int, e = .returned (.int .i64 n) ∧ decide (0 ≤ n) = b ∧ w = w'
def intsWf (l : List Int) : Prop := ∀ i, i < l.length → -9223372036854775808 ≤ l.getD i 0 ∧ l.getD i 0 ≤ 9223372036854775807

theorem any_step {l : List Int} {p : Int → Bool} {k : Nat} (hk : k < l.length) (hp : p (l.getD k 0) = true) : l.any p = true := by
  rw [List.any_eq_true]
  refine ⟨l[k], List.getElem_mem _, ?_⟩
  rw [← hp, List.getD_eq_getElem?_getD, List.getElem?_eq_getElem hk]; rfl
theorem any_none {l : List Int} {p : Int → Bool} (h : ∀ i, i < l.length → p (l.getD i 0) = false) : l.any p = false := by
  rw [List.any_eq_false]
  intro x hx
  obtain ⟨i, hi, rfl⟩ := List.getElem_of_mem hx
  have := h i hi
  rw [List.getD_eq_getElem?_getD, List.getElem?_eq_getElem hi] at this
  simpa using this

set_option maxHeartbeats 2000000 in
theorem indexHas_any (c : Value) (lc : List Int) (v : Value) (l : List Bool) (g : Nat) (w : World) (hc : Ints w c lc) (hwf : intsWf lc) (h : Bools w v l) (hg : w.cell? ⟨g, 0, none⟩ = some v) :
    Calls Try.prog 69 #[c, .func (Fn.func 46) #[] #[.pointer (some ⟨g, 0, none⟩)]] w (IdxRet (lc.any (nlit l)) w) := by
  have hl := hc.len
  obtain ⟨a, cap, rfl, r1, r2, r3⟩ := hc
  have Y : Hid (∀ k, k < lc.length → nlit l (lc.getD k 0) = true → lc.any (nlit l) = true) := fun k hk h2 => any_step hk h2
  have N : Hid ((∀ i, i < lc.length → nlit l (lc.getD i 0) = false) → lc.any (nlit l) = false) := any_none
  generalize lc.any (nlit l) = z at *
  go_enter Try.func69, Try.ntmps69
  go_wp2_with fail
  go_loop [8] (fun i => ∃ k : Nat, k ≤ lc.length ∧ i = .int .i64 k ∧ Hid (∀ i, i < k → nlit l (lc.getD i 0) = false)) (fun i => lc.length - (intOf i).toNat)
  case atStart => exact ⟨0, Nat.zero_le _, rfl, fun i hi => absurd hi (by omega)⟩
  case round =>
    obtain ⟨k, hk, rfl, hno⟩ := hrel
    by_cases hlt : k < lc.length
    · rcases r3 with r3 | ⟨b, off, rfl, r4, r5⟩
      · omega
      have r6 : w.cell? ⟨b, off + k, none⟩ = some (.int .i64 (lc.getD k 0)) := r5 k hlt
      obtain ⟨x0, x1⟩ := hwf k hlt
      have hk0 : (0 : Int) ≤ (k : Int) := by omega
      have hk1 : (k : Int) < (lc.length : Int) := by omega
      have Y2 : Hid (nlit l (lc.getD k 0) = true → z = true) := fun h1 => Y.out k hlt h1
      have S2 : Hid (nlit l (lc.getD k 0) = false → ∀ i, i < k + 1 → nlit l (lc.getD i 0) = false) := fun h i hi => by
        rcases Nat.lt_or_ge i k with h1 | h1
        · exact hno.out i h1
        · rw [show i = k by omega]; exact h
      have HW := Lib.hid hwf
      clear r5 hwf Y N hno
      generalize lc.getD k 0 = x at *
      cases hx : nlit l x
      · have S3 := Lib.hid (S2.out hx)
        have HX := Lib.hid hx
        clear S2 Y2 hx
        go_wp2_with fail
        refine (has1_any v l x g _ h hg x0 x1).mono ?_; rintro e w1 ⟨rfl, rfl⟩
        rw [HX.out]
        go_wp2_with fail
        exact ⟨⟨k + 1, by omega, by go_num, S3.out⟩, by simp [intOf]; omega⟩
      · have hz := Y2.out hx
        subst hz
        have HX := Lib.hid hx
        clear S2 Y2 hx
        go_wp2_with fail
        refine (has1_any v l x g _ h hg x0 x1).mono ?_; rintro e w1 ⟨rfl, rfl⟩
        rw [HX.out]
        go_wp2_with fail
        go_ret
        exact ⟨k, rfl, by simp, rfl⟩
    · obtain rfl : k = lc.length := by omega
      have hz := N.out hno.out
      subst hz
      clear Y N hno hwf
      go_wp2_with fail
      go_ret
      exact ⟨-1, rfl, by simp, rfl⟩

set_option maxHeartbeats 1000000 in
theorem containsHas_any (c : Value) (lc : List Int) (v : Value) (l : List Bool) (g : Nat) (w : World) (hc : Ints w c lc) (hwf : intsWf lc) (h : Bools w v l) (hg : w.cell? ⟨g, 0, none⟩ = some v) :
    Calls Try.prog 45 #[c, .func (Fn.func 46) #[] #[.pointer (some ⟨g, 0, none⟩)]] w fun e w' => e = .returned (.bool (lc.any (nlit l))) ∧ w = w' := by
  go_enter Try.func45, Try.ntmps45
  go_wp2_with fail
  refine (indexHas_any c lc v l g _ hc hwf h hg).mono ?_; rintro e w1 ⟨n, rfl, hn, rfl⟩
  have HN := Lib.hid hn
  clear hn
  go_wp2_with fail
  go_ret
  exact ⟨ret_bool HN.out, rfl⟩

theorem cell_box (w : World) (v : Value) (t : TypeId) : (w.alloc (.cells #[v] t)).cell? ⟨w.heap.size, 0, none⟩ = some v := by
  rw [World.cell?_alloc_new]; simp

set_option maxHeartbeats 1000000 in
theorem clauseHas_impl (c : Value) (lc : List Int) (v : Value) (l : List Bool) (w : World) (hc : Ints w c lc) (hwf : intsWf lc) (h : Bools w v l) :
    Calls Try.prog 17 #[c, v] w fun e w' => e = .returned (.bool (lc.any (nlit l))) ∧ Below w.heap.size w w' := by
  have hb := below_self_alloc w (.cells #[v] 23)
  have hc2 := hc.below hb
  have h2 := h.below hb
  have hg := cell_box w v 23
  obtain ⟨a, cap, rfl, hr⟩ := h
  go_enter Try.func17, Try.ntmps17
  go_wp2_with fail
  refine (containsHas_any c lc _ l w.heap.size _ hc2 hwf h2 hg).mono ?_; rintro e w1 ⟨rfl, rfl⟩
  go_wp2_with fail
  go_ret
  exact ⟨rfl, hb⟩
end Go.Proofs.Ytjobbokjebhjgaa
