/- CnfOk and CnfHas of the reference and of the program. The conditions stand in each statement. -/
import Derived.Test.YtjobbokjebhjgaaCs
import Derived.Test.YtjobbokjebhjgaaCt
namespace Go.Proofs.Ytjobbokjebhjgaa
open Go.RowKit

def ssWf (ls : List (List Int)) : Prop := ∀ i, i < ls.length → intsWf (ls.getD i [])

set_option maxHeartbeats 4000000 in
theorem clauseOk_any (c : Value) (lc : List Int) (many : Int) (w : World) (hc : Ints w c lc) (hwf : intsWf lc) (m0 : 0 ≤ many) (m1 : many ≤ 1000000) :
    Calls Try.prog 61 #[c, .int .i64 many] w fun e w' => e = .returned (.bool (okFrom many 0 lc)) ∧ w = w' := by
  have hcl := hc.len
  obtain ⟨a', cap', rfl, r1', r2', r3'⟩ := hc
  have Z : Hid (okFrom many 0 lc = okFrom many 0 (lc.drop 0)) := rfl
  generalize hz0 : okFrom many 0 lc = z at *
  clear hz0
  go_enter Try.func61, Try.ntmps61
  go_wp2
  go_loop [9] (fun i => ∃ (k : Nat) (L : Int), k ≤ lc.length ∧ i = .int .i64 k ∧ 0 ≤ L ∧ L ≤ 1000000 ∧ ((k = 0 ∧ L = 0) ∨ (1 ≤ k ∧ -many ≤ lc.getD (k - 1) 0 ∧ lc.getD (k - 1) 0 ≤ many ∧ L = mabs (lc.getD (k - 1) 0))) ∧ Hid (z = okFrom many L (lc.drop k))) (fun i => lc.length - (intOf i).toNat)
  case atStart => exact ⟨0, 0, Nat.zero_le _, rfl, by omega, by omega, .inl ⟨rfl, rfl⟩, Z⟩
  case round =>
    obtain ⟨k, L, hk, rfl, l0, l1, hp, hz⟩ := hrel
    clear Z
    by_cases hlt : k < lc.length
    · rcases r3' with r3' | ⟨b', off', rfl, r4', r5'⟩
      · omega
      have r6' : w.cell? ⟨b', off' + k, none⟩ = some (.int .i64 (lc.getD k 0)) := r5' k hlt
      have r7 : 1 ≤ k → w.cell? ⟨b', off' + (k - 1), none⟩ = some (.int .i64 (lc.getD (k - 1) 0)) := fun _ => r5' (k - 1) (by omega)
      obtain ⟨x0, x1⟩ := hwf k hlt
      have NX : Hid (-many ≤ lc.getD k 0 → lc.getD k 0 ≤ many → -many ≤ lc.getD (k + 1 - 1) 0 ∧ lc.getD (k + 1 - 1) 0 ≤ many ∧ mabs (lc.getD k 0) = mabs (lc.getD (k + 1 - 1) 0)) := fun h1 h2 => ⟨h1, h2, rfl⟩
      have hz2 := hz.out
      rw [drop_at 0 hlt] at hz2
      have HW := Lib.hid hwf
      clear r5' hz hwf
      generalize lc.getD k 0 = x at *
      have hk0 : (0 : Int) ≤ (k : Int) := by omega
      have hk1 : (k : Int) < (lc.length : Int) := by omega
      have O : Hid (∀ w, Calls Try.prog 70 #[.int .i64 x, .int .i64 many] w fun e w' => e = .returned (.bool (decide (x ≠ 0 ∧ -many ≤ x ∧ x ≤ many))) ∧ w = w') := fun w => lof_any x many w m0 (by omega)
      rcases okFrom_cons hz2 with ⟨h1, h2, h3, hz3⟩ | ⟨h1, hz3⟩
      · have H := Lib.hid hz3
        have NX2 := Lib.hid (NX.out h1 h2)
        have hl := mabs_le h1 h2
        have C : Hid (∀ w, Calls Try.prog 71 #[.int .i64 x] w fun e w' => e = .returned (.int .i64 (mabs x)) ∧ w = w') := fun w => variable_any x w (by omega) (by omega)
        have ed : decide (x ≠ 0 ∧ -many ≤ x ∧ x ≤ many) = true := by
          have : x ≠ 0 := by rintro rfl; simp [mabs] at h3; omega
          simp [this, h1, h2]
        rw [ed] at O
        clear hz2 hz3 ed NX
        generalize mabs x = y at *
        rcases hp with ⟨rfl, rfl⟩ | ⟨p1, p2, p3, p4⟩
        · clear r7
          rw [Nat.add_zero] at r6'
          go_wp2_with fail
          refine (O.out _).mono ?_; rintro e w1 ⟨rfl, rfl⟩
          go_wp2_with fail
          exact ⟨⟨1, y, by omega, by go_num, by omega, by omega, .inr ⟨by omega, NX2.out.1, NX2.out.2.1, NX2.out.2.2⟩, H⟩, by simp [intOf]; omega⟩
        · have r8 := r7 p1
          have D : Hid (∀ w, Calls Try.prog 71 #[.int .i64 (lc.getD (k - 1) 0)] w fun e w' => e = .returned (.int .i64 L) ∧ w = w') := fun w => by rw [p4]; exact variable_any _ w (by omega) (by omega)
          have NX3 : Hid (-many ≤ lc.getD (k + 1 - 1) 0 ∧ lc.getD (k + 1 - 1) 0 ≤ many ∧ y = mabs (lc.getD (k + 1 - 1) 0)) := NX2.out
          clear r7 p4 NX2 p2 p3
          generalize lc.getD (k - 1) 0 = p at *
          have q1 : ¬ L ≥ y := by omega
          have i0 : (0 : Int) < (k : Int) := by omega
          have i1 : (k : Int) - 1 < (lc.length : Int) := by omega
          have i2 : (0 : Int) ≤ (k : Int) - 1 := by omega
          go_wp2_with fail
          refine (O.out _).mono ?_; rintro e w1 ⟨rfl, rfl⟩
          go_wp2_with fail
          refine (D.out _).mono ?_; rintro e w1 ⟨rfl, rfl⟩
          go_wp2_with fail
          refine (C.out _).mono ?_; rintro e w1 ⟨rfl, rfl⟩
          go_wp2_with fail
          exact ⟨⟨k + 1, y, by omega, by go_num, by omega, by omega, .inr ⟨by omega, NX3.out.1, NX3.out.2.1, NX3.out.2.2⟩, H⟩, by simp [intOf]; omega⟩
      · subst hz3
        clear hz2 NX
        by_cases hin : x ≠ 0 ∧ -many ≤ x ∧ x ≤ many
        · rw [decide_eq_true hin] at O
          obtain ⟨h2, h3, h4⟩ := hin
          have h5 : mabs x ≤ L := by omega
          have C : Hid (∀ w, Calls Try.prog 71 #[.int .i64 x] w fun e w' => e = .returned (.int .i64 (mabs x)) ∧ w = w') := fun w => variable_any x w (by omega) (by omega)
          have h6 : 1 ≤ mabs x := by unfold mabs; split <;> omega
          rcases hp with ⟨rfl, rfl⟩ | ⟨p1, p2, p3, p4⟩
          · omega
          clear h1
          generalize mabs x = y at *
          have r8 := r7 p1
          have D : Hid (∀ w, Calls Try.prog 71 #[.int .i64 (lc.getD (k - 1) 0)] w fun e w' => e = .returned (.int .i64 L) ∧ w = w') := fun w => by rw [p4]; exact variable_any _ w (by omega) (by omega)
          clear r7 p4 p2 p3
          generalize lc.getD (k - 1) 0 = p at *
          have q1 : y ≤ L := by omega
          have i0 : (0 : Int) < (k : Int) := by omega
          have i1 : (k : Int) - 1 < (lc.length : Int) := by omega
          have i2 : (0 : Int) ≤ (k : Int) - 1 := by omega
          go_wp2_with fail
          refine (O.out _).mono ?_; rintro e w1 ⟨rfl, rfl⟩
          go_wp2_with fail
          refine (D.out _).mono ?_; rintro e w1 ⟨rfl, rfl⟩
          go_wp2_with fail
          refine (C.out _).mono ?_; rintro e w1 ⟨rfl, rfl⟩
          go_wp2_with fail
          go_ret
          exact ⟨rfl, rfl⟩
        · rw [decide_eq_false hin] at O
          clear hin h1 hp r7
          go_wp2_with fail
          refine (O.out _).mono ?_; rintro e w1 ⟨rfl, rfl⟩
          go_wp2_with fail
          go_ret
          exact ⟨rfl, rfl⟩
    · obtain rfl : k = lc.length := by omega
      have hz2 := hz.out
      rw [drop_end] at hz2
      have hz3 : z = true := hz2
      subst hz3
      clear hz hz2 hwf
      go_wp2_with fail
      go_ret
      exact ⟨rfl, rfl⟩

/-! ### ContainsFunc over slices of slices, for a function that captures one variable -/
def ClosureHas (F : FuncId) (g : Nat) (p : List Int → Bool) (ls : List (List Int)) (w : World) : Prop :=
  ∀ (w' : World) (a : Option Addr) (c : Nat) (i : Nat), i < ls.length → Below w.heap.size w w' → Ints w' (.slice a (ls.getD i []).length c) (ls.getD i []) →
    Calls Try.prog F #[.slice a (ls.getD i []).length c, .pointer (some ⟨g, 0, none⟩)] w' fun e w'' => e = .returned (.bool (p (ls.getD i []))) ∧ Below w'.heap.size w' w''
theorem any_drop {α : Type} {p : α → Bool} {l : List α} (d : α) {k : Nat} (hk : k < l.length) : (l.drop k).any p = (p (l.getD k d) || (l.drop (k + 1)).any p) := by
  rw [drop_at d hk, List.any_cons]

set_option maxHeartbeats 2000000 in
theorem indexSSOk_any (g : Nat) (p : List Int → Bool) (v : Value) (ls : List (List Int)) (w : World) (h : IntSS w v ls) (C : ClosureHas 60 g p ls w) :
    Calls Try.prog 74 #[v, .func (Fn.func 60) #[] #[.pointer (some ⟨g, 0, none⟩)]] w fun e w' => ∃ n : Int, e = .returned (.int .i64 n) ∧ decide (0 ≤ n) = ls.any p ∧ Below w.heap.size w w' := by
  have hl := h.len
  obtain ⟨a, cap, G, rfl, hr, hF⟩ := h
  have Z : Hid (ls.any p = (ls.drop 0).any p) := rfl
  generalize hz0 : ls.any p = z at *
  clear hz0
  have B0 := Below.refl w.heap.size w
  go_enter Try.func74, Try.ntmps74
  go_wp2
  go_loopw [8] (fun i wr => ∃ k : Nat, k ≤ ls.length ∧ i = .int .i64 k ∧ Hid (z = (ls.drop k).any p) ∧ Below w.heap.size w wr) (fun i _ => ls.length - (intOf i).toNat)
  case atStart => exact ⟨0, Nat.zero_le _, rfl, Z, B0⟩
  case round =>
    obtain ⟨k, hk, rfl, hz, B⟩ := hrel
    clear Z B0
    by_cases hlt : k < ls.length
    · have I1 : Ints wr (G k) (ls.getD k []) := (hF k hlt).below B
      obtain ⟨r1, r2, r3⟩ := hr.below B
      rcases r3 with r3 | ⟨b, off, rfl, r4, r5⟩
      · omega
      have r6 : wr.cell? ⟨b, off + k, none⟩ = some (G k) := r5 k hlt
      obtain ⟨a1, c1, e1, R1⟩ := hF k hlt
      rw [e1] at r6 I1
      have D := C wr a1 c1 k hlt B I1
      have hz2 := hz.out
      rw [any_drop [] hlt] at hz2
      have HC := Lib.hid C
      clear r5 hz R1 I1 e1 C hF hr
      generalize ls.getD k [] = x at *
      have hk0 : (0 : Int) ≤ (k : Int) := by omega
      have hk1 : (k : Int) < (ls.length : Int) := by omega
      cases hx : p x
      · rw [hx] at D hz2
        rw [Bool.false_or] at hz2
        have H := Lib.hid hz2
        have E := Lib.hid D
        clear D hz2 hx
        go_wp2_with fail
        refine E.out.mono ?_; rintro e w1 ⟨rfl, b1⟩
        have B2 := B.trans (b1.mono B.size)
        go_wp2_with fail
        exact ⟨⟨k + 1, by omega, by go_num, H, B2⟩, by simp [intOf]; omega⟩
      · rw [hx] at D hz2
        rw [Bool.true_or] at hz2
        subst hz2
        have E := Lib.hid D
        clear D hx
        go_wp2_with fail
        refine E.out.mono ?_; rintro e w1 ⟨rfl, b1⟩
        have B2 := B.trans (b1.mono B.size)
        go_wp2_with fail
        go_ret
        exact ⟨k, rfl, by simp, B2⟩
    · obtain rfl : k = ls.length := by omega
      have hz2 := hz.out
      rw [drop_end] at hz2
      have hz3 : z = false := hz2
      subst hz3
      clear hz hz2 C hF hr
      go_wp2_with fail
      go_ret
      exact ⟨-1, rfl, by simp, B⟩

theorem containsSSOk_any (g : Nat) (p : List Int → Bool) (v : Value) (ls : List (List Int)) (w : World) (h : IntSS w v ls) (C : ClosureHas 60 g p ls w) :
    Calls Try.prog 59 #[v, .func (Fn.func 60) #[] #[.pointer (some ⟨g, 0, none⟩)]] w fun e w' => e = .returned (.bool (ls.any p)) ∧ Below w.heap.size w w' := by
  have E := Lib.hid (indexSSOk_any g p v ls w h C)
  obtain ⟨a, cap, rfl⟩ := h.form
  clear C h
  generalize ls.any p = z at *
  go_enter Try.func59, Try.ntmps59
  go_wp2_with fail
  refine E.out.mono ?_; rintro e w1 ⟨n, rfl, hn, b1⟩
  have HN := Lib.hid hn
  clear hn
  go_wp2_with fail
  go_ret
  exact ⟨ret_bool HN.out, b1⟩
set_option maxHeartbeats 2000000 in
theorem indexSSHas_any (g : Nat) (p : List Int → Bool) (v : Value) (ls : List (List Int)) (w : World) (h : IntSS w v ls) (C : ClosureHas 75 g p ls w) :
    Calls Try.prog 74 #[v, .func (Fn.func 75) #[] #[.pointer (some ⟨g, 0, none⟩)]] w fun e w' => ∃ n : Int, e = .returned (.int .i64 n) ∧ decide (0 ≤ n) = ls.any p ∧ Below w.heap.size w w' := by
  have hl := h.len
  obtain ⟨a, cap, G, rfl, hr, hF⟩ := h
  have Z : Hid (ls.any p = (ls.drop 0).any p) := rfl
  generalize hz0 : ls.any p = z at *
  clear hz0
  have B0 := Below.refl w.heap.size w
  go_enter Try.func74, Try.ntmps74
  go_wp2
  go_loopw [8] (fun i wr => ∃ k : Nat, k ≤ ls.length ∧ i = .int .i64 k ∧ Hid (z = (ls.drop k).any p) ∧ Below w.heap.size w wr) (fun i _ => ls.length - (intOf i).toNat)
  case atStart => exact ⟨0, Nat.zero_le _, rfl, Z, B0⟩
  case round =>
    obtain ⟨k, hk, rfl, hz, B⟩ := hrel
    clear Z B0
    by_cases hlt : k < ls.length
    · have I1 : Ints wr (G k) (ls.getD k []) := (hF k hlt).below B
      obtain ⟨r1, r2, r3⟩ := hr.below B
      rcases r3 with r3 | ⟨b, off, rfl, r4, r5⟩
      · omega
      have r6 : wr.cell? ⟨b, off + k, none⟩ = some (G k) := r5 k hlt
      obtain ⟨a1, c1, e1, R1⟩ := hF k hlt
      rw [e1] at r6 I1
      have D := C wr a1 c1 k hlt B I1
      have hz2 := hz.out
      rw [any_drop [] hlt] at hz2
      have HC := Lib.hid C
      clear r5 hz R1 I1 e1 C hF hr
      generalize ls.getD k [] = x at *
      have hk0 : (0 : Int) ≤ (k : Int) := by omega
      have hk1 : (k : Int) < (ls.length : Int) := by omega
      cases hx : p x
      · rw [hx] at D hz2
        rw [Bool.false_or] at hz2
        have H := Lib.hid hz2
        have E := Lib.hid D
        clear D hz2 hx
        go_wp2_with fail
        refine E.out.mono ?_; rintro e w1 ⟨rfl, b1⟩
        have B2 := B.trans (b1.mono B.size)
        go_wp2_with fail
        exact ⟨⟨k + 1, by omega, by go_num, H, B2⟩, by simp [intOf]; omega⟩
      · rw [hx] at D hz2
        rw [Bool.true_or] at hz2
        subst hz2
        have E := Lib.hid D
        clear D hx
        go_wp2_with fail
        refine E.out.mono ?_; rintro e w1 ⟨rfl, b1⟩
        have B2 := B.trans (b1.mono B.size)
        go_wp2_with fail
        go_ret
        exact ⟨k, rfl, by simp, B2⟩
    · obtain rfl : k = ls.length := by omega
      have hz2 := hz.out
      rw [drop_end] at hz2
      have hz3 : z = false := hz2
      subst hz3
      clear hz hz2 C hF hr
      go_wp2_with fail
      go_ret
      exact ⟨-1, rfl, by simp, B⟩

theorem containsSSHas_any (g : Nat) (p : List Int → Bool) (v : Value) (ls : List (List Int)) (w : World) (h : IntSS w v ls) (C : ClosureHas 75 g p ls w) :
    Calls Try.prog 59 #[v, .func (Fn.func 75) #[] #[.pointer (some ⟨g, 0, none⟩)]] w fun e w' => e = .returned (.bool (ls.any p)) ∧ Below w.heap.size w w' := by
  have E := Lib.hid (indexSSHas_any g p v ls w h C)
  obtain ⟨a, cap, rfl⟩ := h.form
  clear C h
  generalize ls.any p = z at *
  go_enter Try.func59, Try.ntmps59
  go_wp2_with fail
  refine E.out.mono ?_; rintro e w1 ⟨n, rfl, hn, b1⟩
  have HN := Lib.hid hn
  clear hn
  go_wp2_with fail
  go_ret
  exact ⟨ret_bool HN.out, b1⟩
theorem not_any_not {α : Type} (l : List α) (p : α → Bool) : (!(l.any fun x => !p x)) = l.all p := by
  induction l with
  | nil => rfl
  | cons x r ih => simp only [List.any_cons, List.all_cons, ← ih, Bool.not_or, Bool.not_not]

/-! ### CnfOk -/
def cnfOkL (m : Int) (ls : List (List Int)) : Bool := decide (0 ≤ m ∧ m ≤ 700 ∧ (ls.length : Int) ≤ 2500) && ls.all (okFrom m 0)

theorem closureOk (g : Nat) (m : Int) (ls : List (List Int)) (w : World) (hwf : ssWf ls) (hg : w.cell? ⟨g, 0, none⟩ = some (.int .i64 m)) (hgl : g < w.heap.size) (m0 : 0 ≤ m) (m1 : m ≤ 1000000) :
    ClosureHas 60 g (fun l => !okFrom m 0 l) ls w := by
  intro w' a c i hi hb h
  have hwi := hwf i hi
  have hg' := (hb.cell (p := ⟨g, 0, none⟩) hgl).trans hg
  have C := Lib.hid (clauseOk_any _ _ m w' h hwi m0 m1)
  clear hwf hg
  dsimp only
  generalize ls.getD i [] = x at *
  generalize okFrom m 0 x = z at *
  go_enter Try.func60, Try.ntmps60
  go_wp2_with fail
  refine C.out.mono ?_; rintro e w1 ⟨rfl, rfl⟩
  go_wp2_with fail
  go_ret
  exact ⟨rfl, Below.refl _ _⟩

set_option maxHeartbeats 1000000 in
theorem cnfOk_impl (m : Int) (v : Value) (ls : List (List Int)) (w : World) (h : IntSS w v ls) (hwf : ssWf ls) :
    Calls Try.prog 27 #[.agg #[.int .i64 m, v]] w fun e w' => e = .returned (.bool (cnfOkL m ls)) ∧ Below w.heap.size w w' := by
  have hl := h.len
  have hb := below_self_alloc w (.cells #[.int .i64 m, v] 38)
  have h2 := h.below hb
  have hg : (w.alloc (.cells #[.int .i64 m, v] 38)).cell? ⟨w.heap.size, 0, none⟩ = some (.int .i64 m) := (blk_new w _ _ _).cells.1
  obtain ⟨a, cap, rfl⟩ := h.form
  unfold cnfOkL
  by_cases h0 : 0 ≤ m
  · by_cases h1 : m ≤ 700
    · by_cases hc : (ls.length : Int) ≤ 2500
      · rw [decide_eq_true (And.intro h0 (And.intro h1 hc)), Bool.true_and]
        have C := Lib.hid (containsSSOk_any w.heap.size _ _ ls _ h2 (closureOk w.heap.size m ls _ hwf hg (by simp) h0 (by omega)))
        rw [← not_any_not]
        clear hwf hg h2 h
        generalize (ls.any fun x => !okFrom m 0 x) = z at *
        go_enter Try.func27, Try.ntmps27
        go_wp2_with fail
        refine C.out.mono ?_; rintro e w1 ⟨rfl, b1⟩
        go_wp2_with fail
        go_ret
        exact ⟨rfl, box2_below b1⟩
      · rw [decide_eq_false (fun h => hc h.2.2), Bool.false_and]
        clear hwf hg h2 h
        go_enter Try.func27, Try.ntmps27
        go_wp2_with fail
        go_ret
        exact ⟨rfl, hb⟩
    · rw [decide_eq_false (fun h => h1 h.2.1), Bool.false_and]
      clear hwf hg h2 h
      go_enter Try.func27, Try.ntmps27
      go_wp2_with fail
      go_ret
      exact ⟨rfl, hb⟩
  · rw [decide_eq_false (fun h => h0 h.1), Bool.false_and]
    clear hwf hg h2 h
    go_enter Try.func27, Try.ntmps27
    go_wp2_with fail
    go_ret
    exact ⟨rfl, hb⟩

theorem all_drop {α : Type} {p : α → Bool} {l : List α} (d : α) {k : Nat} (hk : k < l.length) : (l.drop k).all p = (p (l.getD k d) && (l.drop (k + 1)).all p) := by
  rw [drop_at d hk, List.all_cons]

set_option maxHeartbeats 2000000 in
theorem cnfOk_spec (m : Int) (v : Value) (ls : List (List Int)) (w : World) (h : IntSS w v ls) :
    Calls Try.prog 26 #[.agg #[.int .i64 m, v]] w fun e w' => e = .returned (.bool (cnfOkL m ls)) ∧ Below w.heap.size w w' := by
  have hl := h.len
  have hb := below_self_alloc w (.cells #[.int .i64 m, v] 38)
  replace h := h.below hb
  obtain ⟨a, cap, F, rfl, ⟨r1, r2, r3⟩, hF⟩ := h
  unfold cnfOkL
  by_cases h0 : 0 ≤ m
  · by_cases h1 : m ≤ 700
    · by_cases hc : (ls.length : Int) ≤ 2500
      · rw [decide_eq_true (And.intro h0 (And.intro h1 hc)), Bool.true_and]
        have Z : Hid (ls.all (okFrom m 0) = (ls.drop 0).all (okFrom m 0)) := rfl
        generalize hz0 : ls.all (okFrom m 0) = z at *
        clear hz0
        go_enter Try.func26, Try.ntmps26
        go_wp2
        go_loopw [3] (fun i wr => ∃ k : Nat, k ≤ ls.length ∧ i = .int .i64 k ∧ Hid (z = (ls.drop k).all (okFrom m 0)) ∧ ∃ q, wr = (w.alloc (.cells #[.int .i64 m, .slice a ls.length cap] 38)).drewN q) (fun i _ => ls.length - (intOf i).toNat)
        case atStart => exact ⟨0, Nat.zero_le _, rfl, Z, 0, rfl⟩
        case round =>
          obtain ⟨k, hk, rfl, hz, q, rfl⟩ := hrel
          clear Z
          by_cases hlt : k < ls.length
          · rcases r3 with r3 | ⟨b, off, rfl, r4, r5⟩
            · omega
            obtain ⟨a1, c1, e1, R1⟩ := hF k hlt
            have I1 : Ints (w.alloc (.cells #[.int .i64 m, .slice (some ⟨b, off, none⟩) ls.length cap] 38)) (F k) (ls.getD k []) := ⟨a1, c1, e1, R1⟩
            have r6 := r5 k hlt
            rw [e1] at r6 I1
            have C1 := fun n => l4Clause_any _ _ m ((w.alloc (.cells #[.int .i64 m, .slice (some ⟨b, off, none⟩) ls.length cap] 38)).drewN n) I1 h0 (by omega)
            have hz2 := hz.out
            rw [all_drop [] hlt] at hz2
            clear r5 hz R1 I1 e1 hF
            generalize ls.getD k [] = x at *
            have hk0 : (0 : Int) ≤ (k : Int) := by omega
            have hk1 : (k : Int) < (ls.length : Int) := by omega
            cases hx : okFrom m 0 x
            · rw [hx] at C1 hz2
              rw [Bool.false_and] at hz2
              subst hz2
              have C := Lib.hid C1
              clear C1 hx
              go_wp2_with fail
              go_quiet ((go_at_call 58; exact drewRet_at C.out _ _))
              go_wp2_with fail
              go_ret
              exact ⟨rfl, below_drewN (below_drewN hb _) _⟩
            · rw [hx] at C1 hz2
              rw [Bool.true_and] at hz2
              have H := Lib.hid hz2
              have C := Lib.hid C1
              clear C1 hx hz2
              go_wp2_with fail
              go_quiet ((go_at_call 58; exact drewRet_at C.out _ _))
              go_wp2_with fail
              exact ⟨⟨k + 1, by omega, by go_num, H, _, rfl⟩, by simp [intOf]; omega⟩
          · obtain rfl : k = ls.length := by omega
            have hz2 := hz.out
            rw [drop_end] at hz2
            have hz3 : z = true := hz2
            subst hz3
            clear hz hz2 hF
            go_wp2_with fail
            go_ret
            exact ⟨rfl, below_drewN hb _⟩
      · rw [decide_eq_false (fun h => hc h.2.2), Bool.false_and]
        clear r3 hF
        go_enter Try.func26, Try.ntmps26
        go_wp2_with fail
        go_ret
        exact ⟨rfl, hb⟩
    · rw [decide_eq_false (fun h => h1 h.2.1), Bool.false_and]
      clear r3 hF
      go_enter Try.func26, Try.ntmps26
      go_wp2_with fail
      go_ret
      exact ⟨rfl, hb⟩
  · rw [decide_eq_false (fun h => h0 h.1), Bool.false_and]
    clear r3 hF
    go_enter Try.func26, Try.ntmps26
    go_wp2_with fail
    go_ret
    exact ⟨rfl, hb⟩

/-! ### CnfHas -/
theorem closureHas (g : Nat) (u : Value) (l : List Bool) (ls : List (List Int)) (w : World) (hwf : ssWf ls) (h : Bools w u l) (hg : w.cell? ⟨g, 0, none⟩ = some u) (hgl : g < w.heap.size) :
    ClosureHas 75 g (fun c => !c.any (nlit l)) ls w := by
  intro w' a c i hi hb hc
  have hwi := hwf i hi
  have hg' := (hb.cell (p := ⟨g, 0, none⟩) hgl).trans hg
  have C := Lib.hid (clauseHas_impl _ _ u l w' hc hwi (h.below hb))
  obtain ⟨a2, c2, rfl, _⟩ := h
  clear hwf hg
  dsimp only
  generalize ls.getD i [] = x at *
  generalize x.any (nlit l) = z at *
  go_enter Try.func75, Try.ntmps75
  go_wp2_with fail
  refine C.out.mono ?_; rintro e w1 ⟨rfl, b1⟩
  go_wp2_with fail
  go_ret
  exact ⟨rfl, b1⟩

theorem holdsAll_any (v : Value) (ls : List (List Int)) (u : Value) (l : List Bool) (w : World) (h : IntSS w v ls) (hwf : ssWf ls) (h' : Bools w u l) :
    Calls Try.prog 66 #[v, u] w fun e w' => e = .returned (.bool (ls.all fun c => c.any (nlit l))) ∧ Below w.heap.size w w' := by
  have hb := below_self_alloc w (.cells #[u] 23)
  have C := Lib.hid (containsSSHas_any w.heap.size _ _ ls _ (h.below hb) (closureHas w.heap.size u l ls _ hwf (h'.below hb) (cell_box w u 23) (by simp)))
  obtain ⟨a, cap, rfl⟩ := h.form
  obtain ⟨a2, c2, rfl, _⟩ := h'
  rw [← not_any_not]
  clear h hwf
  generalize (ls.any fun x => !x.any (nlit l)) = z at *
  go_enter Try.func66, Try.ntmps66
  go_wp2_with fail
  refine C.out.mono ?_; rintro e w1 ⟨rfl, b1⟩
  go_wp2_with fail
  go_ret
  exact ⟨rfl, box2_below b1⟩

def cnfHasL (m : Int) (ls : List (List Int)) (l : List Bool) : Bool := cnfOkL m ls && (decide ((l.length : Int) = m) && ls.all fun c => c.any (nlit l))
theorem Bools.form {w : World} {v : Value} {l : List Bool} (h : Bools w v l) : ∃ a cap, v = .slice a l.length cap := by
  obtain ⟨a, cap, rfl, _⟩ := h; exact ⟨a, cap, rfl⟩

set_option maxHeartbeats 1000000 in
theorem cnfHas_impl (m : Int) (v : Value) (ls : List (List Int)) (u : Value) (l : List Bool) (w : World) (h : IntSS w v ls) (hwf : ssWf ls) (h' : Bools w u l) :
    Calls Try.prog 35 #[.agg #[.int .i64 m, v], u] w fun e w' => e = .returned (.bool (cnfHasL m ls l)) ∧ Below w.heap.size w w' := by
  have hl := h'.len
  have hb := below_self_alloc w (.cells #[.int .i64 m, v] 38)
  have A := blk_new w (.int .i64 m) v 38
  have C1 := cnfOk_impl m _ ls _ (h.below hb) hwf
  have D1 := fun w' (b : Below (w.alloc (.cells #[.int .i64 m, v] 38)).heap.size (w.alloc (.cells #[.int .i64 m, v] 38)) w') => holdsAll_any _ ls _ l w' ((h.below hb).below b) hwf ((h'.below hb).below b)
  obtain ⟨a, cap, rfl⟩ := h.form
  obtain ⟨a2, c2, rfl⟩ := h'.form
  unfold cnfHasL
  generalize cnfOkL m ls = z at *
  generalize (ls.all fun c => c.any (nlit l)) = y at *
  have C := Lib.hid C1
  have D := Lib.hid D1
  clear C1 D1 h h' hwf
  cases z
  · rw [Bool.false_and]
    go_enter Try.func35, Try.ntmps35
    go_wp2_with fail
    refine C.out.mono ?_; rintro e w1 ⟨rfl, b1⟩
    go_wp2_with fail
    go_ret
    exact ⟨rfl, box2_below b1⟩
  · rw [Bool.true_and]
    by_cases hm : (l.length : Int) = m
    · rw [decide_eq_true hm, Bool.true_and]
      have hm2 : ((l.length : Int) == m) = true := by simpa using hm
      have HM := Lib.hid hm
      clear hm
      go_enter Try.func35, Try.ntmps35
      go_wp2_with fail
      refine C.out.mono ?_; rintro e w1 ⟨rfl, b1⟩
      obtain ⟨A0, A1, A2⟩ := (A.keep b1).cells
      go_wp2_with fail
      refine (D.out _ b1).mono ?_; rintro e w2 ⟨rfl, b2⟩
      go_wp2_with fail
      go_ret
      exact ⟨rfl, below_two (box2_below b1) b2⟩
    · rw [decide_eq_false hm, Bool.false_and]
      have hm2 : ((l.length : Int) == m) = false := by simpa using hm
      clear hm
      go_enter Try.func35, Try.ntmps35
      go_wp2_with fail
      refine C.out.mono ?_; rintro e w1 ⟨rfl, b1⟩
      obtain ⟨A0, A1, A2⟩ := (A.keep b1).cells
      go_wp2_with fail
      go_ret
      exact ⟨rfl, box2_below b1⟩

set_option maxHeartbeats 2000000 in
theorem cnfHas_spec (m : Int) (v : Value) (ls : List (List Int)) (u : Value) (l : List Bool) (w : World) (h : IntSS w v ls) (hwf : ssWf ls) (h' : Bools w u l) :
    Calls Try.prog 34 #[.agg #[.int .i64 m, v], u] w fun e w' => e = .returned (.bool (cnfHasL m ls l)) ∧ Below w.heap.size w w' := by
  have hl := h'.len
  have hln := h.len
  have hb := below_self_alloc w (.cells #[.int .i64 m, v] 38)
  have A := blk_new w (.int .i64 m) v 38
  have C1 := cnfOk_spec m _ ls _ (h.below hb)
  replace h := h.below hb
  replace h' := h'.below hb
  obtain ⟨a, cap, rfl⟩ := h.form
  obtain ⟨a2, c2, rfl⟩ := h'.form
  unfold cnfHasL
  generalize cnfOkL m ls = z at *
  have C := Lib.hid C1
  clear C1
  cases z
  · rw [Bool.false_and]
    clear h h'
    go_enter Try.func34, Try.ntmps34
    go_wp2_with fail
    refine C.out.mono ?_; rintro e w1 ⟨rfl, b1⟩
    go_wp2_with fail
    go_ret
    exact ⟨rfl, box2_below b1⟩
  · rw [Bool.true_and]
    by_cases hm : (l.length : Int) = m
    · rw [decide_eq_true hm, Bool.true_and]
      have hm2 : ((l.length : Int) != m) = false := by simpa using hm
      have HM := Lib.hid hm
      have Z : Hid ((ls.all fun c => c.any (nlit l)) = (ls.drop 0).all fun c => c.any (nlit l)) := rfl
      generalize hz0 : (ls.all fun c => c.any (nlit l)) = z at *
      clear hz0 hm
      go_enter Try.func34, Try.ntmps34
      go_wp2_with fail
      refine C.out.mono ?_; rintro e w1 ⟨rfl, b1⟩
      replace A := A.keep b1
      replace h := h.below b1
      replace h' := h'.below b1
      have B1 := box2_below b1
      obtain ⟨A0, A1, A2⟩ := A.cells
      clear b1 hb C
      go_wp2
      obtain ⟨a, cap, F, e0, ⟨r1, r2, r3⟩, hF⟩ := h
      cases e0
      go_loopw [5] (fun i wr => ∃ k : Nat, k ≤ ls.length ∧ i = .int .i64 k ∧ Hid (z = (ls.drop k).all fun c => c.any (nlit l)) ∧ ∃ q, wr = w1.drewN q) (fun i _ => ls.length - (intOf i).toNat)
      case atStart => exact ⟨0, Nat.zero_le _, rfl, Z, 0, rfl⟩
      case round =>
        obtain ⟨k, hk, rfl, hz, q, rfl⟩ := hrel
        clear Z
        by_cases hlt : k < ls.length
        · rcases r3 with r3 | ⟨b, off, rfl, r4, r5⟩
          · omega
          obtain ⟨a1, c1, e1, R1⟩ := hF k hlt
          have I1 : Ints w1 (F k) (ls.getD k []) := ⟨a1, c1, e1, R1⟩
          have r6 := r5 k hlt
          rw [e1] at r6 I1
          have C1 := clauseHas_spec _ _ _ l (w1.drewN q) I1 (hwf k hlt) h'
          have hz2 := hz.out
          rw [all_drop [] hlt] at hz2
          have HW := Lib.hid hwf
          clear r5 hz R1 I1 e1 hF hwf
          generalize ls.getD k [] = x at *
          have hk0 : (0 : Int) ≤ (k : Int) := by omega
          have hk1 : (k : Int) < (ls.length : Int) := by omega
          cases hx : x.any (nlit l)
          · rw [hx] at C1 hz2
            rw [Bool.false_and] at hz2
            subst hz2
            have C := Lib.hid C1
            clear C1 hx
            go_wp2_with fail
            refine C.out.mono ?_; rintro e w2 ⟨rfl, n, rfl⟩
            go_wp2_with fail
            go_ret
            exact ⟨rfl, below_drewN B1 _⟩
          · rw [hx] at C1 hz2
            rw [Bool.true_and] at hz2
            have H := Lib.hid hz2
            have C := Lib.hid C1
            clear C1 hx hz2
            go_wp2_with fail
            refine C.out.mono ?_; rintro e w2 ⟨rfl, n, rfl⟩
            go_wp2_with fail
            exact ⟨⟨k + 1, by omega, by go_num, H, q + n, rfl⟩, by simp [intOf]; omega⟩
        · obtain rfl : k = ls.length := by omega
          have hz2 := hz.out
          rw [drop_end] at hz2
          have hz3 : z = true := hz2
          subst hz3
          clear hz hz2 hF hwf
          go_wp2_with fail
          go_ret
          exact ⟨rfl, below_drewN B1 _⟩
    · rw [decide_eq_false hm, Bool.false_and]
      have hm2 : ((l.length : Int) != m) = true := by simpa using hm
      clear hm h h'
      go_enter Try.func34, Try.ntmps34
      go_wp2_with fail
      refine C.out.mono ?_; rintro e w1 ⟨rfl, b1⟩
      obtain ⟨A0, A1, A2⟩ := (A.keep b1).cells
      go_wp2_with fail
      go_ret
      exact ⟨rfl, box2_below b1⟩
end Go.Proofs.Ytjobbokjebhjgaa
