/- Clauses: whether one is right; decimals of the reference. The conditions stand in each statement. -/
import Derived.Test.YtjobbokjebhjgaaDoorSj
import Derived.Laws.IdiomStrings
namespace Go.Proofs.YtjobbokjebhjgaaDoor
open Go.RowKit

/-- a mark without its turn -/
def mabs (m : Int) : Int := if m < 0 then -m else m
theorem lof_any (m n : Int) (w : World) (hn : 0 ≤ n) (hn' : n ≤ 9223372036854775807) :
    Calls Tryd.prog 21 #[.int .i64 m, .int .i64 n] w fun e w' => e = .returned (.bool (decide (m ≠ 0 ∧ -n ≤ m ∧ m ≤ n))) ∧ w = w' := by
  by_cases h0 : m = 0
  · subst h0
    go_enter Tryd.func21, Tryd.ntmps21
    go_wp2
    go_ret
    exact ⟨by simp, rfl⟩
  · have h0' : (m == 0) = false := by simpa using h0
    have h0'' : (m != 0) = true := by simpa using h0
    by_cases h1 : -n ≤ m
    · by_cases h2 : m ≤ n
      · have e : decide (m ≠ 0 ∧ -n ≤ m ∧ m ≤ n) = true := by simp [h0, h1, h2]
        rw [e]; clear e
        go_enter Tryd.func21, Tryd.ntmps21
        go_wp2
        go_ret
        exact ⟨rfl, rfl⟩
      · have e : decide (m ≠ 0 ∧ -n ≤ m ∧ m ≤ n) = false := by simp [h2]
        rw [e]; clear e
        go_enter Tryd.func21, Tryd.ntmps21
        go_wp2
        go_ret
        exact ⟨rfl, rfl⟩
    · have e : decide (m ≠ 0 ∧ -n ≤ m ∧ m ≤ n) = false := by simp [h1]
      rw [e]; clear e
      go_enter Tryd.func21, Tryd.ntmps21
      go_wp2
      go_ret
      exact ⟨rfl, rfl⟩
theorem variable_any (m : Int) (w : World) (h0 : -9223372036854775807 ≤ m) (h1 : m ≤ 9223372036854775807) :
    Calls Tryd.prog 22 #[.int .i64 m] w fun e w' => e = .returned (.int .i64 (mabs m)) ∧ w = w' := by
  by_cases h : m < 0
  · have e : mabs m = -m := by simp [mabs, h]
    rw [e]; clear e
    go_enter Tryd.func22, Tryd.ntmps22
    go_wp2
    go_ret
    exact ⟨rfl, rfl⟩
  · have e : mabs m = m := by simp [mabs, h]
    rw [e]; clear e
    go_enter Tryd.func22, Tryd.ntmps22
    go_wp2
    go_ret
    exact ⟨rfl, rfl⟩
def intsWf (l : List Int) : Prop := ∀ i, i < l.length → -9223372036854775808 ≤ l.getD i 0 ∧ l.getD i 0 ≤ 9223372036854775807
theorem drop_at {α : Type} {l : List α} (d : α) {k : Nat} (hk : k < l.length) : l.drop k = l.getD k d :: l.drop (k + 1) := by
  rw [List.drop_eq_getElem_cons hk, List.getD_eq_getElem?_getD, List.getElem?_eq_getElem hk]; rfl
theorem drop_end {α : Type} (l : List α) : l.drop l.length = [] := by simp
theorem intsWf_of {l : List Int} (h : ∀ x ∈ l, (Lit.int .i64 x).wf = true) : intsWf l := by
  intro i hi
  have := h (l.getD i 0) (by rw [List.getD_eq_getElem?_getD, List.getElem?_eq_getElem hi]; exact List.getElem_mem _)
  generalize l.getD i 0 = x at *
  simp [Lit.wf, IntKind.min, IntKind.max, IntKind.signed, IntKind.bits] at this
  omega
/-- the marks of a clause: among so many, each greater than the last without its turn -/
def okFrom (many last : Int) : List Int → Bool
  | [] => true
  | x :: r => if -many ≤ x ∧ x ≤ many ∧ last < mabs x then okFrom many (mabs x) r else false
theorem okFrom_cons {many last x : Int} {r : List Int} {z : Bool} (h : z = okFrom many last (x :: r)) : (-many ≤ x ∧ x ≤ many ∧ last < mabs x ∧ z = okFrom many (mabs x) r) ∨ ((x < -many ∨ (-many ≤ x ∧ many < x) ∨ (-many ≤ x ∧ x ≤ many ∧ mabs x ≤ last)) ∧ z = false) := by
  unfold okFrom at h
  by_cases c : -many ≤ x ∧ x ≤ many ∧ last < mabs x
  · rw [if_pos c] at h; exact .inl ⟨c.1, c.2.1, c.2.2, h⟩
  · rw [if_neg c] at h; exact .inr ⟨by omega, h⟩
theorem l4Abs_any (m : Int) (w : World) (h0 : -9223372036854775807 ≤ m) (h1 : m ≤ 9223372036854775807) :
    Calls Tryd.prog 20 #[.int .i64 m] w fun e w' => e = .returned (.int .i64 (mabs m)) ∧ w = w' := by
  by_cases h : m < 0
  · have e : mabs m = -m := by simp [mabs, h]
    rw [e]; clear e
    go_enter Tryd.func20, Tryd.ntmps20
    go_wp2
    go_ret
    exact ⟨rfl, rfl⟩
  · have e : mabs m = m := by simp [mabs, h]
    rw [e]; clear e
    go_enter Tryd.func20, Tryd.ntmps20
    go_wp2
    go_ret
    exact ⟨rfl, rfl⟩
theorem mabs_le {m n : Int} (h0 : -n ≤ m) (h1 : m ≤ n) : 0 ≤ mabs m ∧ mabs m ≤ n := by
  unfold mabs; split <;> omega
set_option maxHeartbeats 4000000 in
theorem l4Clause_any (c : Value) (lc : List Int) (many : Int) (w : World) (hc : Ints w c lc) (m0 : 0 ≤ many) (m1 : many ≤ 1000000) :
    Calls Tryd.prog 13 #[c, .int .i64 many] w (DrewRet (.bool (okFrom many 0 lc)) w) := by
  have hcl := hc.len
  obtain ⟨a', cap', rfl, r1', r2', r3'⟩ := hc
  have Z : Hid (okFrom many 0 lc = okFrom many 0 (lc.drop 0)) := rfl
  generalize hz0 : okFrom many 0 lc = z at *
  clear hz0
  go_enter Tryd.func13, Tryd.ntmps13
  go_wp2
  go_loopw [5, 6] (fun s i wr => ∃ (k : Nat) (L : Int), k ≤ lc.length ∧ i = .int .i64 k ∧ s = .int .i64 L ∧ 0 ≤ L ∧ L ≤ 1000000 ∧ Hid (z = okFrom many L (lc.drop k)) ∧ ∃ m, wr = w.drewN m) (fun _ i _ => lc.length - (intOf i).toNat)
  case atStart => exact ⟨0, 0, Nat.zero_le _, rfl, rfl, by omega, by omega, Z, 0, rfl⟩
  case round =>
    obtain ⟨k, L, hk, rfl, rfl, l0, l1, hz, m, rfl⟩ := hrel
    clear Z
    by_cases hlt : k < lc.length
    · rcases r3' with r3' | ⟨b', off', rfl, r4', r5'⟩
      · omega
      have r6' : w.cell? ⟨b', off' + k, none⟩ = some (.int .i64 (lc.getD k 0)) := r5' k hlt
      have hz2 := hz.out
      rw [drop_at 0 hlt] at hz2
      clear r5' hz
      generalize lc.getD k 0 = x at *
      have hk0 : (0 : Int) ≤ (k : Int) := by omega
      have hk1 : (k : Int) < (lc.length : Int) := by omega
      rcases okFrom_cons hz2 with ⟨h1, h2, h3, hz3⟩ | ⟨h1, hz3⟩
      · have H := Lib.hid hz3
        have hl := mabs_le h1 h2
        have C : Hid (∀ w, Calls Tryd.prog 20 #[.int .i64 x] w fun e w' => e = .returned (.int .i64 (mabs x)) ∧ w = w') := fun w => l4Abs_any x w (by omega) (by omega)
        generalize mabs x = y at *
        clear hz2 hz3
        go_wp2_with fail
        refine (C.out _).mono ?_; rintro e w1 ⟨rfl, rfl⟩
        go_wp2_with fail
        refine (C.out _).mono ?_; rintro e w1 ⟨rfl, rfl⟩
        go_wp2_with fail
        exact ⟨⟨k + 1, y, by omega, by go_num, rfl, by omega, by omega, H, _, rfl⟩, by simp [intOf]; omega⟩
      · subst hz3
        clear hz2
        rcases h1 with h1 | ⟨h1, h2⟩ | ⟨h1, h2, h3⟩
        · have q1 : ¬ -many ≤ x := by omega
          go_wp2_with fail
          go_ret
          exact ⟨rfl, _, rfl⟩
        · go_wp2_with fail
          go_ret
          exact ⟨rfl, _, rfl⟩
        · have C : Hid (∀ w, Calls Tryd.prog 20 #[.int .i64 x] w fun e w' => e = .returned (.int .i64 (mabs x)) ∧ w = w') := fun w => l4Abs_any x w (by omega) (by omega)
          generalize mabs x = y at *
          go_wp2_with fail
          refine (C.out _).mono ?_; rintro e w1 ⟨rfl, rfl⟩
          go_wp2_with fail
          go_ret
          exact ⟨rfl, _, rfl⟩
    · obtain rfl : k = lc.length := by omega
      have hz2 := hz.out
      rw [drop_end] at hz2
      have hz3 : z = true := hz2
      subst hz3
      clear hz hz2
      go_wp2_with fail
      go_ret
      exact ⟨rfl, _, rfl⟩
set_option maxHeartbeats 4000000 in
theorem clauseOk_any (c : Value) (lc : List Int) (many : Int) (w : World) (hc : Ints w c lc) (hwf : intsWf lc) (m0 : 0 ≤ many) (m1 : many ≤ 1000000) :
    Calls Tryd.prog 15 #[c, .int .i64 many] w fun e w' => e = .returned (.bool (okFrom many 0 lc)) ∧ w = w' := by
  have hcl := hc.len
  obtain ⟨a', cap', rfl, r1', r2', r3'⟩ := hc
  have Z : Hid (okFrom many 0 lc = okFrom many 0 (lc.drop 0)) := rfl
  generalize hz0 : okFrom many 0 lc = z at *
  clear hz0
  go_enter Tryd.func15, Tryd.ntmps15
  go_wp2
  go_loop [9] (fun i => ∃ (k : Nat) (L : Int), k ≤ lc.length ∧ i = .int .i64 k ∧ 0 ≤ L ∧ L ≤ 1000000 ∧ ((k = 0 ∧ L = 0) ∨ (1 ≤ k ∧ -many ≤ lc.getD (k - 1) 0 ∧ lc.getD (k - 1) 0 ≤ many ∧ L = mabs (lc.getD (k - 1) 0))) ∧ Hid (z = okFrom many L (lc.drop k))) (fun i => lc.length - (intOf i).toNat)
  case atStart => exact ⟨0, 0, Nat.zero_le _, rfl, by omega, by omega, .inl ⟨rfl, rfl⟩, Z⟩
  case round =>
    obtain ⟨k, L, hk, rfl, l0, l1, hp, hz⟩ := hrel
    clear Z
    by_cases hlt : k < lc.length
    · rcases r3' with r3' | ⟨b', off', rfl, r4', r5'⟩
      · omega
      have r6' : w.cell? ⟨b', off' + k, none⟩ = some (.int .i64 (lc.getD k 0)) := r5' k hlt
      have r7 : 1 ≤ k → w.cell? ⟨b', off' + (k - 1), none⟩ = some (.int .i64 (lc.getD (k - 1) 0)) := fun _ => r5' (k - 1) (by omega)
      obtain ⟨x0, x1⟩ := hwf k hlt
      have NX : Hid (-many ≤ lc.getD k 0 → lc.getD k 0 ≤ many → -many ≤ lc.getD (k + 1 - 1) 0 ∧ lc.getD (k + 1 - 1) 0 ≤ many ∧ mabs (lc.getD k 0) = mabs (lc.getD (k + 1 - 1) 0)) := fun h1 h2 => ⟨h1, h2, rfl⟩
      have hz2 := hz.out
      rw [drop_at 0 hlt] at hz2
      have HW := Lib.hid hwf
      clear r5' hz hwf
      generalize lc.getD k 0 = x at *
      have hk0 : (0 : Int) ≤ (k : Int) := by omega
      have hk1 : (k : Int) < (lc.length : Int) := by omega
      have O : Hid (∀ w, Calls Tryd.prog 21 #[.int .i64 x, .int .i64 many] w fun e w' => e = .returned (.bool (decide (x ≠ 0 ∧ -many ≤ x ∧ x ≤ many))) ∧ w = w') := fun w => lof_any x many w m0 (by omega)
      rcases okFrom_cons hz2 with ⟨h1, h2, h3, hz3⟩ | ⟨h1, hz3⟩
      · have H := Lib.hid hz3
        have NX2 := Lib.hid (NX.out h1 h2)
        have hl := mabs_le h1 h2
        have C : Hid (∀ w, Calls Tryd.prog 22 #[.int .i64 x] w fun e w' => e = .returned (.int .i64 (mabs x)) ∧ w = w') := fun w => variable_any x w (by omega) (by omega)
        have ed : decide (x ≠ 0 ∧ -many ≤ x ∧ x ≤ many) = true := by
          have : x ≠ 0 := by rintro rfl; simp [mabs] at h3; omega
          simp [this, h1, h2]
        rw [ed] at O
        clear hz2 hz3 ed NX
        generalize mabs x = y at *
        rcases hp with ⟨rfl, rfl⟩ | ⟨p1, p2, p3, p4⟩
        · clear r7
          rw [Nat.add_zero] at r6'
          go_wp2_with fail
          refine (O.out _).mono ?_; rintro e w1 ⟨rfl, rfl⟩
          go_wp2_with fail
          exact ⟨⟨1, y, by omega, by go_num, by omega, by omega, .inr ⟨by omega, NX2.out.1, NX2.out.2.1, NX2.out.2.2⟩, H⟩, by simp [intOf]; omega⟩
        · have r8 := r7 p1
          have D : Hid (∀ w, Calls Tryd.prog 22 #[.int .i64 (lc.getD (k - 1) 0)] w fun e w' => e = .returned (.int .i64 L) ∧ w = w') := fun w => by rw [p4]; exact variable_any _ w (by omega) (by omega)
          have NX3 : Hid (-many ≤ lc.getD (k + 1 - 1) 0 ∧ lc.getD (k + 1 - 1) 0 ≤ many ∧ y = mabs (lc.getD (k + 1 - 1) 0)) := NX2.out
          clear r7 p4 NX2 p2 p3
          generalize lc.getD (k - 1) 0 = p at *
          have q1 : ¬ L ≥ y := by omega
          have i0 : (0 : Int) < (k : Int) := by omega
          have i1 : (k : Int) - 1 < (lc.length : Int) := by omega
          have i2 : (0 : Int) ≤ (k : Int) - 1 := by omega
          go_wp2_with fail
          refine (O.out _).mono ?_; rintro e w1 ⟨rfl, rfl⟩
          go_wp2_with fail
          refine (D.out _).mono ?_; rintro e w1 ⟨rfl, rfl⟩
          go_wp2_with fail
          refine (C.out _).mono ?_; rintro e w1 ⟨rfl, rfl⟩
          go_wp2_with fail
          exact ⟨⟨k + 1, y, by omega, by go_num, by omega, by omega, .inr ⟨by omega, NX3.out.1, NX3.out.2.1, NX3.out.2.2⟩, H⟩, by simp [intOf]; omega⟩
      · subst hz3
        clear hz2 NX
        by_cases hin : x ≠ 0 ∧ -many ≤ x ∧ x ≤ many
        · rw [decide_eq_true hin] at O
          obtain ⟨h2, h3, h4⟩ := hin
          have h5 : mabs x ≤ L := by omega
          have C : Hid (∀ w, Calls Tryd.prog 22 #[.int .i64 x] w fun e w' => e = .returned (.int .i64 (mabs x)) ∧ w = w') := fun w => variable_any x w (by omega) (by omega)
          have h6 : 1 ≤ mabs x := by unfold mabs; split <;> omega
          rcases hp with ⟨rfl, rfl⟩ | ⟨p1, p2, p3, p4⟩
          · omega
          clear h1
          generalize mabs x = y at *
          have r8 := r7 p1
          have D : Hid (∀ w, Calls Tryd.prog 22 #[.int .i64 (lc.getD (k - 1) 0)] w fun e w' => e = .returned (.int .i64 L) ∧ w = w') := fun w => by rw [p4]; exact variable_any _ w (by omega) (by omega)
          clear r7 p4 p2 p3
          generalize lc.getD (k - 1) 0 = p at *
          have q1 : y ≤ L := by omega
          have i0 : (0 : Int) < (k : Int) := by omega
          have i1 : (k : Int) - 1 < (lc.length : Int) := by omega
          have i2 : (0 : Int) ≤ (k : Int) - 1 := by omega
          go_wp2_with fail
          refine (O.out _).mono ?_; rintro e w1 ⟨rfl, rfl⟩
          go_wp2_with fail
          refine (D.out _).mono ?_; rintro e w1 ⟨rfl, rfl⟩
          go_wp2_with fail
          refine (C.out _).mono ?_; rintro e w1 ⟨rfl, rfl⟩
          go_wp2_with fail
          go_ret
          exact ⟨rfl, rfl⟩
        · rw [decide_eq_false hin] at O
          clear hin h1 hp r7
          go_wp2_with fail
          refine (O.out _).mono ?_; rintro e w1 ⟨rfl, rfl⟩
          go_wp2_with fail
          go_ret
          exact ⟨rfl, rfl⟩
    · obtain rfl : k = lc.length := by omega
      have hz2 := hz.out
      rw [drop_end] at hz2
      have hz3 : z = true := hz2
      subst hz3
      clear hz hz2 hwf
      go_wp2_with fail
      go_ret
      exact ⟨rfl, rfl⟩
/-- the decimal digits of a number -/
def dg (n : Nat) : List UInt8 := if n ≤ 9 then [48 + UInt8.ofNat n] else dg (n / 10) ++ [48 + UInt8.ofNat (n % 10)]
  decreasing_by omega
theorem dg_small {n : Nat} (h : n ≤ 9) : dg n = [48 + UInt8.ofNat n] := by rw [dg, if_pos h]
theorem dg_big {n : Nat} (h : 9 < n) : dg n = dg (n / 10) ++ [48 + UInt8.ofNat (n % 10)] := by rw [dg, if_neg (by omega)]
theorem dg_len : ∀ (k n : Nat), n < 10 ^ (k + 1) → (dg n).length ≤ k + 1
  | 0, n, h => by rw [dg_small (by simp at h; omega)]; simp
  | k + 1, n, h => by
    by_cases h9 : n ≤ 9
    · rw [dg_small h9]; simp
    · rw [dg_big (by omega)]
      have := dg_len k (n / 10) (by rw [Nat.pow_succ] at h; omega)
      simp; omega
theorem bytes_cat (x y : List UInt8) : ((⟨x.toArray⟩ : ByteArray) ++ (⟨y.toArray⟩ : ByteArray)) = ⟨(x ++ y).toArray⟩ := by
  apply ByteArray.ext
  simp [ByteArray.data_append]
theorem bytes_cons (x : UInt8) (y : List UInt8) : ((⟨#[x]⟩ : ByteArray) ++ (⟨y.toArray⟩ : ByteArray)) = ⟨(x :: y).toArray⟩ := bytes_cat [x] y
/-- 'string([]byte{x})' -/
theorem conv_one (W : World) (x : Int) (h0 : 0 ≤ x) (h1 : x ≤ 255) :
    (convert 33 9 (.slice (some ⟨W.heap.size, 0, none⟩) 1 1)).run Tryd.prog (W.alloc (.cells #[.int .u8 x] 5)) = .ok (.string ⟨#[UInt8.ofNat x.toNat]⟩) (W.alloc (.cells #[.int .u8 x] 5)) := by
  have h := run_convert_bytes_back (P := Tryd.prog) (W.alloc (.cells #[.int .u8 x] 5)) 33 9 5 ⟨W.heap.size, 0, none⟩ 1 [UInt8.ofNat x.toNat] Tryd.underlying33 Tryd.underlying5 Tryd.underlying9 (fun j hj => by
    have : j = 0 := by simpa using hj
    subst this
    have e : ((UInt8.ofNat x.toNat).toNat : Int) = x := by simp; omega
    simp only [List.getElem_cons_zero, e]
    simp [Addr.add, World.cell?_alloc_new])
  exact h
set_option maxHeartbeats 400000 in
theorem l12Dec_nat (n : Nat) (w : World) (h1 : n ≤ 9223372036854775807) :
    Calls Tryd.prog 14 #[.int .i64 n] w fun e w' => e = .returned (.string ⟨(dg n).toArray⟩) ∧ Below w.heap.size w w' := by
  have g1 : ¬ (n : Int) < -9223372036854775807 := by omega
  have g2 : ¬ (n : Int) < 0 := by omega
  go_enter Tryd.func14, Tryd.ntmps14
  go_wp2
  go_loopw [0, 3] (fun x o wr => ∃ (m : Nat) (l : List UInt8), x = .int .i64 m ∧ o = .string ⟨l.toArray⟩ ∧ m ≤ 9223372036854775807 ∧ Below w.heap.size w wr ∧ Hid (dg n = dg m ++ l)) (fun x _ _ => (intOf x).toNat)
  case atStart => exact ⟨n, [], rfl, rfl, h1, Below.refl _ _, by show _ = _; simp⟩
  case round =>
    obtain ⟨m, l, rfl, rfl, hm, hB, hd⟩ := hrel
    have hl : l.length ≤ 20 := by
      have h1 := congrArg List.length hd.out
      have h2 := dg_len 19 n (by omega)
      simp at h1; omega
    by_cases h9 : (9 : Int) < m
    · have hcv := conv_one wr (48 + (m : Int) % 10) (by omega) (by omega)
      go_wp2
      refine ⟨⟨m / 10, (48 + UInt8.ofNat (m % 10)) :: l, by simp, by rw [bytes_cons], by omega, below_step hB _, ?_⟩, by simp [intOf]; omega⟩
      show _ = _
      rw [hd.out, dg_big (by omega)]; simp
    · have hcv := conv_one wr (48 + (m : Int)) (by omega) (by omega)
      go_wp2
      go_ret
      have e : dg n = (48 + UInt8.ofNat m) :: l := by
        have e := hd.out
        rw [dg_small (n := m) (by omega)] at e
        exact e
      exact ⟨by rw [e, ← bytes_cons]; rfl, below_step hB _⟩
end Go.Proofs.YtjobbokjebhjgaaDoor
