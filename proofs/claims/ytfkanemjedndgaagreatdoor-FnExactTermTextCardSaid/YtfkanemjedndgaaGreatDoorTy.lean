/- VecText and l12Dec. The conditions stand in each statement. -/
import Derived.Test.YtfkanemjedndgaaGreatDoorTw
import Derived.OwnWalk
namespace Go.Proofs.YtfkanemjedndgaaGreatDoor
open Go.RowKit

set_option maxHeartbeats 400000 in
theorem raw_any (a b : Int) (w : World) (h0 : 0 ≤ b) (h1 : b ≤ 9223372036854775807) :
    Calls Tryz.prog 53 #[.agg #[.int .i64 a, .int .i64 b]] w fun e w' => e = .returned (.int .u64 b) ∧ Below w.heap.size w w' := by
  go_enter Tryz.func53, Tryz.ntmps53
  go_wp2
  go_ret
  exact ⟨rfl, below_self_alloc _ _⟩
theorem bit_law (n : Int) (h0 : 0 ≤ n) (h1 : n < 18446744073709551616) : (bits BinOp.and IntKind.u64 n 1 == 1) = decide (n % 2 = 1) := by
  rw [u64_and n 1 h0 h1 (by decide) (by decide)]
  have : (1 : Int).toNat = 1 := rfl
  rw [this, nat_mask1]
  rw [Bool.eq_iff_iff]; simp; omega
set_option maxHeartbeats 400000 in
theorem bit_any (n k : Int) (w : World) (h0 : 0 ≤ n) (h1 : n ≤ 9223372036854775807) (h2 : 0 ≤ k) (h3 : k ≤ 3) :
    Calls Tryz.prog 54 #[.int .u64 n, .int .i64 k] w fun e w' => e = .returned (.bool (decide (n / two k.toNat % 2 = 1))) ∧ w = w' := by
  have e : (bits BinOp.and IntKind.u64 (n / 2 ^ k.toNat) 1 == 1) = decide (n / two k.toNat % 2 = 1) := by
    rw [two_eq, bit_law]
    · exact Int.ediv_nonneg h0 (by have := two_pos k.toNat; omega)
    · have := Int.ediv_le_self (two k.toNat) h0; omega
  have E := Lib.hid e
  clear e
  go_enter Tryz.func54, Tryz.ntmps54
  go_wp2
  go_ret
  exact ⟨ret_bool E.out, rfl⟩
theorem vokB_bd {a b : Int} (h : vokB a b = true) : 1 ≤ a ∧ a ≤ 4 ∧ 0 ≤ b ∧ b < two a.toNat := by
  simpa only [vokB, decide_eq_true_eq] using h

/-! ### a block of two cells, as a whole -/
theorem vok_two {a b : Int} (hv : vokB a b = true) : two a.toNat ≤ 16 := by
  obtain ⟨h1, h2, h3, h4⟩ := vokB_bd hv
  exact two_le (m := a.toNat) (n := 4) (by omega)
theorem l1Bit_law (n : Int) (k : Nat) (h0 : 0 ≤ n) (_h1 : n ≤ 1000000) : 0 ≤ n / two k ∧ n / two k ≤ n := by
  have := two_pos k
  exact ⟨Int.ediv_nonneg h0 (by omega), Int.ediv_le_self _ h0⟩
set_option maxHeartbeats 400000 in
theorem l1Bit_any (n k : Int) (w : World) (h0 : 0 ≤ n) (h1 : n ≤ 1000000) (h3 : k ≤ 60) :
    Calls Tryz.prog 46 #[.int .i64 n, .int .i64 k] w fun e w' => e = .returned (.int .i64 (n / two k.toNat % 2)) ∧ w = w' := by
  have ⟨g0, g1⟩ := l1Bit_law n k.toNat h0 h1
  have g2 := two_pos k.toNat
  go_enter Tryz.func46, Tryz.ntmps46
  go_wp2_with (go_at_call 60; refine (l1Two_any k _ h3).mono ?_; rintro e w1 ⟨rfl, rfl⟩)
  go_ret
  exact ⟨rfl, rfl⟩
def vtxt (a b : Int) : ByteArray := if vokB a b = true then ⟨(vt a.toNat b a.toNat).toArray⟩ else ⟨#[]⟩
/-- the decimal digits of a number -/
def dg (n : Nat) : List UInt8 := if n ≤ 9 then [48 + UInt8.ofNat n] else dg (n / 10) ++ [48 + UInt8.ofNat (n % 10)]
  decreasing_by omega
theorem dg_small {n : Nat} (h : n ≤ 9) : dg n = [48 + UInt8.ofNat n] := by rw [dg, if_pos h]
theorem dg_big {n : Nat} (h : 9 < n) : dg n = dg (n / 10) ++ [48 + UInt8.ofNat (n % 10)] := by rw [dg, if_neg (by omega)]
theorem dg_len : ∀ (k n : Nat), n < 10 ^ (k + 1) → (dg n).length ≤ k + 1
  | 0, n, h => by rw [dg_small (by simp at h; omega)]; simp
  | k + 1, n, h => by
    by_cases h9 : n ≤ 9
    · rw [dg_small h9]; simp
    · rw [dg_big (by omega)]
      have := dg_len k (n / 10) (by rw [Nat.pow_succ] at h; omega)
      simp; omega
theorem bytes_cat (x y : List UInt8) : ((⟨x.toArray⟩ : ByteArray) ++ (⟨y.toArray⟩ : ByteArray)) = ⟨(x ++ y).toArray⟩ := by
  apply ByteArray.ext
  simp [ByteArray.data_append]
theorem bytes_cons (x : UInt8) (y : List UInt8) : ((⟨#[x]⟩ : ByteArray) ++ (⟨y.toArray⟩ : ByteArray)) = ⟨(x :: y).toArray⟩ := bytes_cat [x] y
/-- 'string([]byte{x})' -/
theorem conv_one (W : World) (x : Int) (h0 : 0 ≤ x) (h1 : x ≤ 255) :
    (convert 88 9 (.slice (some ⟨W.heap.size, 0, none⟩) 1 1)).run Tryz.prog (W.alloc (.cells #[.int .u8 x] 5)) = .ok (.string ⟨#[UInt8.ofNat x.toNat]⟩) (W.alloc (.cells #[.int .u8 x] 5)) := by
  have h := run_convert_bytes_back (P := Tryz.prog) (W.alloc (.cells #[.int .u8 x] 5)) 88 9 5 ⟨W.heap.size, 0, none⟩ 1 [UInt8.ofNat x.toNat] Tryz.underlying88 Tryz.underlying5 Tryz.underlying9 (fun j hj => by
    have : j = 0 := by simpa using hj
    subst this
    have e : ((UInt8.ofNat x.toNat).toNat : Int) = x := by simp; omega
    simp only [List.getElem_cons_zero, e]
    simp [Addr.add, World.cell?_alloc_new])
  exact h
set_option maxHeartbeats 400000 in
theorem l12Dec_nat (n : Nat) (w : World) (h1 : n ≤ 9223372036854775807) :
    Calls Tryz.prog 28 #[.int .i64 n] w fun e w' => e = .returned (.string ⟨(dg n).toArray⟩) ∧ Below w.heap.size w w' := by
  have g1 : ¬ (n : Int) < -9223372036854775807 := by omega
  have g2 : ¬ (n : Int) < 0 := by omega
  go_enter Tryz.func28, Tryz.ntmps28
  go_wp2
  go_loopw [0, 3] (fun x o wr => ∃ (m : Nat) (l : List UInt8), x = .int .i64 m ∧ o = .string ⟨l.toArray⟩ ∧ m ≤ 9223372036854775807 ∧ Below w.heap.size w wr ∧ Hid (dg n = dg m ++ l)) (fun x _ _ => (intOf x).toNat)
  case atStart => exact ⟨n, [], rfl, rfl, h1, Below.refl _ _, by show _ = _; simp⟩
  case round =>
    obtain ⟨m, l, rfl, rfl, hm, hB, hd⟩ := hrel
    have hl : l.length ≤ 20 := by
      have h1 := congrArg List.length hd.out
      have h2 := dg_len 19 n (by omega)
      simp at h1; omega
    by_cases h9 : (9 : Int) < m
    · have hcv := conv_one wr (48 + (m : Int) % 10) (by omega) (by omega)
      go_wp2
      refine ⟨⟨m / 10, (48 + UInt8.ofNat (m % 10)) :: l, by simp, by rw [bytes_cons], by omega, below_step hB _, ?_⟩, by simp [intOf]; omega⟩
      show _ = _
      rw [hd.out, dg_big (by omega)]; simp
    · have hcv := conv_one wr (48 + (m : Int)) (by omega) (by omega)
      go_wp2
      go_ret
      have e : dg n = (48 + UInt8.ofNat m) :: l := by
        have e := hd.out
        rw [dg_small (n := m) (by omega)] at e
        exact e
      exact ⟨by rw [e, ← bytes_cons]; rfl, below_step hB _⟩
theorem vt_last (a : Nat) (b : Int) (d : Nat) : (⟨(vt a b d).toArray⟩ : ByteArray) ++ (⟨(dg (b / two (a - 1 - d) % 2).toNat).toArray⟩ : ByteArray) = ⟨(vt a b (d + 1)).toArray⟩ := by
  have h0 := Int.emod_nonneg (b / two (a - 1 - d)) (b := 2) (by decide)
  have h1 := Int.emod_lt_of_pos (b / two (a - 1 - d)) (b := 2) (by decide)
  rw [dg_small (by omega), bytes_cat, vt]
  congr 4
  have : b / two (a - 1 - d) % 2 = 0 ∨ b / two (a - 1 - d) % 2 = 1 := by omega
  rcases this with h | h <;> rw [h] <;> rfl
set_option maxHeartbeats 1000000 in
theorem vecText_spec (a b : Int) (w : World) :
    Calls Tryz.prog 26 #[.agg #[.int .i64 a, .int .i64 b]] w fun e w' => e = .returned (.string (vtxt a b)) ∧ Below w.heap.size w w' := by
  cases hv : vokB a b
  · have e : vtxt a b = ⟨#[]⟩ := by simp [vtxt, hv]
    rw [e]; clear e
    go_enter Tryz.func26, Tryz.ntmps26
    go_wp2_with (go_at_call 43; refine (vecOk_spec a b _).mono ?_; rintro e w' ⟨rfl, hb⟩)
    go_ret
    exact ⟨rfl, box2_below hb⟩
  · have t2 : two a.toNat ≤ 16 := vok_two hv
    obtain ⟨h1, h2, h3, h4⟩ := vokB_bd hv
    go_enter Tryz.func26, Tryz.ntmps26
    go_wp2_with fail
    refine (vecOk_spec a b _).mono ?_; rintro e w1 ⟨rfl, hb⟩
    have p := (blk_new w (.int .i64 a) (.int .i64 b) 57).keep hb
    obtain ⟨c0, c1, hz⟩ := p.cells
    go_wp2_with fail
    go_loopw [3, 4] (fun o i wr => ∃ d : Nat, d ≤ a.toNat ∧ i = .int .i64 (a - 1 - d) ∧ o = .string ⟨(vt a.toNat b d).toArray⟩ ∧ Below w1.heap.size w1 wr) (fun _ i _ => (intOf i + 1).toNat)
    case atStart => exact ⟨0, by omega, by simp, rfl, Below.refl _ _⟩
    case round =>
      obtain ⟨d, hd, rfl, rfl, hB⟩ := hrel
      have hlen := vt_len a.toNat b d
      by_cases hge : (0 : Int) ≤ a - 1 - d
      · have q := p.keep hB
        obtain ⟨q0, q1, qz⟩ := q.cells
        have hn : (a - 1 - (d : Int)).toNat = a.toNat - 1 - d := by omega
        have D : ∀ W : World, Calls Tryz.prog 46 #[.int .i64 b, .int .i64 (a - 1 - (d : Int))] W fun e w' => e = .returned (.int .i64 ((b / two (a.toNat - 1 - d) % 2).toNat : Nat)) ∧ W = w' := fun W => by
          have h := l1Bit_any b (a - 1 - (d : Int)) W h3 (by omega) (by omega)
          rw [hn] at h
          have := Int.emod_nonneg (b / two (a.toNat - 1 - d)) (b := 2) (by decide)
          rw [Int.toNat_of_nonneg this]
          exact h
        have D' := Lib.hid D
        clear D hn c0 c1
        have g0 : (b / two (a.toNat - 1 - d) % 2).toNat ≤ 1 := by omega
        have g1 : (dg (b / two (a.toNat - 1 - d) % 2).toNat).length = 1 := by rw [dg_small (by omega)]; rfl
        have V := Lib.hid (vt_last a.toNat b d)
        generalize (b / two (a.toNat - 1 - d) % 2).toNat = x at *
        go_wp2_with fail
        refine (D'.out _).mono ?_; rintro e w2 ⟨rfl, rfl⟩
        go_wp2_with fail
        refine (l12Dec_nat x _ (by omega)).mono ?_; rintro e w3 ⟨rfl, hb3⟩
        go_wp2_with fail
        refine ⟨⟨d + 1, by omega, congrArg (Value.int .i64) (by omega), by rw [V.out], below_two hB hb3⟩, by simp [intOf]; omega⟩
      · have e : vtxt a b = ⟨(vt a.toNat b d).toArray⟩ := by
          have : d = a.toNat := by omega
          simp [vtxt, hv, this]
        have E := Lib.hid e
        clear e
        go_wp2_with fail
        go_ret
        exact ⟨by rw [E.out]; rfl, below_two (box2_below hb) hB⟩
def bv (x : UInt8) : Value := .int .u8 (x.toNat : Int)
theorem info8 : (Tryz.prog.info? 5).map (fun i => (i.zero, i.size, i.bytes)) = some (some (.int .u8 0), 1, 1) := by kernel_rfl
/-- 'string(v)' of a row of bytes that the call owns -/
theorem conv_row {W : World} {base n : Nat} {v : Value} {l : List UInt8} (h : W.ownsRow base 5 1 v n (l.map bv)) (hn : n = l.length) (hne : l ≠ []) :
    (convert 88 9 v).run Tryz.prog W = .ok (.string ⟨l.toArray⟩) W := by
  obtain ⟨h1, h2⟩ := h
  rcases h2 with ⟨_, h2⟩ | ⟨g, cap, cur, rfl, hg, hh, hc, hm, hs, ht⟩
  · exfalso; apply hne; apply List.length_eq_zero_iff.1; omega
  · subst hn
    refine run_convert_bytes_back (P := Tryz.prog) W 88 9 5 ⟨g, 0, none⟩ cap l Tryz.underlying88 Tryz.underlying5 Tryz.underlying9 (fun j hj => ?_)
    have e : cur[j]? = some (bv l[j]) := by
      have : (cur.toList.take (l.length * 1))[j]? = (l.map bv)[j]? := by rw [ht]
      rw [List.getElem?_take_of_lt (by omega)] at this
      simpa [List.getElem?_eq_getElem hj] using this
    rw [show ((⟨g, 0, none⟩ : Addr).add j) = ⟨g, j, none⟩ from by by_cases h : j = 0 <;> simp [Addr.add, h]]
    simp [World.cell?, hh, e, bv]
theorem own_below {w w' : World} {base e size n : Nat} {v : Value} {xs : List Value} (h : w.ownsRow base e size v n xs) (hb : Below w.heap.size w w') : w'.ownsRow base e size v n xs := by
  obtain ⟨h1, h2⟩ := h
  refine ⟨h1, ?_⟩
  rcases h2 with h2 | ⟨g, cap, cur, hv, hg, hh, r⟩
  · exact .inl h2
  · exact .inr ⟨g, cap, cur, hv, hg, by rw [hb.block g (Array.getElem?_eq_some_iff.1 hh).1]; exact hh, r⟩
/-- a row of the call's own, grown from a later world on -/
theorem below_grown {a w w' : World} {row : Option Nat} (h : Below a.heap.size a w) (hg : w.grownBy w' row) (hr : ∀ k, row = some k → a.heap.size ≤ k) : Below a.heap.size a w' := h.grown hg h.size hr
set_option maxRecDepth 100000 in
set_option maxHeartbeats 1000000 in
theorem vecText_impl (a b : Int) (w : World) :
    Calls Tryz.prog 32 #[.agg #[.int .i64 a, .int .i64 b]] w fun e w' => e = .returned (.string (vtxt a b)) ∧ Below w.heap.size w w' := by
  cases hv : vokB a b
  · have e : vtxt a b = ⟨#[]⟩ := by simp [vtxt, hv]
    rw [e]; clear e
    go_enter Tryz.func32, Tryz.ntmps32
    go_wp2_with (go_at_call 52; refine (vecOk_impl a b _).mono ?_; rintro e w' ⟨rfl, hb⟩)
    go_ret
    exact ⟨rfl, box2_below hb⟩
  · have t2 : two a.toNat ≤ 16 := vok_two hv
    obtain ⟨h1, h2, h3, h4⟩ := vokB_bd hv
    obtain ⟨i0, hi, hz0, hz1, hz2⟩ := info_parts info8
    go_enter Tryz.func32, Tryz.ntmps32
    go_wp2_with fail
    refine (vecOk_impl a b _).mono ?_; rintro e w1 ⟨rfl, hb⟩
    have p := (blk_new w (.int .i64 a) (.int .i64 b) 57).keep hb
    obtain ⟨c0, c1, hz⟩ := p.cells
    go_wp2_with fail
    go_loopw [3, 4] (fun o i wr => ∃ d : Nat, d ≤ a.toNat ∧ i = .int .i64 (a - 1 - d) ∧ wr.ownsRow w1.heap.size 5 1 o (d + 1) ((vt a.toNat b d).map bv) ∧ Below w1.heap.size w1 wr) (fun _ i _ => (intOf i + 1).toNat)
    case atStart => exact ⟨0, by omega, by simp, ⟨rfl, .inr ⟨w1.heap.size, 1, #[.int .u8 35], rfl, Nat.le_refl _, heap_alloc_new w1 _, by omega, by decide, rfl, rfl⟩⟩, below_self_alloc _ _⟩
    case round =>
      obtain ⟨d, hd, rfl, hown, hB⟩ := hrel
      by_cases hge : (0 : Int) ≤ a - 1 - d
      · have q := p.keep hB
        obtain ⟨q0, q1, qz⟩ := q.cells
        have hn : (a - 1 - (d : Int)).toNat = a.toNat - 1 - d := by omega
        have hB2 := hB.size
        clear c0 c1
        by_cases hbit : b / two (a.toNat - 1 - d) % 2 = 1
        · have D : ∀ W : World, Calls Tryz.prog 54 #[.int .u64 b, .int .i64 (a - 1 - (d : Int))] W fun e w' => e = .returned (.bool true) ∧ W = w' := fun W => by
            have h := bit_any b (a - 1 - (d : Int)) W h3 (by omega) (by omega) (by omega)
            rw [hn, decide_eq_true hbit] at h
            exact h
          have D' := Lib.hid D
          have V : Hid ((vt a.toNat b (d + 1)).map bv = (vt a.toNat b d).map bv ++ [.int .u8 49]) := by
            show _ = _
            simp only [vt, List.map_append, if_pos hbit]; rfl
          clear D hn hbit
          go_wp2_with fail
          refine (raw_any a b _ (by omega) (by omega)).mono ?_; rintro e w2 ⟨rfl, hb2⟩
          have hown2 := own_below hown hb2
          go_wp2_with fail
          refine (D'.out _).mono ?_; rintro e w3 ⟨rfl, rfl⟩
          have hb2z := hb2.size
          go_wp2_with (at_builtin; refine wpList_append_own _ rfl _ _ 88 rfl w1.heap.size 5 i0 (.int .u8 0) 1 1 Tryz.underlying88 hi hz0 hz1 hz2 rfl (by decide) _ _ _ rfl (hown2.alloc _) ⟨w2.heap.size, 0, none⟩ 1 1 [.int .u8 49] rfl rfl (cell_one_new _ _ _) (fun x hx => by simp at hx; subst hx; rfl) (by unfold maxLen; omega) (by omega) (by simp; omega) ?_; intro v' w3 hown' hgrow3 hnil3)
          refine ⟨⟨d + 1, by omega, congrArg (Value.int .i64) (by omega), by rw [V.out]; exact hown', below_grown (below_step (below_two hB hb2) _) hgrow3 (fun q hq => (hown.lt q hq).1)⟩, by simp [intOf]; omega⟩
        · have D : ∀ W : World, Calls Tryz.prog 54 #[.int .u64 b, .int .i64 (a - 1 - (d : Int))] W fun e w' => e = .returned (.bool false) ∧ W = w' := fun W => by
            have h := bit_any b (a - 1 - (d : Int)) W h3 (by omega) (by omega) (by omega)
            rw [hn, decide_eq_false hbit] at h
            exact h
          have D' := Lib.hid D
          have V : Hid ((vt a.toNat b (d + 1)).map bv = (vt a.toNat b d).map bv ++ [.int .u8 48]) := by
            show _ = _
            simp only [vt, List.map_append, if_neg hbit]; rfl
          clear D hn hbit
          go_wp2_with fail
          refine (raw_any a b _ (by omega) (by omega)).mono ?_; rintro e w2 ⟨rfl, hb2⟩
          have hown2 := own_below hown hb2
          go_wp2_with fail
          refine (D'.out _).mono ?_; rintro e w3 ⟨rfl, rfl⟩
          have hb2z := hb2.size
          go_wp2_with (at_builtin; refine wpList_append_own _ rfl _ _ 88 rfl w1.heap.size 5 i0 (.int .u8 0) 1 1 Tryz.underlying88 hi hz0 hz1 hz2 rfl (by decide) _ _ _ rfl (hown2.alloc _) ⟨w2.heap.size, 0, none⟩ 1 1 [.int .u8 48] rfl rfl (cell_one_new _ _ _) (fun x hx => by simp at hx; subst hx; rfl) (by unfold maxLen; omega) (by omega) (by simp; omega) ?_; intro v' w3 hown' hgrow3 hnil3)
          refine ⟨⟨d + 1, by omega, congrArg (Value.int .i64) (by omega), by rw [V.out]; exact hown', below_grown (below_step (below_two hB hb2) _) hgrow3 (fun q hq => (hown.lt q hq).1)⟩, by simp [intOf]; omega⟩
      · have hlen := vt_len a.toNat b d
        have hcv := conv_row (l := vt a.toNat b d) hown (by omega) (by intro h; rw [h] at hlen; simp at hlen)
        have e : vtxt a b = ⟨(vt a.toNat b d).toArray⟩ := by
          have : d = a.toNat := by omega
          simp [vtxt, hv, this]
        have E := Lib.hid e
        clear e hlen
        go_wp2_with fail
        go_ret
        exact ⟨by rw [E.out]; rfl, below_two (box2_below hb) hB⟩
theorem vtxt_eq (a b : Int) : vtxt a b = ⟨(vtxL a b).toArray⟩ := by unfold vtxt vtxL; split <;> rfl
end Go.Proofs.YtfkanemjedndgaaGreatDoor
