/- What VecUn, VecCut, VecCmp and eqVec come to. The conditions stand in each statement. -/
import Derived.Test.YtpnpjdebmakamaaVc
namespace Go.Proofs.Ytpnpjdebmakamaa
open Go.RowKit

set_option maxHeartbeats 1000000 in
theorem eqVec_any (a b c d : Int) (w : World) :
    Calls Try.prog 26 #[.agg #[.int .i64 a, .int .i64 b], .agg #[.int .i64 c, .int .i64 d]] w fun e w' => e = .returned (.bool (decide (a = c ∧ b = d))) ∧ Below w.heap.size w w' := by
  by_cases h1 : a = c
  · by_cases h2 : b = d
    · subst h1 h2
      go_enter Try.func26, Try.ntmps26
      go_wp2
      go_ret
      exact ⟨ret_bool (by simp), below_step (below_step (Below.refl _ _) _) _⟩
    · subst h1
      have e : decide (a = a ∧ b = d) = false := by simp [h2]
      have h2' : (b != d) = true := by simpa using h2
      rw [e]
      clear e h2
      go_enter Try.func26, Try.ntmps26
      go_wp2
      go_ret
      exact ⟨rfl, below_step (below_step (Below.refl _ _) _) _⟩
  · have e : decide (a = c ∧ b = d) = false := by simp [h1]
    have h1' : (a != c) = true := by simpa using h1
    rw [e]
    clear e h1
    go_enter Try.func26, Try.ntmps26
    go_wp2
    go_ret
    exact ⟨rfl, below_step (below_step (Below.refl _ _) _) _⟩

theorem vok_two {a b : Int} (hv : vokB a b = true) : two a.toNat ≤ 16 := by
  obtain ⟨h1, h2, h3, h4⟩ := vokB_bd hv
  exact two_le (m := a.toNat) (n := 4) (by omega)
theorem not_law {b : Int} (h0 : 0 ≤ b) (h1 : b ≤ 1000000) : bits BinOp.xor IntKind.u64 (if IntKind.u64.signed = true then -1 else IntKind.u64.max) b = 18446744073709551615 - b := by
  obtain ⟨n, rfl⟩ := Int.eq_ofNat_of_zero_le h0
  have hs : (if IntKind.u64.signed = true then (-1 : Int) else IntKind.u64.max) = ((18446744073709551615 : Nat) : Int) := by decide
  rw [hs, u64_xor_nat _ _ (by omega) (by omega)]
  have e : (18446744073709551615 ^^^ n) = 18446744073709551615 - n := by
    have h := BitVec.toNat_not (x := BitVec.ofNat 64 n)
    rw [← BitVec.allOnes_xor, BitVec.toNat_xor, BitVec.toNat_allOnes, BitVec.toNat_ofNat, Nat.mod_eq_of_lt (by omega)] at h
    exact h
  rw [e]; omega
theorem not_mod {b : Int} {n : Nat} (hn : n ≤ 4) (h0 : 0 ≤ b) (h1 : b < two n) : (18446744073709551615 - b) % two n = two n - 1 - b := by
  have : n = 0 ∨ n = 1 ∨ n = 2 ∨ n = 3 ∨ n = 4 := by omega
  rcases this with rfl | rfl | rfl | rfl | rfl <;> simp [two] at * <;> omega
theorem neg_mod {b : Int} {n : Nat} (hn : n ≤ 4) : IntKind.u64.wrap (-b) % two n = (-b) % two n := by
  rw [IntKind.wrap_u64]
  have : n = 0 ∨ n = 1 ∨ n = 2 ∨ n = 3 ∨ n = 4 := by omega
  rcases this with rfl | rfl | rfl | rfl | rfl <;> simp [two] <;> omega
theorem tmod_law (n m : Int) (hm : 1 ≤ m) : (n.tmod m < 0 → n.tmod m + m = n % m) ∧ (¬ n.tmod m < 0 → n.tmod m = n % m) ∧ -m < n.tmod m ∧ n.tmod m < m := by
  have h := Int.emod_nonneg n (b := m) (by omega)
  have h' := Int.emod_lt_of_pos n (b := m) (by omega)
  by_cases hn : 0 ≤ n
  · rw [Int.tmod_eq_emod_of_nonneg hn]
    refine ⟨by omega, by omega, by omega, by omega⟩
  · have e : n.tmod m = -((-n) % m) := by
      rw [← Int.tmod_eq_emod_of_nonneg (by omega : 0 ≤ -n), Int.neg_tmod]; omega
    have g := Int.emod_nonneg (-n) (b := m) (by omega)
    have g' := Int.emod_lt_of_pos (-n) (b := m) (by omega)
    rw [e]
    have d1 := Int.emod_add_mul_ediv n m
    have d2 := Int.emod_add_mul_ediv (-n) m
    have key : (-n) % m = 0 ∧ n % m = 0 ∨ (-n) % m + n % m = m := by
      by_cases hz : n % m = 0
      · left
        refine ⟨?_, hz⟩
        exact Int.emod_eq_zero_of_dvd ((Int.dvd_neg).2 (Int.dvd_of_emod_eq_zero hz))
      · right
        have : (-n) % m = m - n % m := by
          have := @Int.neg_emod n m
          rw [if_neg (fun hd => hz (Int.emod_eq_zero_of_dvd hd))] at this
          omega
        omega
    refine ⟨by omega, by omega, by omega, by omega⟩
/-! ### VecUn -/
def unB (op a b : Int) : Bool := vokB a b && (decide (op = 1) || decide (op = 2))
def unW (op a b : Int) : Int := if unB op a b = true then a else 0
def unN (op a b : Int) : Int := if unB op a b = true then (if op = 1 then two a.toNat - 1 - b else (-b) % two a.toNat) else 0

set_option maxHeartbeats 1000000 in
theorem vecUn_impl (op a b : Int) (w : World) :
    Calls Try.prog 34 #[.int .i64 op, .agg #[.int .i64 a, .int .i64 b]] w fun e w' => e = .returned (.tuple #[.agg #[.int .i64 (unW op a b), .int .i64 (unN op a b)], .bool (unB op a b)]) ∧ Below w.heap.size w w' := by
  cases hv : vokB a b
  · have e1 : unB op a b = false := by simp [unB, hv]
    have e2 : unW op a b = 0 := by simp [unW, e1]
    have e3 : unN op a b = 0 := by simp [unN, e1]
    rw [e1, e2, e3]; clear e1 e2 e3
    go_enter Try.func34, Try.ntmps34
    go_wp2_with fail
    refine (vecOk_impl a b _).mono ?_; rintro e w1 ⟨rfl, hb⟩
    have q := (blk_new1 w (.cells #[.int .i64 a, .int .i64 b] 26) (.int .i64 0) (.int .i64 0) 26).keep hb
    obtain ⟨q0, q1, qz⟩ := q.cells
    obtain ⟨f0, f1⟩ := q.frozen
    go_wp2_with fail
    exact bodyPost_ret (v := .tuple #[.agg #[.int .i64 0, .int .i64 0], .bool false]) (by simp [results, Try.results34, go_sem, q0, q1]) rfl
      ⟨rfl, below_set2 (below_res hb) (by simp) _ _⟩
  · have t2 : two a.toNat ≤ 16 := vok_two hv
    obtain ⟨h1, h2, h3, h4⟩ := vokB_bd hv
    by_cases ho : op = 1
    · subst ho
      have e1 : unB 1 a b = true := by simp [unB, hv]
      have e2 : unW 1 a b = a := by simp [unW, e1]
      have e3 : unN 1 a b = two a.toNat - 1 - b := by simp [unN, e1]
      rw [e1, e2, e3]; clear e1 e2 e3
      have V : ∀ W : World, Calls Try.prog 57 #[.agg #[.int .i64 a, .int .i64 b], .int .u64 (bits BinOp.xor IntKind.u64 (if IntKind.u64.signed = true then -1 else IntKind.u64.max) b)] W fun e w' => e = .returned (.agg #[.int .i64 a, .int .i64 (two a.toNat - 1 - b)]) ∧ Below W.heap.size W w' := fun W => by
        rw [not_law h3 (by omega), ← not_mod (b := b) (n := a.toNat) (by omega) h3 h4]
        exact vec_any a b _ W (by omega) (by omega) h1 h2
      have V' := Lib.hid V
      clear V
      go_enter Try.func34, Try.ntmps34
      go_wp2_with fail
      refine (vecOk_impl a b _).mono ?_; rintro e w1 ⟨rfl, hb⟩
      have p1 := ((blk_new w (.int .i64 a) (.int .i64 b) 26).alloc _).keep hb
      have r1 := (blk_new1 w (.cells #[.int .i64 a, .int .i64 b] 26) (.int .i64 0) (.int .i64 0) 26).keep hb
      obtain ⟨c0, c1, hz⟩ := p1.cells
      go_wp2_with fail
      go_region_held3 (fun wx => wx.cell? ⟨w.heap.size, 0, none⟩ = some (.int .i64 a) ∧ wx.cell? ⟨w.heap.size, 1, none⟩ = some (.int .i64 b) ∧ w.heap.size < wx.heap.size) (first | (with_reducible exact keep2 hb3 (by assumption)) | (with_reducible exact keep2 hb2 (by assumption)) | go_keep)
        (first | (go_at_call 51; refine (raw_any a b _ (by omega) (by omega)).mono ?_; rintro e w2 ⟨rfl, hb2⟩; have r2 := r1.drew.keep hb2)
               | (go_at_call 57; refine (V'.out _).mono ?_; rintro e w3 ⟨rfl, hb3⟩; have r3 := r2.keep hb3; obtain ⟨q0, q1, qz⟩ := r3.cells; obtain ⟨f0, f1⟩ := r3.frozen))
      go_wp2
      exact bodyPost_ret (v := .tuple #[.agg #[.int .i64 a, .int .i64 (two a.toNat - 1 - b)], .bool true]) (by simp [results, Try.results34, go_sem, q0, q1]) rfl
        ⟨rfl, below_set2 (below_two (below_two (below_res hb).drew hb2) hb3) (by simp) _ _⟩
    · by_cases ho2 : op = 2
      · subst ho2
        have e1 : unB 2 a b = true := by simp [unB, hv]
        have e2 : unW 2 a b = a := by simp [unW, e1]
        have e3 : unN 2 a b = (-b) % two a.toNat := by simp [unN, e1]
        rw [e1, e2, e3]; clear e1 e2 e3
        have V : ∀ W : World, Calls Try.prog 57 #[.agg #[.int .i64 a, .int .i64 b], .int .u64 (IntKind.u64.wrap (-b))] W fun e w' => e = .returned (.agg #[.int .i64 a, .int .i64 ((-b) % two a.toNat)]) ∧ Below W.heap.size W w' := fun W => by
          rw [← neg_mod (b := b) (n := a.toNat) (by omega)]
          exact vec_any a b _ W (by rw [IntKind.wrap_u64]; omega) (by rw [IntKind.wrap_u64]; omega) h1 h2
        have V' := Lib.hid V
        clear V
        go_enter Try.func34, Try.ntmps34
        go_wp2_with fail
        refine (vecOk_impl a b _).mono ?_; rintro e w1 ⟨rfl, hb⟩
        have p1 := ((blk_new w (.int .i64 a) (.int .i64 b) 26).alloc _).keep hb
        have r1 := (blk_new1 w (.cells #[.int .i64 a, .int .i64 b] 26) (.int .i64 0) (.int .i64 0) 26).keep hb
        obtain ⟨c0, c1, hz⟩ := p1.cells
        go_wp2_with fail
        go_region_held3 (fun wx => wx.cell? ⟨w.heap.size, 0, none⟩ = some (.int .i64 a) ∧ wx.cell? ⟨w.heap.size, 1, none⟩ = some (.int .i64 b) ∧ w.heap.size < wx.heap.size) (first | (with_reducible exact keep2 hb3 (by assumption)) | (with_reducible exact keep2 hb2 (by assumption)) | go_keep)
          (first | (go_at_call 51; refine (raw_any a b _ (by omega) (by omega)).mono ?_; rintro e w2 ⟨rfl, hb2⟩; have r2 := r1.drew.keep hb2)
                 | (go_at_call 57; refine (V'.out _).mono ?_; rintro e w3 ⟨rfl, hb3⟩; have r3 := r2.keep hb3; obtain ⟨q0, q1, qz⟩ := r3.cells; obtain ⟨f0, f1⟩ := r3.frozen))
        go_wp2
        exact bodyPost_ret (v := .tuple #[.agg #[.int .i64 a, .int .i64 ((-b) % two a.toNat)], .bool true]) (by simp [results, Try.results34, go_sem, q0, q1]) rfl
          ⟨rfl, below_set2 (below_two (below_two (below_res hb).drew hb2) hb3) (by simp) _ _⟩
      · have e1 : unB op a b = false := by simp [unB, hv, ho, ho2]
        have e2 : unW op a b = 0 := by simp [unW, e1]
        have e3 : unN op a b = 0 := by simp [unN, e1]
        rw [e1, e2, e3]; clear e1 e2 e3
        have ho' : (op == 1) = false := by simpa using ho
        have ho2' : (op == 2) = false := by simpa using ho2
        clear ho ho2
        go_enter Try.func34, Try.ntmps34
        go_wp2_with fail
        refine (vecOk_impl a b _).mono ?_; rintro e w1 ⟨rfl, hb⟩
        have q := (blk_new1 w (.cells #[.int .i64 a, .int .i64 b] 26) (.int .i64 0) (.int .i64 0) 26).keep hb
        obtain ⟨q0, q1, qz⟩ := q.cells
        obtain ⟨f0, f1⟩ := q.frozen
        go_wp2_with fail
        exact bodyPost_ret (v := .tuple #[.agg #[.int .i64 0, .int .i64 0], .bool false]) (by simp [results, Try.results34, go_sem, q0, q1]) rfl
          ⟨rfl, below_set2 (below_res hb) (by simp) _ _⟩

set_option maxHeartbeats 400000 in
theorem l1Mod_any (n k : Int) (w : World) (_h0 : -1000000 ≤ n) (_h1 : n ≤ 1000000) (h3 : k ≤ 4) :
    Calls Try.prog 56 #[.int .i64 n, .int .i64 k] w fun e w' => e = .returned (.int .i64 (n % two k.toNat)) ∧ w = w' := by
  have t1 := two_pos k.toNat
  have t2 : two k.toNat ≤ 16 := two_le (m := k.toNat) (n := 4) (by omega)
  have m1 := tmod_law n (two k.toNat) t1
  by_cases hneg : n.tmod (two k.toNat) < 0
  · have E := Lib.hid (m1.1 hneg)
    have b1 : -two k.toNat < n.tmod (two k.toNat) := m1.2.2.1
    have b2 : n.tmod (two k.toNat) < two k.toNat := m1.2.2.2
    clear m1
    go_enter Try.func56, Try.ntmps56
    go_wp2_with (go_at_call 49; refine (l1Two_any k _ (by omega)).mono ?_; rintro e w1 ⟨rfl, rfl⟩)
    go_ret
    exact ⟨ret_int E.out, rfl⟩
  · have E := Lib.hid (m1.2.1 hneg)
    clear m1
    go_enter Try.func56, Try.ntmps56
    go_wp2_with (go_at_call 49; refine (l1Two_any k _ (by omega)).mono ?_; rintro e w1 ⟨rfl, rfl⟩)
    go_ret
    exact ⟨ret_int E.out, rfl⟩

set_option maxHeartbeats 1000000 in
theorem vecUn_spec (op a b : Int) (w : World) :
    Calls Try.prog 33 #[.int .i64 op, .agg #[.int .i64 a, .int .i64 b]] w fun e w' => e = .returned (.tuple #[.agg #[.int .i64 (unW op a b), .int .i64 (unN op a b)], .bool (unB op a b)]) ∧ Below w.heap.size w w' := by
  cases hv : vokB a b
  · have e1 : unB op a b = false := by simp [unB, hv]
    have e2 : unW op a b = 0 := by simp [unW, e1]
    have e3 : unN op a b = 0 := by simp [unN, e1]
    rw [e1, e2, e3]; clear e1 e2 e3
    go_enter Try.func33, Try.ntmps33
    go_wp2_with fail
    refine (vecOk_spec a b _).mono ?_; rintro e w1 ⟨rfl, hb⟩
    have q := (blk_new1 w (.cells #[.int .i64 a, .int .i64 b] 26) (.int .i64 0) (.int .i64 0) 26).keep hb
    obtain ⟨q0, q1, qz⟩ := q.cells
    obtain ⟨f0, f1⟩ := q.frozen
    go_wp2_with fail
    exact bodyPost_ret (v := .tuple #[.agg #[.int .i64 0, .int .i64 0], .bool false]) (by simp [results, Try.results33, go_sem, q0, q1]) rfl
      ⟨rfl, below_set2 (below_res hb) (by simp) _ _⟩
  · have t2 : two a.toNat ≤ 16 := vok_two hv
    have t1 := two_pos a.toNat
    obtain ⟨h1, h2, h3, h4⟩ := vokB_bd hv
    by_cases ho : op = 1
    · subst ho
      have e1 : unB 1 a b = true := by simp [unB, hv]
      have e2 : unW 1 a b = a := by simp [unW, e1]
      have e3 : unN 1 a b = two a.toNat - 1 - b := by simp [unN, e1]
      rw [e1, e2, e3]; clear e1 e2 e3
      have E1 := Lib.hid (IntWalk.i64_in (two a.toNat - 1) (by omega))
      have E2 := Lib.hid (IntWalk.i64_in (two a.toNat - 1 - b) (by omega))
      go_enter Try.func33, Try.ntmps33
      go_wp2_with fail
      refine (vecOk_spec a b _).mono ?_; rintro e w1 ⟨rfl, hb⟩
      have p1 := ((blk_new w (.int .i64 a) (.int .i64 b) 26).alloc _).keep hb
      have r1 := (blk_new1 w (.cells #[.int .i64 a, .int .i64 b] 26) (.int .i64 0) (.int .i64 0) 26).keep hb
      obtain ⟨c0, c1, hz⟩ := p1.cells
      obtain ⟨q0, q1, qz⟩ := r1.cells
      obtain ⟨f0, f1⟩ := r1.frozen
      go_wp2_with fail
      go_region_held3 (fun wx => wx.cell? ⟨w.heap.size, 0, none⟩ = some (.int .i64 a) ∧ wx.cell? ⟨w.heap.size, 1, none⟩ = some (.int .i64 b) ∧ w.heap.size < wx.heap.size) (first | go_keep)
        (first | (go_at_call 49; refine (l1Two_any a _ (by omega)).mono ?_; rintro e w2 ⟨rfl, rfl⟩))
      go_wp2
      rw [E1.out, E2.out]
      exact bodyPost_ret (v := .tuple #[.agg #[.int .i64 a, .int .i64 (two a.toNat - 1 - b)], .bool true]) (by simp [results, Try.results33, go_sem, q0, q1]) rfl
        ⟨rfl, by first | exact below_set2 (below_res hb).drew (by simp) _ _ | exact (below_set2 (below_res hb) (by simp) _ _).drew⟩
    · by_cases ho2 : op = 2
      · subst ho2
        have e1 : unB 2 a b = true := by simp [unB, hv]
        have e2 : unW 2 a b = a := by simp [unW, e1]
        have e3 : unN 2 a b = (-b) % two a.toNat := by simp [unN, e1]
        rw [e1, e2, e3]; clear e1 e2 e3
        have ew : IntKind.i64.wrap (-b) = -b := IntWalk.i64_in _ (by omega)
        have M : ∀ W : World, Calls Try.prog 56 #[.int .i64 (IntKind.i64.wrap (-b)), .int .i64 a] W fun e w' => e = .returned (.int .i64 ((-b) % two a.toNat)) ∧ W = w' := fun W => by
          rw [ew]; exact l1Mod_any (-b) a W (by omega) (by omega) h2
        have M' := Lib.hid M
        clear M ew
        go_enter Try.func33, Try.ntmps33
        go_wp2_with fail
        refine (vecOk_spec a b _).mono ?_; rintro e w1 ⟨rfl, hb⟩
        have p1 := ((blk_new w (.int .i64 a) (.int .i64 b) 26).alloc _).keep hb
        have r1 := (blk_new1 w (.cells #[.int .i64 a, .int .i64 b] 26) (.int .i64 0) (.int .i64 0) 26).keep hb
        obtain ⟨c0, c1, hz⟩ := p1.cells
        obtain ⟨q0, q1, qz⟩ := r1.cells
        obtain ⟨f0, f1⟩ := r1.frozen
        go_wp2_with fail
        go_region_held3 (fun wx => wx.cell? ⟨w.heap.size, 0, none⟩ = some (.int .i64 a) ∧ wx.cell? ⟨w.heap.size, 1, none⟩ = some (.int .i64 b) ∧ w.heap.size < wx.heap.size) (first | go_keep)
          (first | (go_at_call 56; refine (M'.out _).mono ?_; rintro e w2 ⟨rfl, rfl⟩))
        go_wp2
        exact bodyPost_ret (v := .tuple #[.agg #[.int .i64 a, .int .i64 ((-b) % two a.toNat)], .bool true]) (by simp [results, Try.results33, go_sem, q0, q1]) rfl
          ⟨rfl, by first | exact below_set2 (below_res hb).drew (by simp) _ _ | exact (below_set2 (below_res hb) (by simp) _ _).drew⟩
      · have e1 : unB op a b = false := by simp [unB, hv, ho, ho2]
        have e2 : unW op a b = 0 := by simp [unW, e1]
        have e3 : unN op a b = 0 := by simp [unN, e1]
        rw [e1, e2, e3]; clear e1 e2 e3
        have ho' : (op == 1) = false := by simpa using ho
        have ho2' : (op == 2) = false := by simpa using ho2
        clear ho ho2
        go_enter Try.func33, Try.ntmps33
        go_wp2_with fail
        refine (vecOk_spec a b _).mono ?_; rintro e w1 ⟨rfl, hb⟩
        have q := (blk_new1 w (.cells #[.int .i64 a, .int .i64 b] 26) (.int .i64 0) (.int .i64 0) 26).keep hb
        obtain ⟨q0, q1, qz⟩ := q.cells
        obtain ⟨f0, f1⟩ := q.frozen
        go_wp2_with fail
        exact bodyPost_ret (v := .tuple #[.agg #[.int .i64 0, .int .i64 0], .bool false]) (by simp [results, Try.results33, go_sem, q0, q1]) rfl
          ⟨rfl, below_set2 (below_res hb) (by simp) _ _⟩
end Go.Proofs.Ytpnpjdebmakamaa
