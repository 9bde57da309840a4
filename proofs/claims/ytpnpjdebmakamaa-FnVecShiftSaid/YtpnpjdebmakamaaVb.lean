import Derived.Test.YtpnpjdebmakamaaVa
import Derived.Deep.RegionHeld3
import Derived.Laws.BitsAllLaws
import Derived.Laws.BitsLemmas
namespace Go.Proofs.Ytpnpjdebmakamaa
open Go.RowKit

theorem ret_int {k : IntKind} {a b : Int} (h : a = b) : Ending.returned (.int k a) = .returned (.int k b) := by rw [h]
theorem ret_bool {a b : Bool} (h : a = b) : Ending.returned (.bool a) = .returned (.bool b) := by rw [h]

theorem bit_law (n : Int) (h0 : 0 ≤ n) (h1 : n < 18446744073709551616) : (bits BinOp.and IntKind.u64 n 1 == 1) = decide (n % 2 = 1) := by
  rw [u64_and n 1 h0 h1 (by decide) (by decide)]
  have : (1 : Int).toNat = 1 := rfl
  rw [this, nat_mask1]
  rw [Bool.eq_iff_iff]; simp; omega
theorem two_eq (n : Nat) : (2 : Int) ^ n = two n := by unfold two; simp
theorem cut_law (n : Int) (k : Nat) (h0 : 0 ≤ n) (h1 : n < 18446744073709551616) (hk : k ≤ 60) :
    bits BinOp.and IntKind.u64 n (IntKind.u64.wrap (IntKind.u64.wrap (2 ^ k) - 1)) = n % two k := by
  have t1 := two_pos k
  have t2 : two k ≤ 1152921504606846976 := two_le hk
  rw [two_eq, IntKind.wrap_u64, IntKind.wrap_u64, Int.emod_eq_of_lt (by omega) (by omega), Int.emod_eq_of_lt (by omega) (by omega)]
  rw [u64_and n _ h0 h1 (by omega) (by omega)]
  have e : (two k - 1).toNat = 2 ^ k - 1 := by unfold two; omega
  rw [e, Nat.and_two_pow_sub_one_eq_mod]
  unfold two
  rw [Int.natCast_emod]
  congr 1
  omega

set_option maxHeartbeats 400000 in
theorem bit_any (n k : Int) (w : World) (h0 : 0 ≤ n) (h1 : n ≤ 9223372036854775807) (h2 : 0 ≤ k) (h3 : k ≤ 3) :
    Calls Try.prog 52 #[.int .u64 n, .int .i64 k] w fun e w' => e = .returned (.bool (decide (n / two k.toNat % 2 = 1))) ∧ w = w' := by
  have e : (bits BinOp.and IntKind.u64 (n / 2 ^ k.toNat) 1 == 1) = decide (n / two k.toNat % 2 = 1) := by
    rw [two_eq, bit_law]
    · exact Int.ediv_nonneg h0 (by have := two_pos k.toNat; omega)
    · have := Int.ediv_le_self (two k.toNat) h0; omega
  have E := Lib.hid e
  clear e
  go_enter Try.func52, Try.ntmps52
  go_wp2
  go_ret
  exact ⟨ret_bool E.out, rfl⟩

set_option maxHeartbeats 400000 in
theorem cut_any (n k : Int) (w : World) (h0 : 0 ≤ n) (h1 : n ≤ 18446744073709551615) (h2 : 1 ≤ k) (h3 : k ≤ 4) :
    Calls Try.prog 53 #[.int .u64 n, .int .i64 k] w fun e w' => e = .returned (.int .u64 (n % two k.toNat)) ∧ w = w' := by
  have E := Lib.hid (cut_law n k.toNat h0 (by omega) (by omega))
  go_enter Try.func53, Try.ntmps53
  go_wp2
  go_ret
  exact ⟨ret_int E.out, rfl⟩

theorem ones_law (k : Nat) (hk : k ≤ 60) : IntKind.u64.wrap (IntKind.u64.wrap (2 ^ k) - 1) = two k - 1 := by
  have t1 := two_pos k
  have t2 : two k ≤ 1152921504606846976 := two_le hk
  rw [two_eq, IntKind.wrap_u64, IntKind.wrap_u64, Int.emod_eq_of_lt (by omega) (by omega), Int.emod_eq_of_lt (by omega) (by omega)]

set_option maxHeartbeats 400000 in
theorem ones_any (a b : Int) (w : World) (h2 : 1 ≤ a) (h3 : a ≤ 4) :
    Calls Try.prog 75 #[.agg #[.int .i64 a, .int .i64 b]] w fun e w' => e = .returned (.int .u64 (two a.toNat - 1)) ∧ Below w.heap.size w w' := by
  have E := Lib.hid (ones_law a.toNat (by omega))
  go_enter Try.func75, Try.ntmps75
  go_wp2
  go_ret
  exact ⟨ret_int E.out, below_self_alloc _ _⟩

theorem wrap_small {n : Int} (h0 : 0 ≤ n) (h1 : n ≤ 1000000) : IntKind.i64.wrap n = n := IntWalk.i64_in _ (by omega)

set_option maxHeartbeats 400000 in
theorem vec_any (a b n : Int) (w : World) (h0 : 0 ≤ n) (h1 : n ≤ 18446744073709551615) (h2 : 1 ≤ a) (h3 : a ≤ 4) :
    Calls Try.prog 57 #[.agg #[.int .i64 a, .int .i64 b], .int .u64 n] w fun e w' => e = .returned (.agg #[.int .i64 a, .int .i64 (n % two a.toNat)]) ∧ Below w.heap.size w w' := by
  have g1 : 0 ≤ n % two a.toNat := Int.emod_nonneg _ (by have := two_pos a.toNat; omega)
  have g2 : n % two a.toNat ≤ 16 := by
    have := Int.emod_lt_of_pos n (b := two a.toNat) (by have := two_pos a.toNat; omega)
    have : two a.toNat ≤ 16 := two_le (m := a.toNat) (n := 4) (by omega)
    omega
  have E := Lib.hid (wrap_small g1 (by omega))
  go_enter Try.func57, Try.ntmps57
  go_wp2
  go_region_held3 (fun wx => wx.cell? ⟨w.heap.size, 0, none⟩ = some (.int .i64 a) ∧ wx.cell? ⟨w.heap.size, 1, none⟩ = some (.int .i64 b)) (go_keep)
    (first | (go_at_call 53; refine (cut_any n a _ h0 h1 h2 h3).mono ?_; rintro e w' ⟨rfl, rfl⟩))
  go_wp2
  rw [E.out]
  exact bodyPost_ret (v := .agg #[.int .i64 a, .int .i64 (n % two a.toNat)]) (by simp [results, Try.results57, go_sem]) rfl ⟨rfl, (below_step (below_step (Below.refl _ _) _) _).drew⟩

/-- a struct of two fields in a new block, behind a call that leaves what was there -/
theorem box2 {w w1 : World} {x y : Value} {t : TypeId} (hb : Below (w.alloc (.cells #[x, y] t)).heap.size (w.alloc (.cells #[x, y] t)) w1) :
    w1.cell? ⟨w.heap.size, 0, none⟩ = some x ∧ w1.cell? ⟨w.heap.size, 1, none⟩ = some y ∧ w.heap.size < w1.heap.size := by
  refine ⟨?_, ?_, ?_⟩
  · rw [hb.cell (by simp)]; simp [World.cell?_alloc_new]
  · rw [hb.cell (by simp)]; simp [World.cell?_alloc_new]
  · have := hb.size; simp at this; omega
theorem box2_below {w w1 : World} {o : Obj} (hb : Below (w.alloc o).heap.size (w.alloc o) w1) : Below w.heap.size w w1 :=
  (below_self_alloc _ _).trans (hb.mono (by simp))
theorem below_two {a w w1 : World} (h : Below a.heap.size a w) (hb : Below w.heap.size w w1) : Below a.heap.size a w1 := h.trans (hb.mono h.size)

/-- a struct of two fields in block g: kept over a call that leaves what was there -/
theorem keep2 {g : Nat} {x y : Value} {W W2 : World} (hb : Below W.heap.size W W2) (h : W.cell? ⟨g, 0, none⟩ = some x ∧ W.cell? ⟨g, 1, none⟩ = some y ∧ g < W.heap.size) :
    W2.cell? ⟨g, 0, none⟩ = some x ∧ W2.cell? ⟨g, 1, none⟩ = some y ∧ g < W2.heap.size :=
  ⟨(hb.cell (p := ⟨g, 0, none⟩) h.2.2).trans h.1, (hb.cell (p := ⟨g, 1, none⟩) h.2.2).trans h.2.1, Nat.lt_of_lt_of_le h.2.2 hb.size⟩
theorem vokB_bd {a b : Int} (h : vokB a b = true) : 1 ≤ a ∧ a ≤ 4 ∧ 0 ≤ b ∧ b < two a.toNat := by
  simpa only [vokB, decide_eq_true_eq] using h

/-! ### a block of two cells, as a whole -/
def Blk (w : World) (g : Nat) (x y : Value) (t : TypeId) : Prop := w.heap[g]? = some (.cells #[x, y] t (0, 0))
theorem Blk.lt {w : World} {g : Nat} {x y : Value} {t : TypeId} (h : Blk w g x y t) : g < w.heap.size := by
  unfold Blk at h; exact (Array.getElem?_eq_some_iff.1 h).1
theorem Blk.cells {w : World} {g : Nat} {x y : Value} {t : TypeId} (h : Blk w g x y t) :
    w.cell? ⟨g, 0, none⟩ = some x ∧ w.cell? ⟨g, 1, none⟩ = some y ∧ g < w.heap.size := by
  have := h.lt; unfold Blk at h
  exact ⟨by simp [World.cell?, h], by simp [World.cell?, h], this⟩
theorem Blk.frozen {w : World} {g : Nat} {x y : Value} {t : TypeId} (h : Blk w g x y t) :
    w.frozen? ⟨g, 0, none⟩ = false ∧ w.frozen? ⟨g, 1, none⟩ = false := by
  unfold Blk at h
  exact ⟨by simp [World.frozen?, h], by simp [World.frozen?, h]⟩
theorem Blk.keep {w w1 : World} {g : Nat} {x y : Value} {t : TypeId} (h : Blk w g x y t) (hb : Below w.heap.size w w1) : Blk w1 g x y t := by
  have := h.lt; unfold Blk at *; rw [hb.block _ this]; exact h
theorem blk_new (w : World) (x y : Value) (t : TypeId) : Blk (w.alloc (.cells #[x, y] t)) w.heap.size x y t := by
  show (w.heap.push _)[w.heap.size]? = _
  simp
theorem blk_new1 (w : World) (o : Obj) (x y : Value) (t : TypeId) : Blk ((w.alloc o).alloc (.cells #[x, y] t)) (w.heap.size + 1) x y t := by
  have := blk_new (w.alloc o) x y t
  simpa using this
theorem blk_new2 (w : World) (o o' : Obj) (x y : Value) (t : TypeId) : Blk (((w.alloc o).alloc o').alloc (.cells #[x, y] t)) (w.heap.size + 2) x y t := by
  have := blk_new1 (w.alloc o) o' x y t
  simpa using this
theorem Blk.alloc {w : World} {g : Nat} {x y : Value} {t : TypeId} (h : Blk w g x y t) (o : Obj) : Blk (w.alloc o) g x y t :=
  h.keep (below_self_alloc _ _)
theorem Blk.drew {w : World} {g : Nat} {x y : Value} {t : TypeId} (h : Blk w g x y t) : Blk w.drew g x y t := h
theorem below_res {w w1 : World} {o o' : Obj} (hb : Below ((w.alloc o).alloc o').heap.size ((w.alloc o).alloc o') w1) : Below w.heap.size w w1 := box2_below (box2_below hb)
theorem below_res3 {w w1 : World} {o o' o'' : Obj} (hb : Below (((w.alloc o).alloc o').alloc o'').heap.size (((w.alloc o).alloc o').alloc o'') w1) : Below w.heap.size w w1 := box2_below (box2_below (box2_below hb))
/-- two stores into a block above -/
theorem below_set2 {a w : World} (h : Below a.heap.size a w) {g : Nat} (hg : a.heap.size ≤ g) (x y : Value) : Below a.heap.size a ((w.setCell ⟨g, 0, none⟩ x).setCell ⟨g, 1, none⟩ y) :=
  (h.setCell (p := ⟨g, 0, none⟩) hg x).setCell (p := ⟨g, 1, none⟩) hg y
theorem Blk.drewN {w : World} {g : Nat} {x y : Value} {t : TypeId} (h : Blk w g x y t) (n : Nat) : Blk (w.drewN n) g x y t := h
end Go.Proofs.Ytpnpjdebmakamaa
