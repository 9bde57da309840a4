/- What the operations on two bit vectors of the program come to, one by one. The conditions stand in each statement. -/
import Derived.Test.YtpnpjdebmakamaaVj
import Derived.Laws.EntriesVeiled
namespace Go.Proofs.Ytpnpjdebmakamaa
open Go.RowKit

theorem vok_small {a b : Int} (hv : vokB a b = true) : 1 ≤ a ∧ a ≤ 4 ∧ 0 ≤ b ∧ b ≤ 15 := by
  have := vok_two hv
  obtain ⟨h1, h2, h3, h4⟩ := vokB_bd hv
  omega
/-- the table of the operations -/
def binTab : Value := .agg #[.nilFunc, .nilFunc, .nilFunc, .func (Fn.func 68) #[] #[], .func (Fn.func 69) #[] #[], .func (Fn.func 70) #[] #[], .func (Fn.func 71) #[] #[], .func (Fn.func 72) #[] #[], .func (Fn.func 73) #[] #[], .func (Fn.func 74) #[] #[], .func (Fn.func 76) #[] #[], .func (Fn.func 77) #[] #[], .func (Fn.func 78) #[] #[], .func (Fn.func 79) #[] #[]]

set_option maxHeartbeats 1000000 in
theorem binaries_any (w : World) :
    Calls Try.prog 65 #[] w fun e w' => e = .returned binTab ∧ Below w.heap.size w w' := by
  go_enter Try.func65, Try.ntmps65
  go_wp2_with fail
  exact bodyPost_ret (v := binTab) (by simp [results, Try.results65, go_sem, binTab]) rfl ⟨rfl, below_self_alloc _ _⟩

theorem shl_small {b d : Int} (h0 : 0 ≤ b) (h1 : b ≤ 15) (h3 : d ≤ 15) : IntKind.u64.wrap (b * 2 ^ d.toNat) = b * two d.toNat := by
  have t1 := two_pos d.toNat
  have t2 : two d.toNat ≤ 32768 := two_le (n := 15) (by omega)
  rw [two_eq, IntKind.wrap_u64, Int.emod_eq_of_lt (Int.mul_nonneg h0 (by omega))]
  have := Int.mul_le_mul h1 t2 (by omega) (by omega)
  omega

set_option maxHeartbeats 1000000 in
theorem bin_and (a b c d : Int) (w : World) (h0 : 0 ≤ b) (h1 : b ≤ 15) (h2 : 0 ≤ d) (h3 : d ≤ 15) :
    Calls Try.prog 68 #[.agg #[.int .i64 a, .int .i64 b], .agg #[.int .i64 c, .int .i64 d]] w fun e w' => e = .returned (.int .u64 (((b.toNat &&& d.toNat : Nat) : Int))) ∧ Below w.heap.size w w' := by
  go_enter Try.func68, Try.ntmps68
  go_wp2_with fail
  go_region_held3 (fun wx => (wx.cell? ⟨w.heap.size, 0, none⟩ = some (.int .i64 a) ∧ wx.cell? ⟨w.heap.size, 1, none⟩ = some (.int .i64 b) ∧ w.heap.size < wx.heap.size) ∧ (wx.cell? ⟨w.heap.size + 1, 0, none⟩ = some (.int .i64 c) ∧ wx.cell? ⟨w.heap.size + 1, 1, none⟩ = some (.int .i64 d) ∧ w.heap.size + 1 < wx.heap.size)) (first | (with_reducible exact keep22 hb2 (by assumption)) | (with_reducible exact keep22 hb1 (by assumption)) | exact start22 _ _ _ _ _ _ _ | go_keep)
    (first | (go_at_call_of 51 (Value.agg #[.int .i64 a, .int .i64 b]); refine (raw_any a b _ (by omega) (by omega)).mono ?_; rintro e w1 ⟨rfl, hb1⟩)
           | (go_at_call 51; refine (raw_any c d _ (by omega) (by omega)).mono ?_; rintro e w2 ⟨rfl, hb2⟩))
  go_wp2_with fail
  go_ret
  exact ⟨ret_int (by exact u64_and b d h0 (by omega) h2 (by omega)), below_two (below_two (below_step (below_step (Below.refl _ _) _) _).drew hb1) hb2⟩

set_option maxHeartbeats 1000000 in
theorem bin_or (a b c d : Int) (w : World) (h0 : 0 ≤ b) (h1 : b ≤ 15) (h2 : 0 ≤ d) (h3 : d ≤ 15) :
    Calls Try.prog 69 #[.agg #[.int .i64 a, .int .i64 b], .agg #[.int .i64 c, .int .i64 d]] w fun e w' => e = .returned (.int .u64 (((b.toNat ||| d.toNat : Nat) : Int))) ∧ Below w.heap.size w w' := by
  go_enter Try.func69, Try.ntmps69
  go_wp2_with fail
  go_region_held3 (fun wx => (wx.cell? ⟨w.heap.size, 0, none⟩ = some (.int .i64 a) ∧ wx.cell? ⟨w.heap.size, 1, none⟩ = some (.int .i64 b) ∧ w.heap.size < wx.heap.size) ∧ (wx.cell? ⟨w.heap.size + 1, 0, none⟩ = some (.int .i64 c) ∧ wx.cell? ⟨w.heap.size + 1, 1, none⟩ = some (.int .i64 d) ∧ w.heap.size + 1 < wx.heap.size)) (first | (with_reducible exact keep22 hb2 (by assumption)) | (with_reducible exact keep22 hb1 (by assumption)) | exact start22 _ _ _ _ _ _ _ | go_keep)
    (first | (go_at_call_of 51 (Value.agg #[.int .i64 a, .int .i64 b]); refine (raw_any a b _ (by omega) (by omega)).mono ?_; rintro e w1 ⟨rfl, hb1⟩)
           | (go_at_call 51; refine (raw_any c d _ (by omega) (by omega)).mono ?_; rintro e w2 ⟨rfl, hb2⟩))
  go_wp2_with fail
  go_ret
  exact ⟨ret_int (by exact u64_or b d h0 (by omega) h2 (by omega)), below_two (below_two (below_step (below_step (Below.refl _ _) _) _).drew hb1) hb2⟩

set_option maxHeartbeats 1000000 in
theorem bin_xor (a b c d : Int) (w : World) (h0 : 0 ≤ b) (h1 : b ≤ 15) (h2 : 0 ≤ d) (h3 : d ≤ 15) :
    Calls Try.prog 70 #[.agg #[.int .i64 a, .int .i64 b], .agg #[.int .i64 c, .int .i64 d]] w fun e w' => e = .returned (.int .u64 (((b.toNat ^^^ d.toNat : Nat) : Int))) ∧ Below w.heap.size w w' := by
  go_enter Try.func70, Try.ntmps70
  go_wp2_with fail
  go_region_held3 (fun wx => (wx.cell? ⟨w.heap.size, 0, none⟩ = some (.int .i64 a) ∧ wx.cell? ⟨w.heap.size, 1, none⟩ = some (.int .i64 b) ∧ w.heap.size < wx.heap.size) ∧ (wx.cell? ⟨w.heap.size + 1, 0, none⟩ = some (.int .i64 c) ∧ wx.cell? ⟨w.heap.size + 1, 1, none⟩ = some (.int .i64 d) ∧ w.heap.size + 1 < wx.heap.size)) (first | (with_reducible exact keep22 hb2 (by assumption)) | (with_reducible exact keep22 hb1 (by assumption)) | exact start22 _ _ _ _ _ _ _ | go_keep)
    (first | (go_at_call_of 51 (Value.agg #[.int .i64 a, .int .i64 b]); refine (raw_any a b _ (by omega) (by omega)).mono ?_; rintro e w1 ⟨rfl, hb1⟩)
           | (go_at_call 51; refine (raw_any c d _ (by omega) (by omega)).mono ?_; rintro e w2 ⟨rfl, hb2⟩))
  go_wp2_with fail
  go_ret
  exact ⟨ret_int (by exact u64_xor b d h0 (by omega) h2 (by omega)), below_two (below_two (below_step (below_step (Below.refl _ _) _) _).drew hb1) hb2⟩

set_option maxHeartbeats 1000000 in
theorem bin_add (a b c d : Int) (w : World) (h0 : 0 ≤ b) (h1 : b ≤ 15) (h2 : 0 ≤ d) (h3 : d ≤ 15) :
    Calls Try.prog 71 #[.agg #[.int .i64 a, .int .i64 b], .agg #[.int .i64 c, .int .i64 d]] w fun e w' => e = .returned (.int .u64 (b + d)) ∧ Below w.heap.size w w' := by
  go_enter Try.func71, Try.ntmps71
  go_wp2_with fail
  go_region_held3 (fun wx => (wx.cell? ⟨w.heap.size, 0, none⟩ = some (.int .i64 a) ∧ wx.cell? ⟨w.heap.size, 1, none⟩ = some (.int .i64 b) ∧ w.heap.size < wx.heap.size) ∧ (wx.cell? ⟨w.heap.size + 1, 0, none⟩ = some (.int .i64 c) ∧ wx.cell? ⟨w.heap.size + 1, 1, none⟩ = some (.int .i64 d) ∧ w.heap.size + 1 < wx.heap.size)) (first | (with_reducible exact keep22 hb2 (by assumption)) | (with_reducible exact keep22 hb1 (by assumption)) | exact start22 _ _ _ _ _ _ _ | go_keep)
    (first | (go_at_call_of 51 (Value.agg #[.int .i64 a, .int .i64 b]); refine (raw_any a b _ (by omega) (by omega)).mono ?_; rintro e w1 ⟨rfl, hb1⟩)
           | (go_at_call 51; refine (raw_any c d _ (by omega) (by omega)).mono ?_; rintro e w2 ⟨rfl, hb2⟩))
  go_wp2_with fail
  go_ret
  exact ⟨ret_int (by show IntKind.u64.wrap (b + d) = _; rw [IntKind.wrap_u64]; omega), below_two (below_two (below_step (below_step (Below.refl _ _) _) _).drew hb1) hb2⟩

set_option maxHeartbeats 1000000 in
theorem bin_sub (a b c d : Int) (w : World) (h0 : 0 ≤ b) (h1 : b ≤ 15) (h2 : 0 ≤ d) (h3 : d ≤ 15) :
    Calls Try.prog 72 #[.agg #[.int .i64 a, .int .i64 b], .agg #[.int .i64 c, .int .i64 d]] w fun e w' => e = .returned (.int .u64 (IntKind.u64.wrap (b - d))) ∧ Below w.heap.size w w' := by
  go_enter Try.func72, Try.ntmps72
  go_wp2_with fail
  go_region_held3 (fun wx => (wx.cell? ⟨w.heap.size, 0, none⟩ = some (.int .i64 a) ∧ wx.cell? ⟨w.heap.size, 1, none⟩ = some (.int .i64 b) ∧ w.heap.size < wx.heap.size) ∧ (wx.cell? ⟨w.heap.size + 1, 0, none⟩ = some (.int .i64 c) ∧ wx.cell? ⟨w.heap.size + 1, 1, none⟩ = some (.int .i64 d) ∧ w.heap.size + 1 < wx.heap.size)) (first | (with_reducible exact keep22 hb2 (by assumption)) | (with_reducible exact keep22 hb1 (by assumption)) | exact start22 _ _ _ _ _ _ _ | go_keep)
    (first | (go_at_call_of 51 (Value.agg #[.int .i64 a, .int .i64 b]); refine (raw_any a b _ (by omega) (by omega)).mono ?_; rintro e w1 ⟨rfl, hb1⟩)
           | (go_at_call 51; refine (raw_any c d _ (by omega) (by omega)).mono ?_; rintro e w2 ⟨rfl, hb2⟩))
  go_wp2_with fail
  go_ret
  exact ⟨ret_int (by rfl), below_two (below_two (below_step (below_step (Below.refl _ _) _) _).drew hb1) hb2⟩

set_option maxHeartbeats 1000000 in
theorem bin_mul (a b c d : Int) (w : World) (h0 : 0 ≤ b) (h1 : b ≤ 15) (h2 : 0 ≤ d) (h3 : d ≤ 15) :
    Calls Try.prog 73 #[.agg #[.int .i64 a, .int .i64 b], .agg #[.int .i64 c, .int .i64 d]] w fun e w' => e = .returned (.int .u64 (b * d)) ∧ Below w.heap.size w w' := by
  go_enter Try.func73, Try.ntmps73
  go_wp2_with fail
  go_region_held3 (fun wx => (wx.cell? ⟨w.heap.size, 0, none⟩ = some (.int .i64 a) ∧ wx.cell? ⟨w.heap.size, 1, none⟩ = some (.int .i64 b) ∧ w.heap.size < wx.heap.size) ∧ (wx.cell? ⟨w.heap.size + 1, 0, none⟩ = some (.int .i64 c) ∧ wx.cell? ⟨w.heap.size + 1, 1, none⟩ = some (.int .i64 d) ∧ w.heap.size + 1 < wx.heap.size)) (first | (with_reducible exact keep22 hb2 (by assumption)) | (with_reducible exact keep22 hb1 (by assumption)) | exact start22 _ _ _ _ _ _ _ | go_keep)
    (first | (go_at_call_of 51 (Value.agg #[.int .i64 a, .int .i64 b]); refine (raw_any a b _ (by omega) (by omega)).mono ?_; rintro e w1 ⟨rfl, hb1⟩)
           | (go_at_call 51; refine (raw_any c d _ (by omega) (by omega)).mono ?_; rintro e w2 ⟨rfl, hb2⟩))
  go_wp2_with fail
  go_ret
  exact ⟨ret_int (by have g0 := Int.mul_nonneg h0 h2; have g1 := Int.mul_le_mul h1 h3 h2 (by omega); show IntKind.u64.wrap (b * d) = _; rw [IntKind.wrap_u64]; omega), below_two (below_two (below_step (below_step (Below.refl _ _) _) _).drew hb1) hb2⟩

set_option maxHeartbeats 1000000 in
theorem bin_shl (a b c d : Int) (w : World) (h0 : 0 ≤ b) (h1 : b ≤ 15) (h2 : 0 ≤ d) (h3 : d ≤ 15) :
    Calls Try.prog 77 #[.agg #[.int .i64 a, .int .i64 b], .agg #[.int .i64 c, .int .i64 d]] w fun e w' => e = .returned (.int .u64 (b * two d.toNat)) ∧ Below w.heap.size w w' := by
  go_enter Try.func77, Try.ntmps77
  go_wp2_with fail
  go_region_held3 (fun wx => (wx.cell? ⟨w.heap.size, 0, none⟩ = some (.int .i64 a) ∧ wx.cell? ⟨w.heap.size, 1, none⟩ = some (.int .i64 b) ∧ w.heap.size < wx.heap.size) ∧ (wx.cell? ⟨w.heap.size + 1, 0, none⟩ = some (.int .i64 c) ∧ wx.cell? ⟨w.heap.size + 1, 1, none⟩ = some (.int .i64 d) ∧ w.heap.size + 1 < wx.heap.size)) (first | (with_reducible exact keep22 hb2 (by assumption)) | (with_reducible exact keep22 hb1 (by assumption)) | exact start22 _ _ _ _ _ _ _ | go_keep)
    (first | (go_at_call_of 51 (Value.agg #[.int .i64 a, .int .i64 b]); refine (raw_any a b _ (by omega) (by omega)).mono ?_; rintro e w1 ⟨rfl, hb1⟩)
           | (go_at_call 51; refine (raw_any c d _ (by omega) (by omega)).mono ?_; rintro e w2 ⟨rfl, hb2⟩))
  go_wp2_with fail
  go_ret
  exact ⟨ret_int (by exact shl_small h0 h1 h3), below_two (below_two (below_step (below_step (Below.refl _ _) _) _).drew hb1) hb2⟩

set_option maxHeartbeats 1000000 in
theorem bin_shr (a b c d : Int) (w : World) (h0 : 0 ≤ b) (h1 : b ≤ 15) (h2 : 0 ≤ d) (h3 : d ≤ 15) :
    Calls Try.prog 78 #[.agg #[.int .i64 a, .int .i64 b], .agg #[.int .i64 c, .int .i64 d]] w fun e w' => e = .returned (.int .u64 (b / two d.toNat)) ∧ Below w.heap.size w w' := by
  go_enter Try.func78, Try.ntmps78
  go_wp2_with fail
  go_region_held3 (fun wx => (wx.cell? ⟨w.heap.size, 0, none⟩ = some (.int .i64 a) ∧ wx.cell? ⟨w.heap.size, 1, none⟩ = some (.int .i64 b) ∧ w.heap.size < wx.heap.size) ∧ (wx.cell? ⟨w.heap.size + 1, 0, none⟩ = some (.int .i64 c) ∧ wx.cell? ⟨w.heap.size + 1, 1, none⟩ = some (.int .i64 d) ∧ w.heap.size + 1 < wx.heap.size)) (first | (with_reducible exact keep22 hb2 (by assumption)) | (with_reducible exact keep22 hb1 (by assumption)) | exact start22 _ _ _ _ _ _ _ | go_keep)
    (first | (go_at_call_of 51 (Value.agg #[.int .i64 a, .int .i64 b]); refine (raw_any a b _ (by omega) (by omega)).mono ?_; rintro e w1 ⟨rfl, hb1⟩)
           | (go_at_call 51; refine (raw_any c d _ (by omega) (by omega)).mono ?_; rintro e w2 ⟨rfl, hb2⟩))
  go_wp2_with fail
  go_ret
  exact ⟨ret_int (by show b / 2 ^ d.toNat = _; rw [two_eq]), below_two (below_two (below_step (below_step (Below.refl _ _) _) _).drew hb1) hb2⟩

set_option maxHeartbeats 1000000 in
theorem bin_div (a b c d : Int) (w : World) (g1 : 1 ≤ a) (g2 : a ≤ 4) (h0 : 0 ≤ b) (h1 : b ≤ 15) (h2 : 0 ≤ d) (h3 : d ≤ 15) :
    Calls Try.prog 74 #[.agg #[.int .i64 a, .int .i64 b], .agg #[.int .i64 c, .int .i64 d]] w fun e w' => e = .returned (.int .u64 (if d = 0 then two a.toNat - 1 else b / d)) ∧ Below w.heap.size w w' := by
  by_cases hd : d = 0
  · rw [if_pos hd]
    have hd' : (d == 0) = true := by simpa using hd
    clear hd
    go_enter Try.func74, Try.ntmps74
    go_wp2_with fail
    refine (ones_any a b _ g1 g2).mono ?_; rintro e w1 ⟨rfl, hb1⟩
    go_wp2_with fail
    go_ret
    exact ⟨rfl, below_two (below_step (below_step (Below.refl _ _) _) _) hb1⟩
  · rw [if_neg hd]
    have hd' : (d == 0) = false := by simpa using hd
    have hp : 1 ≤ d := by omega
    have E : Hid (IntKind.u64.wrap (b.tdiv d) = b / d) := by
      show _ = _
      have g3 := Int.ediv_nonneg h0 h2; have g4 := Int.ediv_le_self d h0; rw [Int.tdiv_eq_ediv_of_nonneg h0, IntKind.wrap_u64]; omega
    go_enter Try.func74, Try.ntmps74
    go_wp2_with fail
    go_region_held3 (fun wx => (wx.cell? ⟨w.heap.size, 0, none⟩ = some (.int .i64 a) ∧ wx.cell? ⟨w.heap.size, 1, none⟩ = some (.int .i64 b) ∧ w.heap.size < wx.heap.size) ∧ (wx.cell? ⟨w.heap.size + 1, 0, none⟩ = some (.int .i64 c) ∧ wx.cell? ⟨w.heap.size + 1, 1, none⟩ = some (.int .i64 d) ∧ w.heap.size + 1 < wx.heap.size)) (first | (with_reducible exact keep22 hb2 (by assumption)) | (with_reducible exact keep22 hb1 (by assumption)) | exact start22 _ _ _ _ _ _ _ | go_keep)
      (first | (go_at_call_of 51 (Value.agg #[.int .i64 a, .int .i64 b]); refine (raw_any a b _ (by omega) (by omega)).mono ?_; rintro e w1 ⟨rfl, hb1⟩)
             | (go_at_call 51; refine (raw_any c d _ (by omega) (by omega)).mono ?_; rintro e w2 ⟨rfl, hb2⟩))
    go_wp2_with fail
    go_ret
    exact ⟨ret_int (by first | rfl | exact E.out), below_two (below_two (below_step (below_step (Below.refl _ _) _) _).drew hb1) hb2⟩

set_option maxHeartbeats 1000000 in
theorem bin_rem (a b c d : Int) (w : World) (_g1 : 1 ≤ a) (_g2 : a ≤ 4) (h0 : 0 ≤ b) (h1 : b ≤ 15) (h2 : 0 ≤ d) (h3 : d ≤ 15) :
    Calls Try.prog 76 #[.agg #[.int .i64 a, .int .i64 b], .agg #[.int .i64 c, .int .i64 d]] w fun e w' => e = .returned (.int .u64 (if d = 0 then b else b % d)) ∧ Below w.heap.size w w' := by
  by_cases hd : d = 0
  · rw [if_pos hd]
    have hd' : (d == 0) = true := by simpa using hd
    clear hd
    go_enter Try.func76, Try.ntmps76
    go_wp2_with fail
    refine (raw_any a b _ h0 (by omega)).mono ?_; rintro e w1 ⟨rfl, hb1⟩
    go_wp2_with fail
    go_ret
    exact ⟨rfl, below_two (below_step (below_step (Below.refl _ _) _) _) hb1⟩
  · rw [if_neg hd]
    have hd' : (d == 0) = false := by simpa using hd
    have hp : 1 ≤ d := by omega
    have E : Hid (b.tmod d = b % d) := by
      show _ = _
      exact Int.tmod_eq_emod_of_nonneg h0
    go_enter Try.func76, Try.ntmps76
    go_wp2_with fail
    go_region_held3 (fun wx => (wx.cell? ⟨w.heap.size, 0, none⟩ = some (.int .i64 a) ∧ wx.cell? ⟨w.heap.size, 1, none⟩ = some (.int .i64 b) ∧ w.heap.size < wx.heap.size) ∧ (wx.cell? ⟨w.heap.size + 1, 0, none⟩ = some (.int .i64 c) ∧ wx.cell? ⟨w.heap.size + 1, 1, none⟩ = some (.int .i64 d) ∧ w.heap.size + 1 < wx.heap.size)) (first | (with_reducible exact keep22 hb2 (by assumption)) | (with_reducible exact keep22 hb1 (by assumption)) | exact start22 _ _ _ _ _ _ _ | go_keep)
      (first | (go_at_call_of 51 (Value.agg #[.int .i64 a, .int .i64 b]); refine (raw_any a b _ (by omega) (by omega)).mono ?_; rintro e w1 ⟨rfl, hb1⟩)
             | (go_at_call 51; refine (raw_any c d _ (by omega) (by omega)).mono ?_; rintro e w2 ⟨rfl, hb2⟩))
    go_wp2_with fail
    go_ret
    exact ⟨ret_int (by first | rfl | exact E.out), below_two (below_two (below_step (below_step (Below.refl _ _) _) _).drew hb1) hb2⟩

/-- the number whose top bit goes on above, as 32 bits -/
def strN (a b : Int) : Int := if b / two (a.toNat - 1) % 2 = 1 then b + (4294967296 - two a.toNat) else b
theorem str_law_nat : ∀ k : Nat, k < 5 → ∀ m : Nat, m < 16 → m < 2 ^ k → bits BinOp.or IntKind.u64 (m : Int) (bits BinOp.and IntKind.u64 (bits BinOp.xor IntKind.u64 (if IntKind.u64.signed = true then -1 else IntKind.u64.max) (((2 ^ k : Nat) : Int) - 1)) 4294967295) = (m : Int) + (4294967296 - ((2 ^ k : Nat) : Int)) := by decide +kernel
theorem str_law {a b : Int} (hv : vokB a b = true) : bits BinOp.or IntKind.u64 b (bits BinOp.and IntKind.u64 (bits BinOp.xor IntKind.u64 (if IntKind.u64.signed = true then -1 else IntKind.u64.max) (two a.toNat - 1)) 4294967295) = b + (4294967296 - two a.toNat) := by
  have h5 := vok_small hv
  obtain ⟨h1, h2, h3, h4⟩ := vokB_bd hv
  obtain ⟨m, rfl⟩ := Int.eq_ofNat_of_zero_le h3
  exact str_law_nat a.toNat (by omega) m (by omega) (by unfold two at h4; omega)

set_option maxHeartbeats 1000000 in
theorem stretched_any (a b : Int) (w : World) (hv : vokB a b = true) :
    Calls Try.prog 80 #[.agg #[.int .i64 a, .int .i64 b]] w fun e w' => e = .returned (.int .u64 (strN a b)) ∧ Below w.heap.size w w' := by
  have h5 := vok_small hv
  obtain ⟨h1, h2, h3, h4⟩ := vokB_bd hv
  have ew : IntKind.i64.wrap (a - 1) = a - 1 := IntWalk.i64_in _ (by omega)
  have B : ∀ W : World, Calls Try.prog 52 #[.int .u64 b, .int .i64 (IntKind.i64.wrap (a - 1))] W fun e w' => e = .returned (.bool (decide (b / two (a.toNat - 1) % 2 = 1))) ∧ W = w' := fun W => by
    rw [ew, show a.toNat - 1 = (a - 1).toNat by omega]
    exact bit_any b (a - 1) W (by omega) (by omega) (by omega) (by omega)
  have E := Lib.hid (str_law hv)
  unfold strN
  clear ew
  by_cases hs : b / two (a.toNat - 1) % 2 = 1
  · rw [if_pos hs]
    rw [decide_eq_true hs] at B
    have B' := Lib.hid B
    clear B hs
    go_enter Try.func80, Try.ntmps80
    go_wp2_with fail
    go_region_held3 (fun wx => wx.cell? ⟨w.heap.size, 0, none⟩ = some (.int .i64 a) ∧ wx.cell? ⟨w.heap.size, 1, none⟩ = some (.int .i64 b) ∧ w.heap.size < wx.heap.size) (first | (with_reducible exact keep2 hb2 (by assumption)) | exact (blk_new _ _ _ _).drew.cells | go_keep)
      (first | (go_at_call 51; refine (raw_any a b _ (by omega) (by omega)).mono ?_; rintro e w2 ⟨rfl, hb2⟩)
             | (go_at_call 52; refine (B'.out _).mono ?_; rintro e w3 ⟨rfl, rfl⟩))
    go_wp2_with fail
    go_region_held3 (fun wx => wx.cell? ⟨w.heap.size, 0, none⟩ = some (.int .i64 a) ∧ wx.cell? ⟨w.heap.size, 1, none⟩ = some (.int .i64 b) ∧ w.heap.size < wx.heap.size) (first | (with_reducible exact keep2 hb4 (by assumption)) | (with_reducible exact keep2 hb3 (by assumption)) | assumption | go_keep)
      (first | (go_at_call 51; refine (raw_any a b _ (by omega) (by omega)).mono ?_; rintro e w3 ⟨rfl, hb3⟩)
             | (go_at_call 75; refine (ones_any a b _ h1 h2).mono ?_; rintro e w4 ⟨rfl, hb4⟩))
    go_wp2_with fail
    go_ret
    exact ⟨ret_int E.out, below_two (below_two (below_two (below_self_alloc _ _).drew hb2).drew hb3) hb4⟩
  · rw [if_neg hs]
    rw [decide_eq_false hs] at B
    have B' := Lib.hid B
    clear B hs
    go_enter Try.func80, Try.ntmps80
    go_wp2_with fail
    go_region_held3 (fun wx => wx.cell? ⟨w.heap.size, 0, none⟩ = some (.int .i64 a) ∧ wx.cell? ⟨w.heap.size, 1, none⟩ = some (.int .i64 b) ∧ w.heap.size < wx.heap.size) (first | (with_reducible exact keep2 hb2 (by assumption)) | exact (blk_new _ _ _ _).drew.cells | go_keep)
      (first | (go_at_call 51; refine (raw_any a b _ (by omega) (by omega)).mono ?_; rintro e w2 ⟨rfl, hb2⟩)
             | (go_at_call 52; refine (B'.out _).mono ?_; rintro e w3 ⟨rfl, rfl⟩))
    obtain ⟨d0, d1, dz⟩ : w2.cell? ⟨w.heap.size, 0, none⟩ = some (.int .i64 a) ∧ w2.cell? ⟨w.heap.size, 1, none⟩ = some (.int .i64 b) ∧ w.heap.size < w2.heap.size := by assumption
    go_wp2_with fail
    refine (raw_any a b _ (by omega) (by omega)).mono ?_; rintro e w3 ⟨rfl, hb3⟩
    go_wp2_with fail
    go_ret
    exact ⟨rfl, below_two (below_two (below_self_alloc _ _).drew hb2) hb3⟩

theorem strN_bd {a b : Int} (hv : vokB a b = true) : 0 ≤ strN a b ∧ strN a b ≤ 4294967296 := by
  have h5 := vok_small hv
  have h6 := vok_two hv
  have h7 := two_pos a.toNat
  obtain ⟨h1, h2, h3, h4⟩ := vokB_bd hv
  unfold strN; split <;> omega

set_option maxHeartbeats 1000000 in
theorem bin_sar (a b c d : Int) (w : World) (hv : vokB a b = true) (h2 : 0 ≤ d) (h3 : d ≤ 15) :
    Calls Try.prog 79 #[.agg #[.int .i64 a, .int .i64 b], .agg #[.int .i64 c, .int .i64 d]] w fun e w' => e = .returned (.int .u64 (strN a b / two d.toNat)) ∧ Below w.heap.size w w' := by
  obtain ⟨g0, g1⟩ := strN_bd hv
  go_enter Try.func79, Try.ntmps79
  go_wp2_with fail
  go_region_held3 (fun wx => (wx.cell? ⟨w.heap.size, 0, none⟩ = some (.int .i64 a) ∧ wx.cell? ⟨w.heap.size, 1, none⟩ = some (.int .i64 b) ∧ w.heap.size < wx.heap.size) ∧ (wx.cell? ⟨w.heap.size + 1, 0, none⟩ = some (.int .i64 c) ∧ wx.cell? ⟨w.heap.size + 1, 1, none⟩ = some (.int .i64 d) ∧ w.heap.size + 1 < wx.heap.size)) (first | (with_reducible exact keep22 hb2 (by assumption)) | (with_reducible exact keep22 hb1 (by assumption)) | exact start22 _ _ _ _ _ _ _ | go_keep)
    (first | (go_at_call 80; refine (stretched_any a b _ hv).mono ?_; rintro e w1 ⟨rfl, hb1⟩)
           | (go_at_call 51; refine (raw_any c d _ (by omega) (by omega)).mono ?_; rintro e w2 ⟨rfl, hb2⟩))
  go_wp2_with fail
  go_ret
  exact ⟨ret_int (by show strN a b / 2 ^ d.toNat = _; rw [two_eq]), below_two (below_two (below_step (below_step (Below.refl _ _) _) _).drew hb1) hb2⟩
end Go.Proofs.Ytpnpjdebmakamaa
