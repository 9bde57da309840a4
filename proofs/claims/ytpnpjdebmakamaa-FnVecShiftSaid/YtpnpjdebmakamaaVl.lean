/- What the program's VecBin comes to: for every argument. -/
import Derived.Test.YtpnpjdebmakamaaVk
namespace Go.Proofs.Ytpnpjdebmakamaa
open Go.RowKit

/-- the number that an operation gives, before it is truncated -/
def binR (op a b d : Int) : Int :=
  if op = 3 then ((b.toNat &&& d.toNat : Nat) : Int) else
  if op = 4 then ((b.toNat ||| d.toNat : Nat) : Int) else
  if op = 5 then ((b.toNat ^^^ d.toNat : Nat) : Int) else
  if op = 6 then b + d else
  if op = 7 then IntKind.u64.wrap (b - d) else
  if op = 8 then b * d else
  if op = 9 then if d = 0 then two a.toNat - 1 else b / d else
  if op = 10 then if d = 0 then b else b % d else
  if op = 11 then b * two d.toNat else
  if op = 12 then b / two d.toNat else
  strN a b / two d.toNat
def binB (op a b c d : Int) : Bool := vokB a b && vokB c d && (if op = 14 then decide (a + c ≤ 4) else decide (3 ≤ op ∧ op ≤ 13 ∧ a = c))
def binW (op a b c d : Int) : Int := if binB op a b c d = true then (if op = 14 then a + c else a) else 0
def binN (op a b c d : Int) : Int := if binB op a b c d = true then (if op = 14 then b * two c.toNat + d else binR op a b d % two a.toNat) else 0
theorem two_le15 {d : Int} (h : d ≤ 15) : two d.toNat ≤ 32768 := two_le (n := 15) (by omega)
theorem and_bd (x y : Nat) (h : x ≤ 15) : x &&& y ≤ 15 := Nat.le_trans Nat.and_le_left h
theorem or_bd (x y : Nat) (h : x ≤ 15) (h' : y ≤ 15) : x ||| y ≤ 15 := by have := @Nat.or_lt_two_pow x y 4 (by omega) (by omega); omega
theorem xor_bd (x y : Nat) (h : x ≤ 15) (h' : y ≤ 15) : x ^^^ y ≤ 15 := by have := @Nat.xor_lt_two_pow x y 4 (by omega) (by omega); omega
theorem binR_3 (a b d : Int) : binR 3 a b d = (((b.toNat &&& d.toNat : Nat) : Int)) := by simp [binR]
theorem bd_3 {a b d : Int} (hv : vokB a b = true) (hv2 : vokB a d = true) : 0 ≤ binR 3 a b d ∧ binR 3 a b d ≤ 18446744073709551615 := by
  obtain ⟨h1, h2, h3, h4⟩ := vok_small hv
  obtain ⟨_, _, h7, h8⟩ := vok_small hv2
  rw [binR_3]
  have := and_bd b.toNat d.toNat (by omega); omega
theorem call_3 {a b d : Int} (hv : vokB a b = true) (hv2 : vokB a d = true) (W : World) : Calls Try.prog 68 #[.agg #[.int .i64 a, .int .i64 b], .agg #[.int .i64 a, .int .i64 d]] W fun e w' => e = .returned (.int .u64 (binR 3 a b d)) ∧ Below W.heap.size W w' := by
  obtain ⟨h1, h2, h3, h4⟩ := vok_small hv
  obtain ⟨_, _, h7, h8⟩ := vok_small hv2
  rw [binR_3]
  exact bin_and a b a d W h3 h4 h7 h8
theorem ix_3 (W : World) : (Instr.index 77 binTab (.int .i64 3)).run Try.prog W = .ok (.func (Fn.func 68) #[] #[]) W := by kernel_rfl
theorem binR_4 (a b d : Int) : binR 4 a b d = (((b.toNat ||| d.toNat : Nat) : Int)) := by simp [binR]
theorem bd_4 {a b d : Int} (hv : vokB a b = true) (hv2 : vokB a d = true) : 0 ≤ binR 4 a b d ∧ binR 4 a b d ≤ 18446744073709551615 := by
  obtain ⟨h1, h2, h3, h4⟩ := vok_small hv
  obtain ⟨_, _, h7, h8⟩ := vok_small hv2
  rw [binR_4]
  have := or_bd b.toNat d.toNat (by omega) (by omega); omega
theorem call_4 {a b d : Int} (hv : vokB a b = true) (hv2 : vokB a d = true) (W : World) : Calls Try.prog 69 #[.agg #[.int .i64 a, .int .i64 b], .agg #[.int .i64 a, .int .i64 d]] W fun e w' => e = .returned (.int .u64 (binR 4 a b d)) ∧ Below W.heap.size W w' := by
  obtain ⟨h1, h2, h3, h4⟩ := vok_small hv
  obtain ⟨_, _, h7, h8⟩ := vok_small hv2
  rw [binR_4]
  exact bin_or a b a d W h3 h4 h7 h8
theorem ix_4 (W : World) : (Instr.index 77 binTab (.int .i64 4)).run Try.prog W = .ok (.func (Fn.func 69) #[] #[]) W := by kernel_rfl
theorem binR_5 (a b d : Int) : binR 5 a b d = (((b.toNat ^^^ d.toNat : Nat) : Int)) := by simp [binR]
theorem bd_5 {a b d : Int} (hv : vokB a b = true) (hv2 : vokB a d = true) : 0 ≤ binR 5 a b d ∧ binR 5 a b d ≤ 18446744073709551615 := by
  obtain ⟨h1, h2, h3, h4⟩ := vok_small hv
  obtain ⟨_, _, h7, h8⟩ := vok_small hv2
  rw [binR_5]
  have := xor_bd b.toNat d.toNat (by omega) (by omega); omega
theorem call_5 {a b d : Int} (hv : vokB a b = true) (hv2 : vokB a d = true) (W : World) : Calls Try.prog 70 #[.agg #[.int .i64 a, .int .i64 b], .agg #[.int .i64 a, .int .i64 d]] W fun e w' => e = .returned (.int .u64 (binR 5 a b d)) ∧ Below W.heap.size W w' := by
  obtain ⟨h1, h2, h3, h4⟩ := vok_small hv
  obtain ⟨_, _, h7, h8⟩ := vok_small hv2
  rw [binR_5]
  exact bin_xor a b a d W h3 h4 h7 h8
theorem ix_5 (W : World) : (Instr.index 77 binTab (.int .i64 5)).run Try.prog W = .ok (.func (Fn.func 70) #[] #[]) W := by kernel_rfl
theorem binR_6 (a b d : Int) : binR 6 a b d = (b + d) := by simp [binR]
theorem bd_6 {a b d : Int} (hv : vokB a b = true) (hv2 : vokB a d = true) : 0 ≤ binR 6 a b d ∧ binR 6 a b d ≤ 18446744073709551615 := by
  obtain ⟨h1, h2, h3, h4⟩ := vok_small hv
  obtain ⟨_, _, h7, h8⟩ := vok_small hv2
  rw [binR_6]
  omega
theorem call_6 {a b d : Int} (hv : vokB a b = true) (hv2 : vokB a d = true) (W : World) : Calls Try.prog 71 #[.agg #[.int .i64 a, .int .i64 b], .agg #[.int .i64 a, .int .i64 d]] W fun e w' => e = .returned (.int .u64 (binR 6 a b d)) ∧ Below W.heap.size W w' := by
  obtain ⟨h1, h2, h3, h4⟩ := vok_small hv
  obtain ⟨_, _, h7, h8⟩ := vok_small hv2
  rw [binR_6]
  exact bin_add a b a d W h3 h4 h7 h8
theorem ix_6 (W : World) : (Instr.index 77 binTab (.int .i64 6)).run Try.prog W = .ok (.func (Fn.func 71) #[] #[]) W := by kernel_rfl
theorem binR_7 (a b d : Int) : binR 7 a b d = (IntKind.u64.wrap (b - d)) := by simp [binR]
theorem bd_7 {a b d : Int} (hv : vokB a b = true) (hv2 : vokB a d = true) : 0 ≤ binR 7 a b d ∧ binR 7 a b d ≤ 18446744073709551615 := by
  obtain ⟨h1, h2, h3, h4⟩ := vok_small hv
  obtain ⟨_, _, h7, h8⟩ := vok_small hv2
  rw [binR_7]
  rw [IntKind.wrap_u64]; omega
theorem call_7 {a b d : Int} (hv : vokB a b = true) (hv2 : vokB a d = true) (W : World) : Calls Try.prog 72 #[.agg #[.int .i64 a, .int .i64 b], .agg #[.int .i64 a, .int .i64 d]] W fun e w' => e = .returned (.int .u64 (binR 7 a b d)) ∧ Below W.heap.size W w' := by
  obtain ⟨h1, h2, h3, h4⟩ := vok_small hv
  obtain ⟨_, _, h7, h8⟩ := vok_small hv2
  rw [binR_7]
  exact bin_sub a b a d W h3 h4 h7 h8
theorem ix_7 (W : World) : (Instr.index 77 binTab (.int .i64 7)).run Try.prog W = .ok (.func (Fn.func 72) #[] #[]) W := by kernel_rfl
theorem binR_8 (a b d : Int) : binR 8 a b d = (b * d) := by simp [binR]
theorem bd_8 {a b d : Int} (hv : vokB a b = true) (hv2 : vokB a d = true) : 0 ≤ binR 8 a b d ∧ binR 8 a b d ≤ 18446744073709551615 := by
  obtain ⟨h1, h2, h3, h4⟩ := vok_small hv
  obtain ⟨_, _, h7, h8⟩ := vok_small hv2
  rw [binR_8]
  have g0 := Int.mul_nonneg h3 h7; have g1 := Int.mul_le_mul h4 h8 h7 (by omega); omega
theorem call_8 {a b d : Int} (hv : vokB a b = true) (hv2 : vokB a d = true) (W : World) : Calls Try.prog 73 #[.agg #[.int .i64 a, .int .i64 b], .agg #[.int .i64 a, .int .i64 d]] W fun e w' => e = .returned (.int .u64 (binR 8 a b d)) ∧ Below W.heap.size W w' := by
  obtain ⟨h1, h2, h3, h4⟩ := vok_small hv
  obtain ⟨_, _, h7, h8⟩ := vok_small hv2
  rw [binR_8]
  exact bin_mul a b a d W h3 h4 h7 h8
theorem ix_8 (W : World) : (Instr.index 77 binTab (.int .i64 8)).run Try.prog W = .ok (.func (Fn.func 73) #[] #[]) W := by kernel_rfl
theorem binR_9 (a b d : Int) : binR 9 a b d = (if d = 0 then two a.toNat - 1 else b / d) := by simp [binR]
theorem bd_9 {a b d : Int} (hv : vokB a b = true) (hv2 : vokB a d = true) : 0 ≤ binR 9 a b d ∧ binR 9 a b d ≤ 18446744073709551615 := by
  obtain ⟨h1, h2, h3, h4⟩ := vok_small hv
  obtain ⟨_, _, h7, h8⟩ := vok_small hv2
  rw [binR_9]
  have g0 := two_pos a.toNat; have g2 := vok_two hv; have g3 := Int.ediv_nonneg h3 h7; have g4 := Int.ediv_le_self d h3; split <;> omega
theorem call_9 {a b d : Int} (hv : vokB a b = true) (hv2 : vokB a d = true) (W : World) : Calls Try.prog 74 #[.agg #[.int .i64 a, .int .i64 b], .agg #[.int .i64 a, .int .i64 d]] W fun e w' => e = .returned (.int .u64 (binR 9 a b d)) ∧ Below W.heap.size W w' := by
  obtain ⟨h1, h2, h3, h4⟩ := vok_small hv
  obtain ⟨_, _, h7, h8⟩ := vok_small hv2
  rw [binR_9]
  exact bin_div a b a d W h1 h2 h3 h4 h7 h8
theorem ix_9 (W : World) : (Instr.index 77 binTab (.int .i64 9)).run Try.prog W = .ok (.func (Fn.func 74) #[] #[]) W := by kernel_rfl
theorem binR_10 (a b d : Int) : binR 10 a b d = (if d = 0 then b else b % d) := by simp [binR]
theorem bd_10 {a b d : Int} (hv : vokB a b = true) (hv2 : vokB a d = true) : 0 ≤ binR 10 a b d ∧ binR 10 a b d ≤ 18446744073709551615 := by
  obtain ⟨h1, h2, h3, h4⟩ := vok_small hv
  obtain ⟨_, _, h7, h8⟩ := vok_small hv2
  rw [binR_10]
  have g3 : d ≠ 0 → 0 ≤ b % d := fun h => Int.emod_nonneg b h; have g4 : 0 < d → b % d < d := fun h => Int.emod_lt_of_pos b h; split <;> omega
theorem call_10 {a b d : Int} (hv : vokB a b = true) (hv2 : vokB a d = true) (W : World) : Calls Try.prog 76 #[.agg #[.int .i64 a, .int .i64 b], .agg #[.int .i64 a, .int .i64 d]] W fun e w' => e = .returned (.int .u64 (binR 10 a b d)) ∧ Below W.heap.size W w' := by
  obtain ⟨h1, h2, h3, h4⟩ := vok_small hv
  obtain ⟨_, _, h7, h8⟩ := vok_small hv2
  rw [binR_10]
  exact bin_rem a b a d W h1 h2 h3 h4 h7 h8
theorem ix_10 (W : World) : (Instr.index 77 binTab (.int .i64 10)).run Try.prog W = .ok (.func (Fn.func 76) #[] #[]) W := by kernel_rfl
theorem binR_11 (a b d : Int) : binR 11 a b d = (b * two d.toNat) := by simp [binR]
theorem bd_11 {a b d : Int} (hv : vokB a b = true) (hv2 : vokB a d = true) : 0 ≤ binR 11 a b d ∧ binR 11 a b d ≤ 18446744073709551615 := by
  obtain ⟨h1, h2, h3, h4⟩ := vok_small hv
  obtain ⟨_, _, h7, h8⟩ := vok_small hv2
  rw [binR_11]
  have g0 := two_pos d.toNat; have g2 := two_le15 h8; have g3 := Int.mul_nonneg h3 (show (0 : Int) ≤ two d.toNat by omega); have g4 := Int.mul_le_mul h4 g2 (by omega) (by omega); omega
theorem call_11 {a b d : Int} (hv : vokB a b = true) (hv2 : vokB a d = true) (W : World) : Calls Try.prog 77 #[.agg #[.int .i64 a, .int .i64 b], .agg #[.int .i64 a, .int .i64 d]] W fun e w' => e = .returned (.int .u64 (binR 11 a b d)) ∧ Below W.heap.size W w' := by
  obtain ⟨h1, h2, h3, h4⟩ := vok_small hv
  obtain ⟨_, _, h7, h8⟩ := vok_small hv2
  rw [binR_11]
  exact bin_shl a b a d W h3 h4 h7 h8
theorem ix_11 (W : World) : (Instr.index 77 binTab (.int .i64 11)).run Try.prog W = .ok (.func (Fn.func 77) #[] #[]) W := by kernel_rfl
theorem binR_12 (a b d : Int) : binR 12 a b d = (b / two d.toNat) := by simp [binR]
theorem bd_12 {a b d : Int} (hv : vokB a b = true) (hv2 : vokB a d = true) : 0 ≤ binR 12 a b d ∧ binR 12 a b d ≤ 18446744073709551615 := by
  obtain ⟨h1, h2, h3, h4⟩ := vok_small hv
  obtain ⟨_, _, h7, h8⟩ := vok_small hv2
  rw [binR_12]
  have g0 := two_pos d.toNat; have g3 := Int.ediv_nonneg h3 (show (0 : Int) ≤ two d.toNat by omega); have g4 := Int.ediv_le_self (two d.toNat) h3; omega
theorem call_12 {a b d : Int} (hv : vokB a b = true) (hv2 : vokB a d = true) (W : World) : Calls Try.prog 78 #[.agg #[.int .i64 a, .int .i64 b], .agg #[.int .i64 a, .int .i64 d]] W fun e w' => e = .returned (.int .u64 (binR 12 a b d)) ∧ Below W.heap.size W w' := by
  obtain ⟨h1, h2, h3, h4⟩ := vok_small hv
  obtain ⟨_, _, h7, h8⟩ := vok_small hv2
  rw [binR_12]
  exact bin_shr a b a d W h3 h4 h7 h8
theorem ix_12 (W : World) : (Instr.index 77 binTab (.int .i64 12)).run Try.prog W = .ok (.func (Fn.func 78) #[] #[]) W := by kernel_rfl
theorem binR_13 (a b d : Int) : binR 13 a b d = (strN a b / two d.toNat) := by simp [binR]
theorem bd_13 {a b d : Int} (hv : vokB a b = true) (hv2 : vokB a d = true) : 0 ≤ binR 13 a b d ∧ binR 13 a b d ≤ 18446744073709551615 := by
  obtain ⟨h1, h2, h3, h4⟩ := vok_small hv
  obtain ⟨_, _, h7, h8⟩ := vok_small hv2
  rw [binR_13]
  have g0 := two_pos d.toNat; obtain ⟨s0, s1⟩ := strN_bd hv; have g3 := Int.ediv_nonneg s0 (show (0 : Int) ≤ two d.toNat by omega); have g4 := Int.ediv_le_self (two d.toNat) s0; omega
theorem call_13 {a b d : Int} (hv : vokB a b = true) (hv2 : vokB a d = true) (W : World) : Calls Try.prog 79 #[.agg #[.int .i64 a, .int .i64 b], .agg #[.int .i64 a, .int .i64 d]] W fun e w' => e = .returned (.int .u64 (binR 13 a b d)) ∧ Below W.heap.size W w' := by
  obtain ⟨h1, h2, h3, h4⟩ := vok_small hv
  obtain ⟨_, _, h7, h8⟩ := vok_small hv2
  rw [binR_13]
  exact bin_sar a b a d W hv h7 h8
theorem ix_13 (W : World) : (Instr.index 77 binTab (.int .i64 13)).run Try.prog W = .ok (.func (Fn.func 79) #[] #[]) W := by kernel_rfl

theorem cell_set2 {w : World} {g r i : Nat} {u v : Value} (hne : g ≠ r) : ((w.setCell ⟨r, 0, none⟩ u).setCell ⟨r, 1, none⟩ v).cell? ⟨g, i, none⟩ = w.cell? ⟨g, i, none⟩ :=
  World.cell?_of_block (by rw [Below.heap_setCell _ _ _ _ hne, Below.heap_setCell _ _ _ _ hne])
theorem keep_set22 {W : World} {g h r : Nat} {x y x' y' u v : Value}
    (k : (W.cell? ⟨g, 0, none⟩ = some x ∧ W.cell? ⟨g, 1, none⟩ = some y ∧ g < W.heap.size) ∧ (W.cell? ⟨h, 0, none⟩ = some x' ∧ W.cell? ⟨h, 1, none⟩ = some y' ∧ h < W.heap.size)) (h1 : g ≠ r) (h2 : h ≠ r) :
    (((W.setCell ⟨r, 0, none⟩ u).setCell ⟨r, 1, none⟩ v).cell? ⟨g, 0, none⟩ = some x ∧ ((W.setCell ⟨r, 0, none⟩ u).setCell ⟨r, 1, none⟩ v).cell? ⟨g, 1, none⟩ = some y ∧ g < ((W.setCell ⟨r, 0, none⟩ u).setCell ⟨r, 1, none⟩ v).heap.size) ∧
    (((W.setCell ⟨r, 0, none⟩ u).setCell ⟨r, 1, none⟩ v).cell? ⟨h, 0, none⟩ = some x' ∧ ((W.setCell ⟨r, 0, none⟩ u).setCell ⟨r, 1, none⟩ v).cell? ⟨h, 1, none⟩ = some y' ∧ h < ((W.setCell ⟨r, 0, none⟩ u).setCell ⟨r, 1, none⟩ v).heap.size) := by
  rw [cell_set2 h1, cell_set2 h1, cell_set2 h2, cell_set2 h2]
  refine ⟨⟨k.1.1, k.1.2.1, ?_⟩, k.2.1, k.2.2.1, ?_⟩
  · simpa [World.setCell] using k.1.2.2
  · simpa [World.setCell] using k.2.2.2
theorem blk_three {w w1 : World} {x y x' y' x2 y2 : Value} {t t' t2 : TypeId} (hb : Below (((w.alloc (.cells #[x, y] t)).alloc (.cells #[x', y'] t')).alloc (.cells #[x2, y2] t2)).heap.size (((w.alloc (.cells #[x, y] t)).alloc (.cells #[x', y'] t')).alloc (.cells #[x2, y2] t2)) w1) :
    Blk w1 w.heap.size x y t ∧ Blk w1 (w.heap.size + 1) x' y' t' ∧ Blk w1 (w.heap.size + 2) x2 y2 t2 := ⟨(((blk_new w x y t).alloc _).alloc _).keep hb, ((blk_new1 w _ x' y' t').alloc _).keep hb, (blk_new2 w _ _ x2 y2 t2).keep hb⟩

set_option maxHeartbeats 1000000 in
theorem vecBin_impl_3 (a b d : Int) (w : World) (hv : vokB a b = true) (hv2 : vokB a d = true) :
    Calls Try.prog 45 #[.int .i64 3, .agg #[.int .i64 a, .int .i64 b], .agg #[.int .i64 a, .int .i64 d]] w fun e w' => e = .returned (.tuple #[.agg #[.int .i64 (binW 3 a b a d), .int .i64 (binN 3 a b a d)], .bool (binB 3 a b a d)]) ∧ Below w.heap.size w w' := by
  have e0 : binB 3 a b a d = true := by simp [binB, hv, hv2]
  have e1 : binW 3 a b a d = a := by simp [binW, e0]
  have e2 : binN 3 a b a d = binR 3 a b d % two a.toNat := by simp [binN, e0]
  rw [e0, e1, e2]; clear e0 e1 e2
  obtain ⟨h1, h2, h3, h4⟩ := vok_small hv
  have hne : (a != a) = false := by simp
  have V := Lib.hid (fun W => vec_any a b (binR 3 a b d) W (bd_3 hv hv2).1 (bd_3 hv hv2).2 h1 h2)
  have C := Lib.hid (fun W => call_3 hv hv2 W)
  have hix := ix_3
  go_enter Try.func45, Try.ntmps45
  go_wp2_with fail
  refine (vecOk_impl a b _).mono ?_; rintro e w1 ⟨rfl, hb1⟩
  obtain ⟨p1, q1, r1⟩ := blk_three hb1
  obtain ⟨c0, c1, cz⟩ := p1.cells
  obtain ⟨d0, d1, dz⟩ := q1.cells
  go_wp2_with fail
  refine (vecOk_impl a d _).mono ?_; rintro e w2 ⟨rfl, hb2⟩
  have p2 := p1.keep hb2
  have q2 := q1.keep hb2
  have r2 := r1.keep hb2
  clear c0 c1 d0 d1
  obtain ⟨c0, c1, cz⟩ := p2.cells
  obtain ⟨d0, d1, dz⟩ := q2.cells
  go_wp2_with fail
  go_region_held3 (fun wx => (wx.cell? ⟨w.heap.size, 0, none⟩ = some (.int .i64 a) ∧ wx.cell? ⟨w.heap.size, 1, none⟩ = some (.int .i64 b) ∧ w.heap.size < wx.heap.size) ∧ (wx.cell? ⟨w.heap.size + 1, 0, none⟩ = some (.int .i64 a) ∧ wx.cell? ⟨w.heap.size + 1, 1, none⟩ = some (.int .i64 d) ∧ w.heap.size + 1 < wx.heap.size)) (first | (with_reducible exact keep22 hb5 (by assumption)) | (with_reducible exact keep22 hb4 (by assumption)) | (with_reducible exact keep22 hb3 (by assumption)) | exact ⟨p2.drew.cells, q2.drew.cells⟩ | exact keep_set22 (by assumption) (by omega) (by omega) | go_keep)
    (first | (go_at_call 65; refine (binaries_any _).mono ?_; rintro e w3 ⟨rfl, hb3⟩; have r3 := r2.drew.keep hb3)
           | (go_at_call 68; refine (C.out _).mono ?_; rintro e w4 ⟨rfl, hb4⟩; have r4 := r3.keep hb4)
           | (go_at_call 57; refine (V.out _).mono ?_; rintro e w5 ⟨rfl, hb5⟩; have r5 := r4.keep hb5; obtain ⟨r0, r0', rz⟩ := r5.cells; obtain ⟨f0, f1⟩ := r5.frozen))
  go_wp2_with fail
  exact bodyPost_ret (v := .tuple #[.agg #[.int .i64 a, .int .i64 (binR 3 a b d % two a.toNat)], .bool true]) (by simp [results, Try.results45, go_sem, r0, r0']) rfl
    ⟨rfl, below_set2 (g := w.heap.size + 1 + 1) (below_two (below_two (below_two (below_two (below_res3 hb1) hb2).drew hb3) hb4) hb5) (by omega) _ _⟩

set_option maxHeartbeats 1000000 in
theorem vecBin_impl_4 (a b d : Int) (w : World) (hv : vokB a b = true) (hv2 : vokB a d = true) :
    Calls Try.prog 45 #[.int .i64 4, .agg #[.int .i64 a, .int .i64 b], .agg #[.int .i64 a, .int .i64 d]] w fun e w' => e = .returned (.tuple #[.agg #[.int .i64 (binW 4 a b a d), .int .i64 (binN 4 a b a d)], .bool (binB 4 a b a d)]) ∧ Below w.heap.size w w' := by
  have e0 : binB 4 a b a d = true := by simp [binB, hv, hv2]
  have e1 : binW 4 a b a d = a := by simp [binW, e0]
  have e2 : binN 4 a b a d = binR 4 a b d % two a.toNat := by simp [binN, e0]
  rw [e0, e1, e2]; clear e0 e1 e2
  obtain ⟨h1, h2, h3, h4⟩ := vok_small hv
  have hne : (a != a) = false := by simp
  have V := Lib.hid (fun W => vec_any a b (binR 4 a b d) W (bd_4 hv hv2).1 (bd_4 hv hv2).2 h1 h2)
  have C := Lib.hid (fun W => call_4 hv hv2 W)
  have hix := ix_4
  go_enter Try.func45, Try.ntmps45
  go_wp2_with fail
  refine (vecOk_impl a b _).mono ?_; rintro e w1 ⟨rfl, hb1⟩
  obtain ⟨p1, q1, r1⟩ := blk_three hb1
  obtain ⟨c0, c1, cz⟩ := p1.cells
  obtain ⟨d0, d1, dz⟩ := q1.cells
  go_wp2_with fail
  refine (vecOk_impl a d _).mono ?_; rintro e w2 ⟨rfl, hb2⟩
  have p2 := p1.keep hb2
  have q2 := q1.keep hb2
  have r2 := r1.keep hb2
  clear c0 c1 d0 d1
  obtain ⟨c0, c1, cz⟩ := p2.cells
  obtain ⟨d0, d1, dz⟩ := q2.cells
  go_wp2_with fail
  go_region_held3 (fun wx => (wx.cell? ⟨w.heap.size, 0, none⟩ = some (.int .i64 a) ∧ wx.cell? ⟨w.heap.size, 1, none⟩ = some (.int .i64 b) ∧ w.heap.size < wx.heap.size) ∧ (wx.cell? ⟨w.heap.size + 1, 0, none⟩ = some (.int .i64 a) ∧ wx.cell? ⟨w.heap.size + 1, 1, none⟩ = some (.int .i64 d) ∧ w.heap.size + 1 < wx.heap.size)) (first | (with_reducible exact keep22 hb5 (by assumption)) | (with_reducible exact keep22 hb4 (by assumption)) | (with_reducible exact keep22 hb3 (by assumption)) | exact ⟨p2.drew.cells, q2.drew.cells⟩ | exact keep_set22 (by assumption) (by omega) (by omega) | go_keep)
    (first | (go_at_call 65; refine (binaries_any _).mono ?_; rintro e w3 ⟨rfl, hb3⟩; have r3 := r2.drew.keep hb3)
           | (go_at_call 69; refine (C.out _).mono ?_; rintro e w4 ⟨rfl, hb4⟩; have r4 := r3.keep hb4)
           | (go_at_call 57; refine (V.out _).mono ?_; rintro e w5 ⟨rfl, hb5⟩; have r5 := r4.keep hb5; obtain ⟨r0, r0', rz⟩ := r5.cells; obtain ⟨f0, f1⟩ := r5.frozen))
  go_wp2_with fail
  exact bodyPost_ret (v := .tuple #[.agg #[.int .i64 a, .int .i64 (binR 4 a b d % two a.toNat)], .bool true]) (by simp [results, Try.results45, go_sem, r0, r0']) rfl
    ⟨rfl, below_set2 (g := w.heap.size + 1 + 1) (below_two (below_two (below_two (below_two (below_res3 hb1) hb2).drew hb3) hb4) hb5) (by omega) _ _⟩

set_option maxHeartbeats 1000000 in
theorem vecBin_impl_5 (a b d : Int) (w : World) (hv : vokB a b = true) (hv2 : vokB a d = true) :
    Calls Try.prog 45 #[.int .i64 5, .agg #[.int .i64 a, .int .i64 b], .agg #[.int .i64 a, .int .i64 d]] w fun e w' => e = .returned (.tuple #[.agg #[.int .i64 (binW 5 a b a d), .int .i64 (binN 5 a b a d)], .bool (binB 5 a b a d)]) ∧ Below w.heap.size w w' := by
  have e0 : binB 5 a b a d = true := by simp [binB, hv, hv2]
  have e1 : binW 5 a b a d = a := by simp [binW, e0]
  have e2 : binN 5 a b a d = binR 5 a b d % two a.toNat := by simp [binN, e0]
  rw [e0, e1, e2]; clear e0 e1 e2
  obtain ⟨h1, h2, h3, h4⟩ := vok_small hv
  have hne : (a != a) = false := by simp
  have V := Lib.hid (fun W => vec_any a b (binR 5 a b d) W (bd_5 hv hv2).1 (bd_5 hv hv2).2 h1 h2)
  have C := Lib.hid (fun W => call_5 hv hv2 W)
  have hix := ix_5
  go_enter Try.func45, Try.ntmps45
  go_wp2_with fail
  refine (vecOk_impl a b _).mono ?_; rintro e w1 ⟨rfl, hb1⟩
  obtain ⟨p1, q1, r1⟩ := blk_three hb1
  obtain ⟨c0, c1, cz⟩ := p1.cells
  obtain ⟨d0, d1, dz⟩ := q1.cells
  go_wp2_with fail
  refine (vecOk_impl a d _).mono ?_; rintro e w2 ⟨rfl, hb2⟩
  have p2 := p1.keep hb2
  have q2 := q1.keep hb2
  have r2 := r1.keep hb2
  clear c0 c1 d0 d1
  obtain ⟨c0, c1, cz⟩ := p2.cells
  obtain ⟨d0, d1, dz⟩ := q2.cells
  go_wp2_with fail
  go_region_held3 (fun wx => (wx.cell? ⟨w.heap.size, 0, none⟩ = some (.int .i64 a) ∧ wx.cell? ⟨w.heap.size, 1, none⟩ = some (.int .i64 b) ∧ w.heap.size < wx.heap.size) ∧ (wx.cell? ⟨w.heap.size + 1, 0, none⟩ = some (.int .i64 a) ∧ wx.cell? ⟨w.heap.size + 1, 1, none⟩ = some (.int .i64 d) ∧ w.heap.size + 1 < wx.heap.size)) (first | (with_reducible exact keep22 hb5 (by assumption)) | (with_reducible exact keep22 hb4 (by assumption)) | (with_reducible exact keep22 hb3 (by assumption)) | exact ⟨p2.drew.cells, q2.drew.cells⟩ | exact keep_set22 (by assumption) (by omega) (by omega) | go_keep)
    (first | (go_at_call 65; refine (binaries_any _).mono ?_; rintro e w3 ⟨rfl, hb3⟩; have r3 := r2.drew.keep hb3)
           | (go_at_call 70; refine (C.out _).mono ?_; rintro e w4 ⟨rfl, hb4⟩; have r4 := r3.keep hb4)
           | (go_at_call 57; refine (V.out _).mono ?_; rintro e w5 ⟨rfl, hb5⟩; have r5 := r4.keep hb5; obtain ⟨r0, r0', rz⟩ := r5.cells; obtain ⟨f0, f1⟩ := r5.frozen))
  go_wp2_with fail
  exact bodyPost_ret (v := .tuple #[.agg #[.int .i64 a, .int .i64 (binR 5 a b d % two a.toNat)], .bool true]) (by simp [results, Try.results45, go_sem, r0, r0']) rfl
    ⟨rfl, below_set2 (g := w.heap.size + 1 + 1) (below_two (below_two (below_two (below_two (below_res3 hb1) hb2).drew hb3) hb4) hb5) (by omega) _ _⟩

set_option maxHeartbeats 1000000 in
theorem vecBin_impl_6 (a b d : Int) (w : World) (hv : vokB a b = true) (hv2 : vokB a d = true) :
    Calls Try.prog 45 #[.int .i64 6, .agg #[.int .i64 a, .int .i64 b], .agg #[.int .i64 a, .int .i64 d]] w fun e w' => e = .returned (.tuple #[.agg #[.int .i64 (binW 6 a b a d), .int .i64 (binN 6 a b a d)], .bool (binB 6 a b a d)]) ∧ Below w.heap.size w w' := by
  have e0 : binB 6 a b a d = true := by simp [binB, hv, hv2]
  have e1 : binW 6 a b a d = a := by simp [binW, e0]
  have e2 : binN 6 a b a d = binR 6 a b d % two a.toNat := by simp [binN, e0]
  rw [e0, e1, e2]; clear e0 e1 e2
  obtain ⟨h1, h2, h3, h4⟩ := vok_small hv
  have hne : (a != a) = false := by simp
  have V := Lib.hid (fun W => vec_any a b (binR 6 a b d) W (bd_6 hv hv2).1 (bd_6 hv hv2).2 h1 h2)
  have C := Lib.hid (fun W => call_6 hv hv2 W)
  have hix := ix_6
  go_enter Try.func45, Try.ntmps45
  go_wp2_with fail
  refine (vecOk_impl a b _).mono ?_; rintro e w1 ⟨rfl, hb1⟩
  obtain ⟨p1, q1, r1⟩ := blk_three hb1
  obtain ⟨c0, c1, cz⟩ := p1.cells
  obtain ⟨d0, d1, dz⟩ := q1.cells
  go_wp2_with fail
  refine (vecOk_impl a d _).mono ?_; rintro e w2 ⟨rfl, hb2⟩
  have p2 := p1.keep hb2
  have q2 := q1.keep hb2
  have r2 := r1.keep hb2
  clear c0 c1 d0 d1
  obtain ⟨c0, c1, cz⟩ := p2.cells
  obtain ⟨d0, d1, dz⟩ := q2.cells
  go_wp2_with fail
  go_region_held3 (fun wx => (wx.cell? ⟨w.heap.size, 0, none⟩ = some (.int .i64 a) ∧ wx.cell? ⟨w.heap.size, 1, none⟩ = some (.int .i64 b) ∧ w.heap.size < wx.heap.size) ∧ (wx.cell? ⟨w.heap.size + 1, 0, none⟩ = some (.int .i64 a) ∧ wx.cell? ⟨w.heap.size + 1, 1, none⟩ = some (.int .i64 d) ∧ w.heap.size + 1 < wx.heap.size)) (first | (with_reducible exact keep22 hb5 (by assumption)) | (with_reducible exact keep22 hb4 (by assumption)) | (with_reducible exact keep22 hb3 (by assumption)) | exact ⟨p2.drew.cells, q2.drew.cells⟩ | exact keep_set22 (by assumption) (by omega) (by omega) | go_keep)
    (first | (go_at_call 65; refine (binaries_any _).mono ?_; rintro e w3 ⟨rfl, hb3⟩; have r3 := r2.drew.keep hb3)
           | (go_at_call 71; refine (C.out _).mono ?_; rintro e w4 ⟨rfl, hb4⟩; have r4 := r3.keep hb4)
           | (go_at_call 57; refine (V.out _).mono ?_; rintro e w5 ⟨rfl, hb5⟩; have r5 := r4.keep hb5; obtain ⟨r0, r0', rz⟩ := r5.cells; obtain ⟨f0, f1⟩ := r5.frozen))
  go_wp2_with fail
  exact bodyPost_ret (v := .tuple #[.agg #[.int .i64 a, .int .i64 (binR 6 a b d % two a.toNat)], .bool true]) (by simp [results, Try.results45, go_sem, r0, r0']) rfl
    ⟨rfl, below_set2 (g := w.heap.size + 1 + 1) (below_two (below_two (below_two (below_two (below_res3 hb1) hb2).drew hb3) hb4) hb5) (by omega) _ _⟩

set_option maxHeartbeats 1000000 in
theorem vecBin_impl_7 (a b d : Int) (w : World) (hv : vokB a b = true) (hv2 : vokB a d = true) :
    Calls Try.prog 45 #[.int .i64 7, .agg #[.int .i64 a, .int .i64 b], .agg #[.int .i64 a, .int .i64 d]] w fun e w' => e = .returned (.tuple #[.agg #[.int .i64 (binW 7 a b a d), .int .i64 (binN 7 a b a d)], .bool (binB 7 a b a d)]) ∧ Below w.heap.size w w' := by
  have e0 : binB 7 a b a d = true := by simp [binB, hv, hv2]
  have e1 : binW 7 a b a d = a := by simp [binW, e0]
  have e2 : binN 7 a b a d = binR 7 a b d % two a.toNat := by simp [binN, e0]
  rw [e0, e1, e2]; clear e0 e1 e2
  obtain ⟨h1, h2, h3, h4⟩ := vok_small hv
  have hne : (a != a) = false := by simp
  have V := Lib.hid (fun W => vec_any a b (binR 7 a b d) W (bd_7 hv hv2).1 (bd_7 hv hv2).2 h1 h2)
  have C := Lib.hid (fun W => call_7 hv hv2 W)
  have hix := ix_7
  go_enter Try.func45, Try.ntmps45
  go_wp2_with fail
  refine (vecOk_impl a b _).mono ?_; rintro e w1 ⟨rfl, hb1⟩
  obtain ⟨p1, q1, r1⟩ := blk_three hb1
  obtain ⟨c0, c1, cz⟩ := p1.cells
  obtain ⟨d0, d1, dz⟩ := q1.cells
  go_wp2_with fail
  refine (vecOk_impl a d _).mono ?_; rintro e w2 ⟨rfl, hb2⟩
  have p2 := p1.keep hb2
  have q2 := q1.keep hb2
  have r2 := r1.keep hb2
  clear c0 c1 d0 d1
  obtain ⟨c0, c1, cz⟩ := p2.cells
  obtain ⟨d0, d1, dz⟩ := q2.cells
  go_wp2_with fail
  go_region_held3 (fun wx => (wx.cell? ⟨w.heap.size, 0, none⟩ = some (.int .i64 a) ∧ wx.cell? ⟨w.heap.size, 1, none⟩ = some (.int .i64 b) ∧ w.heap.size < wx.heap.size) ∧ (wx.cell? ⟨w.heap.size + 1, 0, none⟩ = some (.int .i64 a) ∧ wx.cell? ⟨w.heap.size + 1, 1, none⟩ = some (.int .i64 d) ∧ w.heap.size + 1 < wx.heap.size)) (first | (with_reducible exact keep22 hb5 (by assumption)) | (with_reducible exact keep22 hb4 (by assumption)) | (with_reducible exact keep22 hb3 (by assumption)) | exact ⟨p2.drew.cells, q2.drew.cells⟩ | exact keep_set22 (by assumption) (by omega) (by omega) | go_keep)
    (first | (go_at_call 65; refine (binaries_any _).mono ?_; rintro e w3 ⟨rfl, hb3⟩; have r3 := r2.drew.keep hb3)
           | (go_at_call 72; refine (C.out _).mono ?_; rintro e w4 ⟨rfl, hb4⟩; have r4 := r3.keep hb4)
           | (go_at_call 57; refine (V.out _).mono ?_; rintro e w5 ⟨rfl, hb5⟩; have r5 := r4.keep hb5; obtain ⟨r0, r0', rz⟩ := r5.cells; obtain ⟨f0, f1⟩ := r5.frozen))
  go_wp2_with fail
  exact bodyPost_ret (v := .tuple #[.agg #[.int .i64 a, .int .i64 (binR 7 a b d % two a.toNat)], .bool true]) (by simp [results, Try.results45, go_sem, r0, r0']) rfl
    ⟨rfl, below_set2 (g := w.heap.size + 1 + 1) (below_two (below_two (below_two (below_two (below_res3 hb1) hb2).drew hb3) hb4) hb5) (by omega) _ _⟩

set_option maxHeartbeats 1000000 in
theorem vecBin_impl_8 (a b d : Int) (w : World) (hv : vokB a b = true) (hv2 : vokB a d = true) :
    Calls Try.prog 45 #[.int .i64 8, .agg #[.int .i64 a, .int .i64 b], .agg #[.int .i64 a, .int .i64 d]] w fun e w' => e = .returned (.tuple #[.agg #[.int .i64 (binW 8 a b a d), .int .i64 (binN 8 a b a d)], .bool (binB 8 a b a d)]) ∧ Below w.heap.size w w' := by
  have e0 : binB 8 a b a d = true := by simp [binB, hv, hv2]
  have e1 : binW 8 a b a d = a := by simp [binW, e0]
  have e2 : binN 8 a b a d = binR 8 a b d % two a.toNat := by simp [binN, e0]
  rw [e0, e1, e2]; clear e0 e1 e2
  obtain ⟨h1, h2, h3, h4⟩ := vok_small hv
  have hne : (a != a) = false := by simp
  have V := Lib.hid (fun W => vec_any a b (binR 8 a b d) W (bd_8 hv hv2).1 (bd_8 hv hv2).2 h1 h2)
  have C := Lib.hid (fun W => call_8 hv hv2 W)
  have hix := ix_8
  go_enter Try.func45, Try.ntmps45
  go_wp2_with fail
  refine (vecOk_impl a b _).mono ?_; rintro e w1 ⟨rfl, hb1⟩
  obtain ⟨p1, q1, r1⟩ := blk_three hb1
  obtain ⟨c0, c1, cz⟩ := p1.cells
  obtain ⟨d0, d1, dz⟩ := q1.cells
  go_wp2_with fail
  refine (vecOk_impl a d _).mono ?_; rintro e w2 ⟨rfl, hb2⟩
  have p2 := p1.keep hb2
  have q2 := q1.keep hb2
  have r2 := r1.keep hb2
  clear c0 c1 d0 d1
  obtain ⟨c0, c1, cz⟩ := p2.cells
  obtain ⟨d0, d1, dz⟩ := q2.cells
  go_wp2_with fail
  go_region_held3 (fun wx => (wx.cell? ⟨w.heap.size, 0, none⟩ = some (.int .i64 a) ∧ wx.cell? ⟨w.heap.size, 1, none⟩ = some (.int .i64 b) ∧ w.heap.size < wx.heap.size) ∧ (wx.cell? ⟨w.heap.size + 1, 0, none⟩ = some (.int .i64 a) ∧ wx.cell? ⟨w.heap.size + 1, 1, none⟩ = some (.int .i64 d) ∧ w.heap.size + 1 < wx.heap.size)) (first | (with_reducible exact keep22 hb5 (by assumption)) | (with_reducible exact keep22 hb4 (by assumption)) | (with_reducible exact keep22 hb3 (by assumption)) | exact ⟨p2.drew.cells, q2.drew.cells⟩ | exact keep_set22 (by assumption) (by omega) (by omega) | go_keep)
    (first | (go_at_call 65; refine (binaries_any _).mono ?_; rintro e w3 ⟨rfl, hb3⟩; have r3 := r2.drew.keep hb3)
           | (go_at_call 73; refine (C.out _).mono ?_; rintro e w4 ⟨rfl, hb4⟩; have r4 := r3.keep hb4)
           | (go_at_call 57; refine (V.out _).mono ?_; rintro e w5 ⟨rfl, hb5⟩; have r5 := r4.keep hb5; obtain ⟨r0, r0', rz⟩ := r5.cells; obtain ⟨f0, f1⟩ := r5.frozen))
  go_wp2_with fail
  exact bodyPost_ret (v := .tuple #[.agg #[.int .i64 a, .int .i64 (binR 8 a b d % two a.toNat)], .bool true]) (by simp [results, Try.results45, go_sem, r0, r0']) rfl
    ⟨rfl, below_set2 (g := w.heap.size + 1 + 1) (below_two (below_two (below_two (below_two (below_res3 hb1) hb2).drew hb3) hb4) hb5) (by omega) _ _⟩

set_option maxHeartbeats 1000000 in
theorem vecBin_impl_9 (a b d : Int) (w : World) (hv : vokB a b = true) (hv2 : vokB a d = true) :
    Calls Try.prog 45 #[.int .i64 9, .agg #[.int .i64 a, .int .i64 b], .agg #[.int .i64 a, .int .i64 d]] w fun e w' => e = .returned (.tuple #[.agg #[.int .i64 (binW 9 a b a d), .int .i64 (binN 9 a b a d)], .bool (binB 9 a b a d)]) ∧ Below w.heap.size w w' := by
  have e0 : binB 9 a b a d = true := by simp [binB, hv, hv2]
  have e1 : binW 9 a b a d = a := by simp [binW, e0]
  have e2 : binN 9 a b a d = binR 9 a b d % two a.toNat := by simp [binN, e0]
  rw [e0, e1, e2]; clear e0 e1 e2
  obtain ⟨h1, h2, h3, h4⟩ := vok_small hv
  have hne : (a != a) = false := by simp
  have V := Lib.hid (fun W => vec_any a b (binR 9 a b d) W (bd_9 hv hv2).1 (bd_9 hv hv2).2 h1 h2)
  have C := Lib.hid (fun W => call_9 hv hv2 W)
  have hix := ix_9
  go_enter Try.func45, Try.ntmps45
  go_wp2_with fail
  refine (vecOk_impl a b _).mono ?_; rintro e w1 ⟨rfl, hb1⟩
  obtain ⟨p1, q1, r1⟩ := blk_three hb1
  obtain ⟨c0, c1, cz⟩ := p1.cells
  obtain ⟨d0, d1, dz⟩ := q1.cells
  go_wp2_with fail
  refine (vecOk_impl a d _).mono ?_; rintro e w2 ⟨rfl, hb2⟩
  have p2 := p1.keep hb2
  have q2 := q1.keep hb2
  have r2 := r1.keep hb2
  clear c0 c1 d0 d1
  obtain ⟨c0, c1, cz⟩ := p2.cells
  obtain ⟨d0, d1, dz⟩ := q2.cells
  go_wp2_with fail
  go_region_held3 (fun wx => (wx.cell? ⟨w.heap.size, 0, none⟩ = some (.int .i64 a) ∧ wx.cell? ⟨w.heap.size, 1, none⟩ = some (.int .i64 b) ∧ w.heap.size < wx.heap.size) ∧ (wx.cell? ⟨w.heap.size + 1, 0, none⟩ = some (.int .i64 a) ∧ wx.cell? ⟨w.heap.size + 1, 1, none⟩ = some (.int .i64 d) ∧ w.heap.size + 1 < wx.heap.size)) (first | (with_reducible exact keep22 hb5 (by assumption)) | (with_reducible exact keep22 hb4 (by assumption)) | (with_reducible exact keep22 hb3 (by assumption)) | exact ⟨p2.drew.cells, q2.drew.cells⟩ | exact keep_set22 (by assumption) (by omega) (by omega) | go_keep)
    (first | (go_at_call 65; refine (binaries_any _).mono ?_; rintro e w3 ⟨rfl, hb3⟩; have r3 := r2.drew.keep hb3)
           | (go_at_call 74; refine (C.out _).mono ?_; rintro e w4 ⟨rfl, hb4⟩; have r4 := r3.keep hb4)
           | (go_at_call 57; refine (V.out _).mono ?_; rintro e w5 ⟨rfl, hb5⟩; have r5 := r4.keep hb5; obtain ⟨r0, r0', rz⟩ := r5.cells; obtain ⟨f0, f1⟩ := r5.frozen))
  go_wp2_with fail
  exact bodyPost_ret (v := .tuple #[.agg #[.int .i64 a, .int .i64 (binR 9 a b d % two a.toNat)], .bool true]) (by simp [results, Try.results45, go_sem, r0, r0']) rfl
    ⟨rfl, below_set2 (g := w.heap.size + 1 + 1) (below_two (below_two (below_two (below_two (below_res3 hb1) hb2).drew hb3) hb4) hb5) (by omega) _ _⟩

set_option maxHeartbeats 1000000 in
theorem vecBin_impl_10 (a b d : Int) (w : World) (hv : vokB a b = true) (hv2 : vokB a d = true) :
    Calls Try.prog 45 #[.int .i64 10, .agg #[.int .i64 a, .int .i64 b], .agg #[.int .i64 a, .int .i64 d]] w fun e w' => e = .returned (.tuple #[.agg #[.int .i64 (binW 10 a b a d), .int .i64 (binN 10 a b a d)], .bool (binB 10 a b a d)]) ∧ Below w.heap.size w w' := by
  have e0 : binB 10 a b a d = true := by simp [binB, hv, hv2]
  have e1 : binW 10 a b a d = a := by simp [binW, e0]
  have e2 : binN 10 a b a d = binR 10 a b d % two a.toNat := by simp [binN, e0]
  rw [e0, e1, e2]; clear e0 e1 e2
  obtain ⟨h1, h2, h3, h4⟩ := vok_small hv
  have hne : (a != a) = false := by simp
  have V := Lib.hid (fun W => vec_any a b (binR 10 a b d) W (bd_10 hv hv2).1 (bd_10 hv hv2).2 h1 h2)
  have C := Lib.hid (fun W => call_10 hv hv2 W)
  have hix := ix_10
  go_enter Try.func45, Try.ntmps45
  go_wp2_with fail
  refine (vecOk_impl a b _).mono ?_; rintro e w1 ⟨rfl, hb1⟩
  obtain ⟨p1, q1, r1⟩ := blk_three hb1
  obtain ⟨c0, c1, cz⟩ := p1.cells
  obtain ⟨d0, d1, dz⟩ := q1.cells
  go_wp2_with fail
  refine (vecOk_impl a d _).mono ?_; rintro e w2 ⟨rfl, hb2⟩
  have p2 := p1.keep hb2
  have q2 := q1.keep hb2
  have r2 := r1.keep hb2
  clear c0 c1 d0 d1
  obtain ⟨c0, c1, cz⟩ := p2.cells
  obtain ⟨d0, d1, dz⟩ := q2.cells
  go_wp2_with fail
  go_region_held3 (fun wx => (wx.cell? ⟨w.heap.size, 0, none⟩ = some (.int .i64 a) ∧ wx.cell? ⟨w.heap.size, 1, none⟩ = some (.int .i64 b) ∧ w.heap.size < wx.heap.size) ∧ (wx.cell? ⟨w.heap.size + 1, 0, none⟩ = some (.int .i64 a) ∧ wx.cell? ⟨w.heap.size + 1, 1, none⟩ = some (.int .i64 d) ∧ w.heap.size + 1 < wx.heap.size)) (first | (with_reducible exact keep22 hb5 (by assumption)) | (with_reducible exact keep22 hb4 (by assumption)) | (with_reducible exact keep22 hb3 (by assumption)) | exact ⟨p2.drew.cells, q2.drew.cells⟩ | exact keep_set22 (by assumption) (by omega) (by omega) | go_keep)
    (first | (go_at_call 65; refine (binaries_any _).mono ?_; rintro e w3 ⟨rfl, hb3⟩; have r3 := r2.drew.keep hb3)
           | (go_at_call 76; refine (C.out _).mono ?_; rintro e w4 ⟨rfl, hb4⟩; have r4 := r3.keep hb4)
           | (go_at_call 57; refine (V.out _).mono ?_; rintro e w5 ⟨rfl, hb5⟩; have r5 := r4.keep hb5; obtain ⟨r0, r0', rz⟩ := r5.cells; obtain ⟨f0, f1⟩ := r5.frozen))
  go_wp2_with fail
  exact bodyPost_ret (v := .tuple #[.agg #[.int .i64 a, .int .i64 (binR 10 a b d % two a.toNat)], .bool true]) (by simp [results, Try.results45, go_sem, r0, r0']) rfl
    ⟨rfl, below_set2 (g := w.heap.size + 1 + 1) (below_two (below_two (below_two (below_two (below_res3 hb1) hb2).drew hb3) hb4) hb5) (by omega) _ _⟩

set_option maxHeartbeats 1000000 in
theorem vecBin_impl_11 (a b d : Int) (w : World) (hv : vokB a b = true) (hv2 : vokB a d = true) :
    Calls Try.prog 45 #[.int .i64 11, .agg #[.int .i64 a, .int .i64 b], .agg #[.int .i64 a, .int .i64 d]] w fun e w' => e = .returned (.tuple #[.agg #[.int .i64 (binW 11 a b a d), .int .i64 (binN 11 a b a d)], .bool (binB 11 a b a d)]) ∧ Below w.heap.size w w' := by
  have e0 : binB 11 a b a d = true := by simp [binB, hv, hv2]
  have e1 : binW 11 a b a d = a := by simp [binW, e0]
  have e2 : binN 11 a b a d = binR 11 a b d % two a.toNat := by simp [binN, e0]
  rw [e0, e1, e2]; clear e0 e1 e2
  obtain ⟨h1, h2, h3, h4⟩ := vok_small hv
  have hne : (a != a) = false := by simp
  have V := Lib.hid (fun W => vec_any a b (binR 11 a b d) W (bd_11 hv hv2).1 (bd_11 hv hv2).2 h1 h2)
  have C := Lib.hid (fun W => call_11 hv hv2 W)
  have hix := ix_11
  go_enter Try.func45, Try.ntmps45
  go_wp2_with fail
  refine (vecOk_impl a b _).mono ?_; rintro e w1 ⟨rfl, hb1⟩
  obtain ⟨p1, q1, r1⟩ := blk_three hb1
  obtain ⟨c0, c1, cz⟩ := p1.cells
  obtain ⟨d0, d1, dz⟩ := q1.cells
  go_wp2_with fail
  refine (vecOk_impl a d _).mono ?_; rintro e w2 ⟨rfl, hb2⟩
  have p2 := p1.keep hb2
  have q2 := q1.keep hb2
  have r2 := r1.keep hb2
  clear c0 c1 d0 d1
  obtain ⟨c0, c1, cz⟩ := p2.cells
  obtain ⟨d0, d1, dz⟩ := q2.cells
  go_wp2_with fail
  go_region_held3 (fun wx => (wx.cell? ⟨w.heap.size, 0, none⟩ = some (.int .i64 a) ∧ wx.cell? ⟨w.heap.size, 1, none⟩ = some (.int .i64 b) ∧ w.heap.size < wx.heap.size) ∧ (wx.cell? ⟨w.heap.size + 1, 0, none⟩ = some (.int .i64 a) ∧ wx.cell? ⟨w.heap.size + 1, 1, none⟩ = some (.int .i64 d) ∧ w.heap.size + 1 < wx.heap.size)) (first | (with_reducible exact keep22 hb5 (by assumption)) | (with_reducible exact keep22 hb4 (by assumption)) | (with_reducible exact keep22 hb3 (by assumption)) | exact ⟨p2.drew.cells, q2.drew.cells⟩ | exact keep_set22 (by assumption) (by omega) (by omega) | go_keep)
    (first | (go_at_call 65; refine (binaries_any _).mono ?_; rintro e w3 ⟨rfl, hb3⟩; have r3 := r2.drew.keep hb3)
           | (go_at_call 77; refine (C.out _).mono ?_; rintro e w4 ⟨rfl, hb4⟩; have r4 := r3.keep hb4)
           | (go_at_call 57; refine (V.out _).mono ?_; rintro e w5 ⟨rfl, hb5⟩; have r5 := r4.keep hb5; obtain ⟨r0, r0', rz⟩ := r5.cells; obtain ⟨f0, f1⟩ := r5.frozen))
  go_wp2_with fail
  exact bodyPost_ret (v := .tuple #[.agg #[.int .i64 a, .int .i64 (binR 11 a b d % two a.toNat)], .bool true]) (by simp [results, Try.results45, go_sem, r0, r0']) rfl
    ⟨rfl, below_set2 (g := w.heap.size + 1 + 1) (below_two (below_two (below_two (below_two (below_res3 hb1) hb2).drew hb3) hb4) hb5) (by omega) _ _⟩

set_option maxHeartbeats 1000000 in
theorem vecBin_impl_12 (a b d : Int) (w : World) (hv : vokB a b = true) (hv2 : vokB a d = true) :
    Calls Try.prog 45 #[.int .i64 12, .agg #[.int .i64 a, .int .i64 b], .agg #[.int .i64 a, .int .i64 d]] w fun e w' => e = .returned (.tuple #[.agg #[.int .i64 (binW 12 a b a d), .int .i64 (binN 12 a b a d)], .bool (binB 12 a b a d)]) ∧ Below w.heap.size w w' := by
  have e0 : binB 12 a b a d = true := by simp [binB, hv, hv2]
  have e1 : binW 12 a b a d = a := by simp [binW, e0]
  have e2 : binN 12 a b a d = binR 12 a b d % two a.toNat := by simp [binN, e0]
  rw [e0, e1, e2]; clear e0 e1 e2
  obtain ⟨h1, h2, h3, h4⟩ := vok_small hv
  have hne : (a != a) = false := by simp
  have V := Lib.hid (fun W => vec_any a b (binR 12 a b d) W (bd_12 hv hv2).1 (bd_12 hv hv2).2 h1 h2)
  have C := Lib.hid (fun W => call_12 hv hv2 W)
  have hix := ix_12
  go_enter Try.func45, Try.ntmps45
  go_wp2_with fail
  refine (vecOk_impl a b _).mono ?_; rintro e w1 ⟨rfl, hb1⟩
  obtain ⟨p1, q1, r1⟩ := blk_three hb1
  obtain ⟨c0, c1, cz⟩ := p1.cells
  obtain ⟨d0, d1, dz⟩ := q1.cells
  go_wp2_with fail
  refine (vecOk_impl a d _).mono ?_; rintro e w2 ⟨rfl, hb2⟩
  have p2 := p1.keep hb2
  have q2 := q1.keep hb2
  have r2 := r1.keep hb2
  clear c0 c1 d0 d1
  obtain ⟨c0, c1, cz⟩ := p2.cells
  obtain ⟨d0, d1, dz⟩ := q2.cells
  go_wp2_with fail
  go_region_held3 (fun wx => (wx.cell? ⟨w.heap.size, 0, none⟩ = some (.int .i64 a) ∧ wx.cell? ⟨w.heap.size, 1, none⟩ = some (.int .i64 b) ∧ w.heap.size < wx.heap.size) ∧ (wx.cell? ⟨w.heap.size + 1, 0, none⟩ = some (.int .i64 a) ∧ wx.cell? ⟨w.heap.size + 1, 1, none⟩ = some (.int .i64 d) ∧ w.heap.size + 1 < wx.heap.size)) (first | (with_reducible exact keep22 hb5 (by assumption)) | (with_reducible exact keep22 hb4 (by assumption)) | (with_reducible exact keep22 hb3 (by assumption)) | exact ⟨p2.drew.cells, q2.drew.cells⟩ | exact keep_set22 (by assumption) (by omega) (by omega) | go_keep)
    (first | (go_at_call 65; refine (binaries_any _).mono ?_; rintro e w3 ⟨rfl, hb3⟩; have r3 := r2.drew.keep hb3)
           | (go_at_call 78; refine (C.out _).mono ?_; rintro e w4 ⟨rfl, hb4⟩; have r4 := r3.keep hb4)
           | (go_at_call 57; refine (V.out _).mono ?_; rintro e w5 ⟨rfl, hb5⟩; have r5 := r4.keep hb5; obtain ⟨r0, r0', rz⟩ := r5.cells; obtain ⟨f0, f1⟩ := r5.frozen))
  go_wp2_with fail
  exact bodyPost_ret (v := .tuple #[.agg #[.int .i64 a, .int .i64 (binR 12 a b d % two a.toNat)], .bool true]) (by simp [results, Try.results45, go_sem, r0, r0']) rfl
    ⟨rfl, below_set2 (g := w.heap.size + 1 + 1) (below_two (below_two (below_two (below_two (below_res3 hb1) hb2).drew hb3) hb4) hb5) (by omega) _ _⟩

set_option maxHeartbeats 1000000 in
theorem vecBin_impl_13 (a b d : Int) (w : World) (hv : vokB a b = true) (hv2 : vokB a d = true) :
    Calls Try.prog 45 #[.int .i64 13, .agg #[.int .i64 a, .int .i64 b], .agg #[.int .i64 a, .int .i64 d]] w fun e w' => e = .returned (.tuple #[.agg #[.int .i64 (binW 13 a b a d), .int .i64 (binN 13 a b a d)], .bool (binB 13 a b a d)]) ∧ Below w.heap.size w w' := by
  have e0 : binB 13 a b a d = true := by simp [binB, hv, hv2]
  have e1 : binW 13 a b a d = a := by simp [binW, e0]
  have e2 : binN 13 a b a d = binR 13 a b d % two a.toNat := by simp [binN, e0]
  rw [e0, e1, e2]; clear e0 e1 e2
  obtain ⟨h1, h2, h3, h4⟩ := vok_small hv
  have hne : (a != a) = false := by simp
  have V := Lib.hid (fun W => vec_any a b (binR 13 a b d) W (bd_13 hv hv2).1 (bd_13 hv hv2).2 h1 h2)
  have C := Lib.hid (fun W => call_13 hv hv2 W)
  have hix := ix_13
  go_enter Try.func45, Try.ntmps45
  go_wp2_with fail
  refine (vecOk_impl a b _).mono ?_; rintro e w1 ⟨rfl, hb1⟩
  obtain ⟨p1, q1, r1⟩ := blk_three hb1
  obtain ⟨c0, c1, cz⟩ := p1.cells
  obtain ⟨d0, d1, dz⟩ := q1.cells
  go_wp2_with fail
  refine (vecOk_impl a d _).mono ?_; rintro e w2 ⟨rfl, hb2⟩
  have p2 := p1.keep hb2
  have q2 := q1.keep hb2
  have r2 := r1.keep hb2
  clear c0 c1 d0 d1
  obtain ⟨c0, c1, cz⟩ := p2.cells
  obtain ⟨d0, d1, dz⟩ := q2.cells
  go_wp2_with fail
  go_region_held3 (fun wx => (wx.cell? ⟨w.heap.size, 0, none⟩ = some (.int .i64 a) ∧ wx.cell? ⟨w.heap.size, 1, none⟩ = some (.int .i64 b) ∧ w.heap.size < wx.heap.size) ∧ (wx.cell? ⟨w.heap.size + 1, 0, none⟩ = some (.int .i64 a) ∧ wx.cell? ⟨w.heap.size + 1, 1, none⟩ = some (.int .i64 d) ∧ w.heap.size + 1 < wx.heap.size)) (first | (with_reducible exact keep22 hb5 (by assumption)) | (with_reducible exact keep22 hb4 (by assumption)) | (with_reducible exact keep22 hb3 (by assumption)) | exact ⟨p2.drew.cells, q2.drew.cells⟩ | exact keep_set22 (by assumption) (by omega) (by omega) | go_keep)
    (first | (go_at_call 65; refine (binaries_any _).mono ?_; rintro e w3 ⟨rfl, hb3⟩; have r3 := r2.drew.keep hb3)
           | (go_at_call 79; refine (C.out _).mono ?_; rintro e w4 ⟨rfl, hb4⟩; have r4 := r3.keep hb4)
           | (go_at_call 57; refine (V.out _).mono ?_; rintro e w5 ⟨rfl, hb5⟩; have r5 := r4.keep hb5; obtain ⟨r0, r0', rz⟩ := r5.cells; obtain ⟨f0, f1⟩ := r5.frozen))
  go_wp2_with fail
  exact bodyPost_ret (v := .tuple #[.agg #[.int .i64 a, .int .i64 (binR 13 a b d % two a.toNat)], .bool true]) (by simp [results, Try.results45, go_sem, r0, r0']) rfl
    ⟨rfl, below_set2 (g := w.heap.size + 1 + 1) (below_two (below_two (below_two (below_two (below_res3 hb1) hb2).drew hb3) hb4) hb5) (by omega) _ _⟩
end Go.Proofs.Ytpnpjdebmakamaa
