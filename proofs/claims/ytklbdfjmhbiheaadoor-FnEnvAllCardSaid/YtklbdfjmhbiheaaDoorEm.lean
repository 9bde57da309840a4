/- EnvMany of the program and of the reference. The conditions stand in each statement. -/
import Derived.Test.YtklbdfjmhbiheaaDoorEi
import Derived.Test.YtklbdfjmhbiheaaDoorTv
namespace Go.Proofs.YtklbdfjmhbiheaaDoor
open Go.RowKit

/-- how many environments -/
noncomputable def manyV (ds : List Dc) : Int := if declV ds = true then two (bitsTo ds ds.length).toNat else 0
theorem two_add (a b : Nat) : two a * two b = two (a + b) := by unfold two; rw [Nat.pow_add]; push_cast; rfl
theorem bitsTo_mono {ds : List Dc} {k n : Nat} (h : ∀ i, i < n → OkAt ds i) (hk : k ≤ n) : bitsTo ds k ≤ bitsTo ds n := by
  induction n with
  | zero => rw [show k = 0 by omega]; exact Int.le_refl _
  | succ n ih =>
    rcases Nat.lt_or_ge n k with h1 | h1
    · rw [show k = n + 1 by omega]; exact Int.le_refl _
    · have h2 := ih (fun i hi => h i (by omega)) h1
      obtain ⟨_, h3, _⟩ := h n (by omega)
      show _ ≤ bitsTo ds n + _
      omega
theorem drew_back {w w0 : World} {n : Nat} (h : w = w0.drewN n) : Below w0.heap.size w0 w := by rw [h]; exact below_drewN (Below.refl _ _) n

set_option maxHeartbeats 2000000 in
theorem envMany_spec (v : Value) (ds : List Dc) (w : World) (h : Decls w v ds) :
    Calls Tryd.prog 14 #[v] w fun e w' => e = .returned (.int .i64 (manyV ds)) ∧ ∃ n, w' = w.drewN n := by
  have C1 := declOk_spec v ds w h
  obtain ⟨a, cap, rfl, hr, _⟩ := h
  cases hd : declV ds
  · rw [hd] at C1
    have e : manyV ds = 0 := by unfold manyV; rw [hd]; rfl
    rw [e]
    have C := Lib.hid C1
    clear C1 hr hd e
    go_enter Tryd.func14, Tryd.ntmps14
    go_wp2_with fail
    refine C.out.mono ?_; rintro e w1 ⟨rfl, m, rfl⟩
    go_wp2_with fail
    go_ret
    exact ⟨rfl, m, rfl⟩
  · rw [hd] at C1
    have e : manyV ds = two (bitsTo ds ds.length).toNat := by unfold manyV; rw [hd]; rfl
    rw [e]
    have C := Lib.hid C1
    obtain ⟨h4, hok, h8⟩ := declV_true.1 hd
    have HOK := Lib.hid hok
    have H8 := Lib.hid h8
    clear C1 hd e hok h8
    go_enter Tryd.func14, Tryd.ntmps14
    go_wp2_with fail
    refine C.out.mono ?_; rintro e w1 ⟨rfl, m, rfl⟩
    clear C
    go_wp2_with fail
    go_loopw [4, 3] (fun i q wr => ∃ (k : Nat) (b : Int), k ≤ ds.length ∧ i = .int .i64 k ∧ q = .int .i64 b ∧ Hid (b = two (bitsTo ds k).toNat) ∧ wr = w.drewN m) (fun i _ _ => ds.length - (intOf i).toNat)
    case atStart => exact ⟨0, 1, Nat.zero_le _, rfl, rfl, rfl, rfl⟩
    case round =>
      obtain ⟨k, b, hk, rfl, rfl, hb, rfl⟩ := hrel
      by_cases hlt : k < ds.length
      · obtain ⟨bb, off, rfl, _, c0, c1⟩ := hr.duo hlt
        have hlt2 : (k : Int) < (ds.length : Int) := by omega
        obtain ⟨x, hx⟩ : ∃ x, x = ds.getD k dz := ⟨_, rfl⟩
        obtain ⟨_, x1, x4, _⟩ := HOK.out k hlt
        have hbb := (bitsTo_bound (ds := ds) (k := k) fun i hi => HOK.out i (by omega)).1
        have hb2 : Hid (b * two x.2.toNat = two (bitsTo ds (k + 1)).toNat) := by
          show b * two x.2.toNat = _
          rw [hb.out, two_add, hx]
          congr 1
          show _ = (bitsTo ds k + _).toNat
          omega
        have hm : two (bitsTo ds (k + 1)).toNat ≤ two 8 := two_le (by have := bitsTo_mono HOK.out (show k + 1 ≤ ds.length by omega); have := H8.out; omega)
        have hm0 := two_pos (bitsTo ds (k + 1)).toNat
        rw [← hx] at c0 c1 x1 x4
        obtain ⟨M, hMe⟩ : ∃ M, M = two (bitsTo ds (k + 1)).toNat := ⟨_, rfl⟩
        rw [← hMe] at hb2 hm hm0
        have HM := Lib.hid hMe
        clear hMe
        have T := fun w => l1Two_any x.2 w (by omega)
        generalize two x.2.toNat = y at *
        have hM : IntKind.i64.wrap (b * y) = M := by rw [hb2.out]; exact IntWalk.i64_in _ (by have : two 8 = 256 := rfl; omega)
        have T2 := Lib.hid T
        clear T hx hr hb hm hm0 hbb
        go_wp2_with fail
        refine (T2.out _).mono ?_; rintro e w2 ⟨rfl, rfl⟩
        go_wp2_with fail
        exact ⟨⟨k + 1, M, by omega, by go_num, rfl, HM.out, trivial⟩, by simp [intOf]; omega⟩
      · obtain rfl : k = ds.length := by omega
        have e := hb.out
        subst e
        clear hb hr
        go_wp2_with fail
        go_ret
        exact ⟨rfl, m, rfl⟩

set_option maxHeartbeats 2000000 in
theorem envMany_impl (v : Value) (ds : List Dc) (w : World) (h : Decls w v ds) :
    Calls Tryd.prog 15 #[v] w fun e w' => e = .returned (.int .i64 (manyV ds)) ∧ Below w.heap.size w w' := by
  have C1 := declOk_impl v ds w h
  obtain ⟨a, cap, rfl, hr, _⟩ := h
  cases hd : declV ds
  · rw [hd] at C1
    have e : manyV ds = 0 := by unfold manyV; rw [hd]; rfl
    rw [e]
    have C := Lib.hid C1
    clear C1 hr hd e
    go_enter Tryd.func15, Tryd.ntmps15
    go_wp2_with fail
    refine C.out.mono ?_; rintro e w1 ⟨rfl, hb1⟩
    go_wp2_with fail
    go_ret
    exact ⟨rfl, hb1⟩
  · rw [hd] at C1
    have e : manyV ds = two (bitsTo ds ds.length).toNat := by unfold manyV; rw [hd]; rfl
    rw [e]
    have C := Lib.hid C1
    obtain ⟨h4, hok, h8⟩ := declV_true.1 hd
    have HOK := Lib.hid hok
    have H8 := Lib.hid h8
    clear C1 hd e hok h8
    go_enter Tryd.func15, Tryd.ntmps15
    go_wp2_with fail
    refine C.out.mono ?_; rintro e w1 ⟨rfl, hb1⟩
    clear C
    go_wp2_with fail
    go_loopw [11, 3] (fun i q wr => ∃ (k : Nat) (b : Int), k ≤ ds.length ∧ i = .int .i64 k ∧ q = .int .i64 b ∧ 0 ≤ b ∧ b ≤ 8 ∧ Hid (b = bitsTo ds k) ∧ Below w.heap.size w wr) (fun i _ _ => ds.length - (intOf i).toNat)
    case atStart => exact ⟨0, 0, Nat.zero_le _, rfl, rfl, by omega, by omega, rfl, hb1⟩
    case round =>
      clear hb1
      obtain ⟨k, b, hk, rfl, rfl, b0, b8, hb, B⟩ := hrel
      by_cases hlt : k < ds.length
      · obtain ⟨bb, off, rfl, _, c0, c1⟩ := (hr.below B).duo hlt
        have hlt2 : (k : Int) < (ds.length : Int) := by omega
        obtain ⟨x, hx⟩ : ∃ x, x = ds.getD k dz := ⟨_, rfl⟩
        obtain ⟨_, x1, x4, _⟩ := HOK.out k hlt
        have hb2 : bitsTo ds (k + 1) = b + x.2 := by show bitsTo ds k + _ = _; rw [← hb.out, hx]
        have h8 := bitsTo_mono HOK.out (show k + 1 ≤ ds.length by omega)
        have h88 := H8.out
        rw [hb2] at h8
        have hb3 : b + x.2 ≤ 8 := by omega
        have HB := Lib.hid hb2.symm
        rw [← hx] at c0 c1 x1 x4
        have X := blk_new wr (.string x.1) (.int .i64 x.2) 39
        have BX := below_step B (.cells #[.string x.1, .int .i64 x.2] 39)
        obtain ⟨X0, X1, X2⟩ := X.cells
        clear hx hr hb h8 h88 hb2 X B
        go_wp2_with fail
        exact ⟨⟨k + 1, b + x.2, by omega, by go_num, rfl, by omega, by omega, HB, BX⟩, by simp [intOf]; omega⟩
      · obtain rfl : k = ds.length := by omega
        clear hr
        have h9 : b = 0 ∨ b = 1 ∨ b = 2 ∨ b = 3 ∨ b = 4 ∨ b = 5 ∨ b = 6 ∨ b = 7 ∨ b = 8 := by omega
        rcases h9 with rfl | rfl | rfl | rfl | rfl | rfl | rfl | rfl | rfl <;>
          (go_wp2_with fail
           go_ret
           exact ⟨by rw [← hb.out]; rfl, B⟩)
end Go.Proofs.YtklbdfjmhbiheaaDoor
