/- The walk of FnEnvAll: for every argument the law returns true and leaves alone what was there. -/
import Derived.Test.YtklbdfjmhbiheaaDoorDy
namespace Go.Proofs.YtklbdfjmhbiheaaDoor
open Go.RowKit

theorem pow_part {a m n e M : Nat} (h : a * 2 ^ n + e ≤ M) (hm : m ≤ n) : a * 2 ^ m ≤ M := by
  have : a * 2 ^ m ≤ a * 2 ^ n := Nat.mul_le_mul_left a (Nat.pow_le_pow_right (by omega) hm)
  omega
theorem Decls.rowE {w : World} {a : Option Addr} {n cap : Nat} {ds : List Dc} (h : Decls w (.slice a n cap) ds) : RowS w a ds.length cap 2 (dcell ds) := by
  obtain ⟨_, _, e, hr, _⟩ := h
  cases e
  exact hr
/-- what the walk wants of the three kinds of numbers -/
theorem env_kinds (ds : List Dc) (k : Int) :
    (k < 0 ∧ envB ds k = false ∧ envL ds k = []) ∨ (0 ≤ k ∧ manyV ds ≤ k ∧ envB ds k = false ∧ envL ds k = []) ∨
    ∃ (kn : Nat) (B d : Nat → Nat), k = kn ∧ kn < manyV ds ∧ kn ≤ 256 ∧ envB ds k = true ∧ (envL ds k).length = ds.length ∧ ds.length ≤ 4 ∧ envV ds (envL ds k) = true ∧ B 0 = 0 ∧ B ds.length = kn ∧
      ∀ i, i < ds.length → (envL ds k).getD i 0 = (d i : Int) ∧ B i * 2 ^ (ds.getD i dz).2.toNat + d i = B (i + 1) ∧ B (i + 1) ≤ 256 ∧ 1 ≤ (ds.getD i dz).2 ∧ (ds.getD i dz).2 ≤ 4 ∧ d i ≤ 256 := by
  by_cases c0 : k < 0
  · exact .inl ⟨c0, envB_false (.inl c0)⟩
  by_cases c1 : manyV ds ≤ k
  · exact .inr (.inl ⟨by omega, c1, envB_false (.inr c1)⟩)
  · obtain ⟨h2, h3, h4, h5⟩ := envB_true (ds := ds) (k := k) (by omega) (by omega)
    have hm := many_le h3
    have hle : k.toNat ≤ 256 := by omega
    refine .inr (.inr ⟨k.toNat, fun i => k.toNat / 2 ^ suf ds i, fun i => dig ds k.toNat i, by omega, by omega, hle, h2, by rw [h5, digs_len], h3.1, by rw [h5]; exact envV_true.2 (digs_in h3 _), back_start h4, back_end ds _, fun i hi => ?_⟩)
    obtain ⟨_, h6, h7, _⟩ := h3.2.1 i hi
    have hs := back_step h3.2.1 hi k.toNat
    have hd : k.toNat / 2 ^ suf ds (i + 1) ≤ k.toNat := Nat.div_le_self _ _
    have hde : dig ds k.toNat i ≤ k.toNat / 2 ^ suf ds (i + 1) := by rw [← hs]; exact Nat.le_add_left _ _
    exact ⟨by rw [h5]; exact digs_get ds _ hi, hs, Nat.le_trans hd hle, h6, h7, Nat.le_trans hde (Nat.le_trans hd hle)⟩

set_option linter.unusedVariables false in
set_option maxRecDepth 100000 in
set_option maxHeartbeats 8000000 in
theorem walk_FnEnvAll (v : Value) {w : World} (h : BytesIn w v) :
    Calls Tryd.prog 7 #[v] w fun e w' => e = .returned (.bool true) ∧ Below w.heap.size w w' := by
  obtain ⟨a0, len, cp, rfl⟩ : ∃ a len cap, v = .slice a len cap := by
    rcases h with ⟨a, c, rfl⟩ | ⟨b, off, len, cap, rfl, _⟩ <;> exact ⟨_, _, _, rfl⟩
  by_cases hb : (1048576 : Int) < len
  · go_enter Tryd.func7, Tryd.ntmps7
    go_wp2_with fail
    go_ret
    exact ⟨rfl, Below.refl _ _⟩
  go_enter Tryd.func7, Tryd.ntmps7
  go_wp2_with fail
  refine (drawEnvAll_any _ _ h).mono ?_
  rintro e w1 ⟨_, rfl, ⟨s, ds, k, rfl, D, l6⟩, K⟩
  obtain ⟨a1, c1, rfl, _, _⟩ := D.form
  have T := env_kinds ds k
  have Fs0 := fun w' s (h : Decls w' s ds) => envAll_spec s ds k w' h
  have Fi0 := fun w' s (h : Decls w' s ds) => envAll_impl s ds k w' h
  have MS0 := fun w' s (h : Decls w' s ds) => envMany_spec s ds w' h
  have MI0 := fun w' s (h : Decls w' s ds) => envMany_impl s ds w' h
  have OK0 := fun w' s y (h : Decls w' s ds) (h' : Ints w' y (envL ds k)) => envOk_impl s y ds _ w' h h'
  unfold GaveE at Fs0 Fi0
  generalize envL ds k = r at *
  generalize envB ds k = z at *
  generalize manyV ds = M at *
  have WP : Hid (∀ w' x y, Ints w' x r → Ints w' y r → Calls Tryd.prog 24 #[x, y] w' fun e w2 => e = .returned (.bool true) ∧ Below w'.heap.size w' w2) := fun w' x y h h' => (wpInts_any x y r r w' h h').mono (by rintro e w2 ⟨rfl, n, rfl⟩; exact ⟨by simp, below_drewN (Below.refl _ _) n⟩)
  have Fs := Lib.hid Fs0
  have Fi := Lib.hid Fi0
  have MS := Lib.hid MS0
  have MI := Lib.hid MI0
  have OK := Lib.hid OK0
  clear Fs0 Fi0 MS0 MI0 OK0
  replace T := Lib.hid T
  go_wp2_with fail
  refine (Fi.out _ _ D).mono ?_; rintro e w2 ⟨y2, rfl, u2, hb⟩
  obtain ⟨p2, e2, rfl, _⟩ := Row.of_own u2
  have I2 := Ints.of_own u2
  replace D := D.below hb
  replace K := below_two K hb
  clear hb u2 Fi
  go_wp2_with fail
  refine (Fs.out _ _ D).mono ?_; rintro e w3 ⟨y3, rfl, u3, hb⟩
  obtain ⟨p3, e3, rfl, _⟩ := Row.of_own u3
  have I3 := Ints.of_own u3
  replace D := D.below hb
  replace I2 := I2.below hb
  replace K := below_two K hb
  clear hb u3 Fs
  go_wp2_with fail
  refine (MI.out _ _ D).mono ?_; rintro e w4 ⟨rfl, hb⟩
  replace D := D.below hb
  replace I2 := I2.below hb
  replace I3 := I3.below hb
  replace K := below_two K hb
  clear hb MI
  have hzz : (z != z) = false := by simp
  have hmm : (M != M) = false := by simp
  go_wp2_with fail
  refine (WP.out _ _ _ I2 I3).mono ?_; rintro e w5 ⟨rfl, hb⟩
  replace D := D.below hb
  replace I2 := I2.below hb
  replace K := below_two K hb
  clear hb WP I3
  go_wp2_with fail
  refine (MS.out _ _ D).mono ?_; rintro e w6 ⟨rfl, nd, hd⟩
  have hb := drew_back hd
  replace D := D.below hb
  replace I2 := I2.below hb
  replace K := below_two K hb
  clear hb MS hd
  rcases T.out with ⟨c0, rfl, rfl⟩ | ⟨c0, c1, rfl, rfl⟩ | ⟨kn, B, d, rfl, km, k256, rfl, hrl, h4, hv, hB0, hBn, HB⟩
  · clear T OK I2
    have d0 : decide ((0 : Int) ≤ k) = false := by simpa using c0
    go_wp2_with fail
    go_ret
    exact ⟨rfl, K⟩
  · clear T OK I2
    have d0 : decide ((0 : Int) ≤ k) = true := by simpa using c0
    have d1 : decide (k < M) = false := by simpa using c1
    go_wp2_with fail
    go_ret
    exact ⟨rfl, K⟩
  · clear T
    replace hB0 := Lib.hid hB0
    replace hBn := Lib.hid hBn
    replace HB := Lib.hid HB
    replace hv := Lib.hid hv
    have hk0 : (0 : Int) ≤ (kn : Int) := by omega
    have d0 : decide ((0 : Int) ≤ (kn : Int)) = true := decide_eq_true hk0
    have d1 : decide ((kn : Int) < M) = true := by simpa using km
    have HR := I2
    obtain ⟨_, _, eI, _, _, hrow⟩ := HR
    cases eI
    replace hrow := Lib.hid hrow
    have HD := Lib.hid D
    have HI := Lib.hid I2
    have HL := Lib.hid hrl
    clear D I2 hrl
    go_wp2_with fail
    go_loopw [10, 11] (fun q i wr => ∃ j : Nat, j ≤ ds.length ∧ i = .int .i64 j ∧ q = .int .i64 (B j) ∧ wr = w6) (fun _ i _ => ds.length - (intOf i).toNat)
    case atStart => exact ⟨0, Nat.zero_le _, rfl, by rw [hB0.out]; rfl, rfl⟩
    case round =>
      obtain ⟨j, hj, rfl, rfl, rfl⟩ := hrel
      by_cases hjl : j < ds.length
      · obtain ⟨db, dof, e9, _, _, r1⟩ := (HD.out.rowE.duo) hjl
        cases e9
        obtain ⟨g1, g2, g3, g4, g5, g6⟩ := HB.out j hjl
        rcases hrow.out with h9 | ⟨b, off, e8, _, hc⟩
        · exfalso; have := HL.out; omega
        cases e8
        have r2 := hc j (by have := HL.out; omega)
        rw [g1] at r2
        obtain ⟨x, hx⟩ : ∃ x : Nat, (ds.getD j dz).2 = (x : Int) := ⟨(ds.getD j dz).2.toNat, by omega⟩
        rw [hx] at r1 g2 g4 g5
        rw [Int.toNat_natCast] at g2
        have G2 := Lib.hid g2
        have hj0 : (0 : Int) ≤ (j : Int) := by omega
        have hj1 : (j : Int) < (ds.length : Int) := by omega
        have hj2 : (j : Int) < (r.length : Int) := by have := HL.out; omega
        have hx4 : x ≤ 4 := by omega
        have g3' : B (j + 1) ≤ 256 := g3
        clear g1 g2 g4 g5 hc hx g3
        go_wp2_with fail
        go_loopw [10, 12] (fun q t wz => ∃ m : Nat, m ≤ x ∧ t = .int .i64 m ∧ q = .int .i64 ((B j * 2 ^ m : Nat) : Int) ∧ wz = wr) (fun _ t _ => x - (intOf t).toNat)
        case atStart => exact ⟨0, Nat.zero_le _, rfl, by simp, rfl⟩
        case round =>
          obtain ⟨m, hm, rfl, rfl, rfl⟩ := hrel
          by_cases hmx : m < x
          · have y1 := pow_part (a := B j) (m := m) (n := x) (e := d j) (M := 256) (by rw [G2.out]; exact g3') hm
            have y2 : B j * 2 ^ (m + 1) = B j * 2 ^ m * 2 := by rw [Nat.pow_succ, Nat.mul_assoc]
            replace y2 := Lib.hid y2
            generalize B j * 2 ^ m = y at *
            go_wp2_with fail
            exact ⟨⟨m + 1, by omega, by go_num, by rw [y2.out]; go_num, trivial⟩, by simp [intOf]; omega⟩
          · obtain rfl : m = x := by omega
            have y1 : B j * 2 ^ m + d j ≤ 256 := by rw [G2.out]; exact g3'
            have y3 := Lib.hid G2.out
            clear G2
            generalize B j * 2 ^ m = y at *
            go_wp2_with fail
            exact ⟨⟨j + 1, by omega, by go_num, by rw [← y3.out]; go_num, trivial⟩, by simp [intOf]; omega⟩
      · obtain rfl : j = ds.length := by omega
        rw [hBn.out]
        go_wp2_with fail
        refine (OK.out _ _ _ HD.out HI.out).mono ?_; rintro e w7 ⟨rfl, hb⟩
        rw [hv.out]
        replace K := below_two K hb
        clear hb
        go_wp2_with fail
        go_ret
        exact ⟨rfl, K⟩
end Go.Proofs.YtklbdfjmhbiheaaDoor
