/- The walk of FnTermMany: for every argument the law returns true and leaves alone what was there. -/
import Derived.Test.YtfkanemjedndgaaUf
namespace Go.Proofs.Ytfkanemjedndgaa
open Go.RowKit

set_option linter.unusedVariables false in
set_option maxRecDepth 100000 in
set_option maxHeartbeats 8000000 in
theorem walk_FnTermMany (v : Value) {w : World} (h : BytesIn w v) :
    Calls Try.prog 6 #[v] w fun e w' => e = .returned (.bool true) ∧ Below w.heap.size w w' := by
  obtain ⟨a0, len, cp, rfl⟩ : ∃ a len cap, v = .slice a len cap := by
    rcases h with ⟨a, c, rfl⟩ | ⟨b, off, len, cap, rfl, _⟩ <;> exact ⟨_, _, _, rfl⟩
  by_cases hb : (1048576 : Int) < len
  · go_enter Try.func6, Try.ntmps6
    go_wp2_with fail
    go_ret
    exact ⟨rfl, Below.refl _ _⟩
  go_enter Try.func6, Try.ntmps6
  go_wp2_with fail
  refine (drawTermMany_any _ _ h).mono ?_
  rintro e w1 ⟨t, s, D, rfl, hs, tk, hl, B⟩
  obtain ⟨sa, sp, rfl, _⟩ := hs.form
  clear tk h
  have A := blk5_new w1 (.int .i64 t.op) (.int .i64 t.a) (.int .i64 t.b) (.string t.nm) (.slice sa t.ks.length sp) 29
  have Bw := below_self_alloc w1 (.cells #[.int .i64 t.op, .int .i64 t.a, .int .i64 t.b, .string t.nm, .slice sa t.ks.length sp] 29)
  replace B := below_two B Bw
  replace hs := hs.below Bw
  clear Bw
  obtain ⟨A0, A1, A2, A3, A4, A5⟩ := A.cells
  go_wp2_with fail
  refine (termMany_impl D t.op t.a t.b t.nm _ t.ks _ hs).mono ?_; rintro e w2 ⟨x, y, rfl, x0, x1, y0, y1, T1, hb2⟩
  replace T1 := Lib.hid T1
  clear A0 A1 A2 A3 A4 A5
  replace A := A.keep hb2; replace hs := hs.below hb2; replace B := below_two B hb2
  clear hb2
  obtain ⟨A0, A1, A2, A3, A4, A5⟩ := A.cells
  go_wp2_with fail
  refine (termMany_spec D t.op t.a t.b t.nm _ t.ks _ hs).mono ?_; rintro e w3 ⟨x', y', rfl, _, _, _, _, T2, hb3⟩
  obtain ⟨rfl, rfl⟩ := TMV.one T1.out T2
  clear A0 A1 A2 A3 A4 A5 T2
  replace A := A.keep hb3; replace hs := hs.below hb3; replace B := below_two B hb3
  clear hb3
  obtain ⟨A0, A1, A2, A3, A4, A5⟩ := A.cells
  have TT : Hid (TMV (1 + sumTo (kN D t.ks) t.ks.length) (1 + maxTo (kD D t.ks) t.ks.length) x y) := by have := T1.out; rw [NN_eq hs, DD_eq hs] at this; exact this
  clear T1
  go_wp2_with fail
  clear A0 A1 A2 A3 A4 A5
  go_loopw [8, 9, 10] (fun p m i wr => ∃ (k : Nat) (pp mm : Int), i = .int .i64 k ∧ p = .int .i64 pp ∧ m = .int .i64 mm ∧ k ≤ t.ks.length ∧ 1 ≤ pp ∧ pp ≤ 1 + 21 * k ∧ 0 ≤ mm ∧ mm ≤ 8 ∧ Hid (PV (sumTo (kN D t.ks) k) (maxTo (kD D t.ks) k) pp mm) ∧ Blk5 wr w1.heap.size (.int .i64 t.op) (.int .i64 t.a) (.int .i64 t.b) (.string t.nm) (.slice sa t.ks.length sp) 29 ∧ SIn D wr (.slice sa t.ks.length sp) t.ks ∧ Below w.heap.size w wr) (fun _ _ i _ => t.ks.length - (intOf i).toNat)
  case atStart => exact ⟨0, 1, 0, rfl, rfl, rfl, Nat.zero_le _, by omega, by omega, by omega, by omega, by show PV 0 0 1 0; unfold PV; omega, A, hs, B⟩
  case round =>
    clear A hs B
    obtain ⟨k, pp, mm, rfl, rfl, rfl, hk, p1, p2, m0, m1, hPV, A, hs, B⟩ := hrel
    obtain ⟨A0, A1, A2, A3, A4, A5⟩ := A.cells
    by_cases hlt : k < t.ks.length
    · obtain ⟨d, b, off, s', rfl, rfl, c0, c1, c2, c3, c4, hk1⟩ := kid_at hs hlt
      obtain ⟨ka, kc, rfl, _⟩ := hk1.form
      have hlt1 : (k : Int) < (t.ks.length : Int) := by omega
      obtain ⟨z, hz⟩ : ∃ z, z = t.ks.getD k tz := ⟨_, rfl⟩
      rw [← hz] at c0 c1 c2 c3 c4 hk1
      have HZ := Lib.hid hz
      clear hz
      obtain ⟨n2, hn2⟩ : ∃ n, n = z.ks.length := ⟨_, rfl⟩
      rw [← hn2] at c4 hk1
      clear hn2
      clear TT
      go_wp2_with fail
      refine (termMany_impl d z.op z.a z.b z.nm _ z.ks _ hk1).mono ?_; rintro e w4 ⟨x2, y2, rfl, x20, x21, y20, y21, T3, hb4⟩
      replace T3 := Lib.hid T3
      clear A0 A1 A2 A3 A4 A5 c0 c1 c2 c3 c4 hk1
      replace A := A.keep hb4; replace hs := hs.below hb4; replace B := below_two B hb4
      clear hb4
      have eN : sumTo (kN (d + 1) t.ks) (k + 1) = sumTo (kN (d + 1) t.ks) k + NN d z.ks := by rw [HZ.out]; rfl
      have eD : maxTo (kD (d + 1) t.ks) (k + 1) = max (maxTo (kD (d + 1) t.ks) k) (DD d z.ks) := by rw [HZ.out]; rfl
      replace eN := Lib.hid eN; replace eD := Lib.hid eD
      by_cases hy : mm < y2
      · have PN : Hid (PV (sumTo (kN (d + 1) t.ks) (k + 1)) (maxTo (kD (d + 1) t.ks) (k + 1)) (pp + x2) y2) := by rw [eN.out, eD.out]; exact hPV.out.up T3.out x20 hy
        clear hPV T3 eN eD
        go_wp2_with fail
        exact ⟨⟨k + 1, _, _, by go_num, rfl, rfl, by omega, by omega, by omega, by omega, by omega, PN, A, hs, B⟩, by simp [intOf]; omega⟩
      · have PN : Hid (PV (sumTo (kN (d + 1) t.ks) (k + 1)) (maxTo (kD (d + 1) t.ks) (k + 1)) (pp + x2) mm) := by rw [eN.out, eD.out]; exact hPV.out.same T3.out x20 hy
        have dy : decide (mm < y2) = false := by simpa using hy
        clear hPV T3 eN eD
        go_wp2_with fail
        exact ⟨⟨k + 1, _, _, by go_num, rfl, rfl, by omega, by omega, by omega, by omega, by omega, PN, A, hs, B⟩, by simp [intOf]; omega⟩
    · have hkn : k = t.ks.length := by omega
      subst hkn
      obtain ⟨f1, f2⟩ := hPV.out.fin TT.out
      clear hPV TT
      by_cases hp : 20 < pp
      · obtain ⟨rfl, rfl⟩ := f1 (.inl hp)
        clear f1 f2
        go_wp2_with fail
        go_ret
        exact ⟨rfl, B⟩
      · by_cases hm : 7 < mm + 1
        · obtain ⟨rfl, rfl⟩ := f1 (.inr hm)
          clear f1 f2
          have dp : decide (20 < pp) = false := by simpa using hp
          go_wp2_with fail
          go_ret
          exact ⟨rfl, B⟩
        · obtain ⟨rfl, rfl⟩ := f2 (by omega)
          clear f1 f2
          have dp : decide (20 < x) = false := by simpa using hp
          have dm : decide (7 < mm + 1) = false := by simpa using hm
          go_wp2_with fail
          go_ret
          exact ⟨rfl, B⟩
end Go.Proofs.Ytfkanemjedndgaa
