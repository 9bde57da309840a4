/- Names and a term that are drawn: l2Some. The conditions stand in each statement. -/
import Derived.Test.YtfkanemjedndgaaDoorPe
import Derived.Test.YtfkanemjedndgaaDoorDf
import Derived.Test.YtfkanemjedndgaaDoorKn
namespace Go.Proofs.YtfkanemjedndgaaDoor
open Go.RowKit

theorem cst_le4 {d : Nat} (h : d ≤ 4) : cst d ≤ 5120 := by
  have : d = 0 ∨ d = 1 ∨ d = 2 ∨ d = 3 ∨ d = 4 := by omega
  rcases this with rfl | rfl | rfl | rfl | rfl <;> decide
def GaveS (g : Nat) (v : Value) (P : Nat) (w : World) (e : Ending) (w' : World) : Prop := ∃ D : Nat, D ≤ 4 ∧ GaveT w.heap.size D g v P w e w'

set_option linter.unusedVariables false in
set_option maxRecDepth 100000 in
set_option maxHeartbeats 8000000 in
theorem l2Some_any (g P : Nat) (v s : Value) (ds : List Dc) (sort : Int) (w : World) (hr : RdOk w g v P) (hP : P ≤ 800000) (h : NmD g s ds w) (s0 : 0 ≤ sort) (s4 : sort ≤ 4) :
    Calls Tryd.prog 46 #[.pointer (some ⟨g, 0, none⟩), s, .int .i64 sort] w (GaveS g v (P + 20500) w) := by
  have gl := hr.lt
  have hD := Lib.hid h
  obtain ⟨a, cap, rfl, _⟩ := (h.1 w (World.grownBy.refl _ _)).form
  have A := blk5_new w (.int .i64 0) (.int .i64 0) (.int .i64 0) (.string ⟨#[]⟩) (.slice none 0 0) 33
  have G := World.grownBy_alloc w (.cells #[.int .i64 0, .int .i64 0, .int .i64 0, .string ⟨#[]⟩, .slice none 0 0] 33) (some g)
  have R := hr.alloc (.cells #[.int .i64 0, .int .i64 0, .int .i64 0, .string ⟨#[]⟩, .slice none 0 0] 33)
  replace hr := Lib.hid hr
  clear h
  go_enter Tryd.func46, Tryd.ntmps46
  go_wp2_with fail
  go_loopw [7] (fun i wr => ∃ k : Nat, i = .int .i64 k ∧ k ≤ 4 ∧ Blk5 wr w.heap.size (.int .i64 0) (.int .i64 0) (.int .i64 0) (.string ⟨#[]⟩) (.slice none 0 0) 33 ∧ w.grownBy wr (some g) ∧ RdOk wr g v (P + (4 - k) * 5120)) (fun i _ => (intOf i).toNat)
  case atStart => exact ⟨4, rfl, Nat.le_refl _, A, G, R.le (by omega)⟩
  case round =>
    clear A G R
    obtain ⟨k, rfl, hk, A, G, R⟩ := hrel
    by_cases hk0 : 0 < k
    · obtain ⟨k', rfl⟩ : ∃ k', k = k' + 1 := ⟨k - 1, by omega⟩
      have hi0 : (0 : Int) < ((k' + 1 : Nat) : Int) := by omega
      have hc := cst_le4 (d := k' + 1) hk
      go_wp2_with fail
      refine (l2Term_any (k' + 1) (by omega) g _ v _ ds sort _ _ (by omega) R (by omega) (hD.out.grow G) s0 s4).mono ?_
      rintro e w1 ⟨t, s', rfl, K, ok, td, sh, hg, R2⟩
      obtain ⟨sa, sp, rfl⟩ := sh.2.form
      have hsz := G.size
      have hA := A.lt
      replace K := Lib.hid (K.mono (B' := w.heap.size + 1) (by omega))
      replace sh := Lib.hid (sh.mono (B' := w.heap.size + 1) (by omega))
      replace ok := Lib.hid ok; replace td := Lib.hid td
      replace A := (A.keepG hg (by omega)).alloc (.cells #[.int .i64 t.op, .int .i64 t.a, .int .i64 t.b, .string t.nm, .slice sa t.ks.length sp] 33)
      replace G := grown_alloc (grown_two G hg) (.cells #[.int .i64 t.op, .int .i64 t.a, .int .i64 t.b, .string t.nm, .slice sa t.ks.length sp] 33)
      replace R := R2.alloc (.cells #[.int .i64 t.op, .int .i64 t.a, .int .i64 t.b, .string t.nm, .slice sa t.ks.length sp] 33)
      have Z := blk5_new w1 (.int .i64 t.op) (.int .i64 t.a) (.int .i64 t.b) (.string t.nm) (.slice sa t.ks.length sp) 33
      have hs := K.out.now.below (below_self_alloc w1 (.cells #[.int .i64 t.op, .int .i64 t.a, .int .i64 t.b, .string t.nm, .slice sa t.ks.length sp] 33))
      have hDec := (hD.out.grow G).1 _ (World.grownBy.refl _ _)
      have Kp := kept_allocT (w.heap.size + 1) w1 (.cells #[.int .i64 t.op, .int .i64 t.a, .int .i64 t.b, .string t.nm, .slice sa t.ks.length sp] 33)
      clear R2 hg hsz hA
      obtain ⟨Z0, Z1, Z2, Z3, Z4, _⟩ := Z.cells
      go_wp2_with fail
      refine (termSort_spec _ ds (k' + 1) t.op t.a t.b t.nm _ t.ks _ hDec hs).mono ?_; rintro e w2 ⟨rfl, hb⟩
      clear Z0 Z1 Z2 Z3 Z4 hDec hs
      replace A := A.keep hb; replace Z := Z.keep hb; replace G := grown_below G hb; replace R := R.below hb
      replace Kp := Lib.hid (Kp.trans (kept_below hb))
      clear hb
      generalize TSV ds (k' + 1) t.op t.a t.b t.nm t.ks = z at *
      by_cases hz : 0 ≤ z
      · obtain ⟨Z0, Z1, Z2, Z3, Z4, _⟩ := Z.cells
        obtain ⟨A0, A1, A2, A3, A4, _⟩ := A.cells
        obtain ⟨F0, F1, F2, F3, F4⟩ := A.frozen
        go_wp2_with fail
        obtain ⟨Af, Gf, Rf, Kf⟩ := put5 A G R hr.out (Nat.le_refl _) (.int .i64 t.op) (.int .i64 t.a) (.int .i64 t.b) (.string t.nm) (.slice sa t.ks.length sp)
        obtain ⟨r0, r1, r2, r3, r4, _⟩ := Af.cells
        exact bodyPost_ret (v := .agg #[.int .i64 t.op, .int .i64 t.a, .int .i64 t.b, .string t.nm, .slice sa t.ks.length sp]) (by simp [results, Tryd.results46, go_sem, r0, r1, r2, r3, r4]) rfl
          ⟨k' + 1, hk, t, _, rfl, (K.out.on (Kp.out.trans Kf)).mono (Nat.le_succ _), ok.out, td.out, (sh.out.on (Kp.out.trans Kf)).mono (Nat.le_succ _), Gf, Rf.le (by omega)⟩
      · have dz : decide (0 ≤ z) = false := by simpa using hz
        clear K sh ok td Kp Z
        go_wp2_with fail
        exact ⟨⟨k', by go_num, by omega, A, G, R.le (by omega)⟩, by simp [intOf]⟩
    · obtain rfl : k = 0 := by omega
      go_wp2_with fail
      refine (l2Leafy_any (w.heap.size + 1) 0 g _ v _ ds sort _ R (by omega) (hD.out.grow G).1 hD.out.2.1 hD.out.2.2.1 hD.out.2.2.2.1 s0 s4).mono ?_
      rintro e w1 ⟨t, s', rfl, K, ok, td, sh, hg, R2⟩
      obtain ⟨sa, sp, rfl⟩ := sh.2.form
      replace A := A.keepG hg (by omega); replace G := grown_two G hg; replace R := R2
      replace K := Lib.hid K; replace sh := Lib.hid sh; replace ok := Lib.hid ok; replace td := Lib.hid td
      clear R2 hg
      obtain ⟨A0, A1, A2, A3, A4, _⟩ := A.cells
      obtain ⟨F0, F1, F2, F3, F4⟩ := A.frozen
      go_wp2_with fail
      obtain ⟨Af, Gf, Rf, Kf⟩ := put5 A G R hr.out (Nat.le_refl _) (.int .i64 t.op) (.int .i64 t.a) (.int .i64 t.b) (.string t.nm) (.slice sa t.ks.length sp)
      obtain ⟨r0, r1, r2, r3, r4, _⟩ := Af.cells
      exact bodyPost_ret (v := .agg #[.int .i64 t.op, .int .i64 t.a, .int .i64 t.b, .string t.nm, .slice sa t.ks.length sp]) (by simp [results, Tryd.results46, go_sem, r0, r1, r2, r3, r4]) rfl
        ⟨0, Nat.zero_le _, t, _, rfl, (K.out.on Kf).mono (Nat.le_succ _), ok.out, td.out, (sh.out.on Kf).mono (Nat.le_succ _), Gf, Rf.le (by omega)⟩
end Go.Proofs.YtfkanemjedndgaaDoor
