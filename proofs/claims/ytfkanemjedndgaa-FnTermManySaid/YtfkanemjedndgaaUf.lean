/- DrawTermMany, and the walk of FnTermMany: for every argument the law returns true and leaves alone what was there. -/
import Derived.Test.YtfkanemjedndgaaUe
import Derived.Test.YtfkanemjedndgaaTp
import Derived.Test.YtfkanemjedndgaaBy
namespace Go.Proofs.Ytfkanemjedndgaa
open Go.RowKit

theorem cst_le {d : Nat} (h : d ≤ 6) : cst d ≤ 81920 := by
  have : d = 0 ∨ d = 1 ∨ d = 2 ∨ d = 3 ∨ d = 4 ∨ d = 5 ∨ d = 6 := by omega
  rcases this with rfl | rfl | rfl | rfl | rfl | rfl | rfl <;> decide
def DrewT (w : World) (e : Ending) (w' : World) : Prop :=
  ∃ (t : Tm) (s : Value) (D : Nat), e = .returned (.agg #[.int .i64 t.op, .int .i64 t.a, .int .i64 t.b, .string t.nm, s]) ∧ SIn D w' s t.ks ∧ TK t ∧ t.ks.length ≤ 4 ∧ Below w.heap.size w w'

set_option linter.unusedVariables false in
set_option maxRecDepth 100000 in
set_option maxHeartbeats 8000000 in
theorem drawTermMany_any (v : Value) (w : World) (h : BytesIn w v) : Calls Try.prog 16 #[v] w (DrewT w) := by
  obtain ⟨a0, len, cp, rfl⟩ : ∃ a len cap, v = .slice a len cap := by
    rcases h with ⟨a, c, rfl⟩ | ⟨b, off, len, cap, rfl, _⟩ <;> exact ⟨_, _, _, rfl⟩
  have A := blk5_new w (.int .i64 0) (.int .i64 0) (.int .i64 0) (.string ⟨#[]⟩) (.slice none 0 0) 29
  have B := below_self_alloc w (.cells #[.int .i64 0, .int .i64 0, .int .i64 0, .string ⟨#[]⟩, .slice none 0 0] 29)
  replace h := h.alloc (.cells #[.int .i64 0, .int .i64 0, .int .i64 0, .string ⟨#[]⟩, .slice none 0 0] 29)
  go_enter Try.func16, Try.ntmps16
  go_wp2_with fail
  refine (l12Open_any _ _ h).mono ?_
  rintro e w1 ⟨g, u, rfl, hg, hb, hr⟩
  have hgh : w.heap.size < g := by simp at hg; omega
  replace A := A.keep hb
  replace B := below_two B hb
  have gl := hr.lt
  clear hb h hg
  go_wp2_with fail
  refine (l2Decls_any g 0 u w1 hr (by omega)).mono ?_
  rintro e w2 ⟨bd, capd, ds, rfl, own, drawn, hg2, hr2⟩
  have hD : Hid (NmD g (.slice (some ⟨bd, 0, none⟩) ds.length capd) ds w2) := ⟨fun w' hg => OwnD.decls (own_grown own hg gl) drawn.named, drawn.1, drawn.2.1, fun i hi => (drawn.2.2 i hi).1, fun i hi => (drawn.2.2 i hi).2⟩
  replace A := A.keepG hg2 (by omega); replace B := below_of_grown B hg2 (by omega)
  have s2 := hg2.size
  clear own drawn hg2 hr
  go_wp2_with fail
  refine (pick_any g _ u 5 _ hr2 (by omega)).mono ?_
  rintro e w3 ⟨p, rfl, p0, p1, _, hg3, hr3⟩
  replace p1 := p1 (by omega)
  replace A := A.keepG hg3 (by omega); replace B := below_of_grown B hg3 (by omega)
  replace hD := Lib.hid (hD.out.grow hg3)
  have s3 := hg3.size
  clear hg3 hr2
  go_wp2_with fail
  refine (pick_any g _ u 5 _ hr3 (by omega)).mono ?_
  rintro e w4 ⟨q, rfl, q0, q1, _, hg4, hr4⟩
  replace q1 := q1 (by omega)
  replace A := A.keepG hg4 (by omega); replace B := below_of_grown B hg4 (by omega)
  replace hD := Lib.hid (hD.out.grow hg4)
  have s4 := hg4.size
  clear hg4 hr3
  obtain ⟨d, hd⟩ : ∃ d : Nat, 2 + q = (d : Int) := ⟨(2 + q).toNat, by omega⟩
  have hc := cst_le (d := d) (by omega)
  go_wp2_with fail
  refine (l2Term_any d (by omega) g _ u _ ds p _ w4 (by omega) hr4 (by omega) hD.out p0 (by omega)).mono ?_
  rintro e w5 ⟨t, s, rfl, K, ok, td, ⟨hl, top⟩, hg5, hr5⟩
  replace A := A.keepG hg5 (by omega); replace B := below_of_grown B hg5 (by omega)
  have s5 := hg5.size
  clear hg5 hr4 K hD
  go_wp2_with fail
  refine (l2Bent_any w4.heap.size d g _ u t.op t.a t.b t.nm s t.ks w5 hr5 (by omega) (by omega) s5 top ok td hl).mono ?_
  rintro e w6 ⟨t2, s2, D2, rfl, top2, tk2, td2, hl2, _, hg6, hr6⟩
  obtain ⟨sa, sp, rfl⟩ := top2.form
  have K2 := Lib.hid (top2.ks (top2.names td2))
  replace A := A.keepG hg6 (by omega); replace B := below_of_grown B hg6 (by omega)
  clear hg6 hr5 hr6 top2 td2 top td ok
  replace tk2 := Lib.hid tk2
  obtain ⟨A0, A1, A2, A3, A4, A5⟩ := A.cells
  obtain ⟨F0, F1, F2, F3, F4⟩ := A.frozen
  go_wp2_with fail
  have Af := ((((A.set0 (.int .i64 t2.op)).set1 (.int .i64 t2.a)).set2 (.int .i64 t2.b)).set3 (.string t2.nm)).set4 (.slice sa t2.ks.length sp)
  obtain ⟨r0, r1, r2, r3, r4, _⟩ := Af.cells
  have hlt : w.heap.size < w4.heap.size := by omega
  have Kf := kept_set (kept_set (kept_set (kept_set (kept_set (Kept.refl w4.heap.size w6) (p := ⟨w.heap.size, 0, none⟩) hlt (.int .i64 t2.op)) (p := ⟨w.heap.size, 1, none⟩) hlt (.int .i64 t2.a)) (p := ⟨w.heap.size, 2, none⟩) hlt (.int .i64 t2.b)) (p := ⟨w.heap.size, 3, none⟩) hlt (.string t2.nm)) (p := ⟨w.heap.size, 4, none⟩) hlt (.slice sa t2.ks.length sp)
  have Bf := ((((B.setCell (p := ⟨w.heap.size, 0, none⟩) (Nat.le_refl _) (.int .i64 t2.op)).setCell (p := ⟨w.heap.size, 1, none⟩) (Nat.le_refl _) (.int .i64 t2.a)).setCell (p := ⟨w.heap.size, 2, none⟩) (Nat.le_refl _) (.int .i64 t2.b)).setCell (p := ⟨w.heap.size, 3, none⟩) (Nat.le_refl _) (.string t2.nm)).setCell (p := ⟨w.heap.size, 4, none⟩) (Nat.le_refl _) (.slice sa t2.ks.length sp)
  exact bodyPost_ret (v := .agg #[.int .i64 t2.op, .int .i64 t2.a, .int .i64 t2.b, .string t2.nm, .slice sa t2.ks.length sp]) (by simp [results, Try.results16, go_sem, r0, r1, r2, r3, r4]) rfl ⟨t2, _, D2, rfl, (K2.out.on Kf).now, tk2.out, hl2, Bf⟩

/-- what is summed up so far -/
def PV (S M : Nat) (p m : Int) : Prop := (1 + S ≤ 20 ∧ M ≤ 7 → p = 1 + S ∧ m = M) ∧ (¬ (1 + S ≤ 20 ∧ M ≤ 7) → p > 20 ∨ m > 7)
theorem PV.up {S M N D : Nat} {p m x y : Int} (h : PV S M p m) (h2 : TMV N D x y) (_x0 : 0 ≤ x) (hy : m < y) : PV (S + N) (max M D) (p + x) y := by unfold PV TMV at *; omega
theorem PV.same {S M N D : Nat} {p m x y : Int} (h : PV S M p m) (h2 : TMV N D x y) (_x0 : 0 ≤ x) (hy : ¬ m < y) : PV (S + N) (max M D) (p + x) m := by unfold PV TMV at *; omega
theorem PV.fin {S M : Nat} {p m x y : Int} (h : PV S M p m) (h2 : TMV (1 + S) (1 + M) x y) : (20 < p ∨ 7 < m + 1 → x = 21 ∧ y = 8) ∧ (¬ (20 < p ∨ 7 < m + 1) → x = p ∧ y = m + 1) := by unfold PV TMV at *; omega
theorem kid_at {D : Nat} {w : World} {a : Option Addr} {n cap : Nat} {ks : List Tm} (h : SIn D w (.slice a n cap) ks) {k : Nat} (hk : k < ks.length) : ∃ (d b off : Nat) (s : Value), D = d + 1 ∧ a = some ⟨b, off, none⟩ ∧
    w.cell? ⟨b, off + k * 5, none⟩ = some (.int .i64 (ks.getD k tz).op) ∧ w.cell? ⟨b, off + k * 5 + 1, none⟩ = some (.int .i64 (ks.getD k tz).a) ∧ w.cell? ⟨b, off + k * 5 + 2, none⟩ = some (.int .i64 (ks.getD k tz).b) ∧
    w.cell? ⟨b, off + k * 5 + 3, none⟩ = some (.string (ks.getD k tz).nm) ∧ w.cell? ⟨b, off + k * 5 + 4, none⟩ = some s ∧ SIn d w s (ks.getD k tz).ks := by
  cases D with
  | zero => obtain ⟨rfl, _⟩ := h; exact absurd hk (Nat.not_lt_zero _)
  | succ d =>
    obtain ⟨a', cap', S, e, hr, _, hS⟩ := h
    cases e
    obtain ⟨b, off, rfl, _, c0, c1, c2, c3, c4⟩ := hr.five hk
    exact ⟨d, b, off, S k, rfl, rfl, c0, c1, c2, c3, c4, hS k hk⟩

end Go.Proofs.Ytfkanemjedndgaa
