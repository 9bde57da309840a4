/- What DrawCnfLeast gives: a formula. The conditions stand in each statement. -/
import Derived.Test.YtjobbokjebhjgaaDb
namespace Go.Proofs.Ytjobbokjebhjgaa
open Go.RowKit

theorem kept_set2 {B : Nat} {w w' : World} (h : Kept B w w') {p : Addr} (hp : p.block < B ∨ w.heap.size ≤ p.block) (x : Value) : Kept B w (w'.setCell p x) :=
  ⟨by simpa [World.setCell] using h.1, fun k hB hk => (Below.heap_setCell _ _ _ _ (by omega)).trans (h.2 k hB hk)⟩
theorem kept_alloc {B : Nat} {w w' : World} (h : Kept B w w') (o : Obj) : Kept B w (w'.alloc o) := h.trans (kept_below (below_self_alloc _ _))
theorem KSS.zero {B : Nat} {w : World} {v : Value} {ls : List (List Int)} (h : KSS B w v ls) : KSS 0 w v ls := by
  have hk : ∀ w', Kept 0 w w' → Kept B w w' := fun w' k => ⟨k.1, fun i _ hi => k.2 i (Nat.zero_le _) hi⟩
  obtain ⟨a, cap, F, e, h0, h1, h2⟩ := h
  exact ⟨a, cap, F, e, h0, fun w' k => h1 w' (hk w' k), fun i hi w' k => h2 i hi w' (hk w' k)⟩
theorem KSS.below {w w' : World} {v : Value} {ls : List (List Int)} (h : KSS 0 w v ls) (hb : Below w.heap.size w w') : KSS 0 w' v ls := h.on (kept_below hb)
theorem KSS.drew {w : World} {v : Value} {ls : List (List Int)} (h : KSS 0 w v ls) : KSS 0 w.drew v ls := h.on ⟨Nat.le_refl _, fun _ _ _ => rfl⟩
theorem inB7_wf {ls : List (List Int)} (h : inB7 ls) : ssWf ls := fun i hi => intsWf_mem fun x hx => by have := (h i hi).2 x hx; unfold I64; omega
def IsCnfV (w : World) (x : Value) : Prop := ∃ (m : Int) (v : Value) (ls : List (List Int)), x = .agg #[.int .i64 m, v] ∧ KSS 0 w v ls ∧ I64 m ∧ ls.length ≤ 35 ∧ ssWf ls

set_option maxHeartbeats 4000000 in
theorem drawCnfLeast_any (v : Value) (w : World) (h : BytesIn w v) :
    Calls Try.prog 37 #[v] w (GaveIn IsCnfV w) := by
  go_enter Try.func37, Try.ntmps37
  go_wp2_with fail
  refine (l12Open_any v _ (h.alloc _)).mono ?_
  rintro e w1 ⟨g, u, rfl, hg, hb1, hr1⟩
  have gl1 := hr1.lt
  have hgw : w.heap.size + 1 ≤ g := by simpa using hg
  have Z1 := (blk_new w (.int .i64 0) (.slice none 0 0) 38).keep hb1
  have B1 := box2_below hb1
  clear hb1 hg
  go_wp2_with fail
  refine (l4Cnf_any w1.heap.size g 0 u _ hr1 (by omega) (Nat.le_refl _)).mono ?_
  rintro e w2 ⟨m, x, ls, rfl, K2, ⟨q0, q1, q2, q3⟩, hg2, hr2⟩
  have Z2 := Z1.keepG hg2 (by omega)
  have B2 := below_of_grown B1 hg2 (by omega)
  have s2 := hg2.size
  obtain ⟨a2, c2, rfl⟩ := K2.form
  clear Z1 B1 hg2
  go_wp2_with fail
  refine (l4Bent_any w1.heap.size g _ u m _ ls _ hr2 (by omega) ⟨by omega, by omega⟩ gl1 s2 K2 (by omega) (inB7_wf q3)).mono ?_
  rintro e w3 ⟨m', x', ls', rfl, K3, ⟨hm', hl', hwf'⟩, hg3, hr3⟩
  have Z3 := (Z2.keepG hg3 (by omega)).alloc (.cells #[.int .i64 m', x'] 38)
  have C3 := blk_new w3 (.int .i64 m') x' 38
  have B3 := below_step (below_of_grown B2 hg3 (by omega)) (.cells #[.int .i64 m', x'] 38)
  have s3 := hg3.size
  have KK3 := kept_alloc (Kept.refl w1.heap.size w3) (.cells #[.int .i64 m', x'] 38)
  obtain ⟨a3, c3, rfl⟩ := K3.form
  have HW := Lib.hid hwf'
  clear Z2 B2 hg3 K2 hr2 hwf'
  go_wp2_with fail
  refine (pick_any g _ u 20 _ (hr3.alloc _) (by omega)).mono ?_
  rintro e w4 ⟨k, rfl, k0, k1, _, hg4, hr4⟩
  have Z4 := Z3.keepG hg4 (by omega)
  have C4 := C3.keepG hg4 (by omega)
  have B4 := below_of_grown B3 hg4 (by omega)
  have KK4 := KK3.trans (kept_grown hg4 gl1)
  have s4 := hg4.size
  clear Z3 C3 B3 KK3 hg4 k1
  by_cases hz : k = 0
  · subst hz
    go_wp2_with fail
    refine (pick_any g _ u 2 _ hr4 (by omega)).mono ?_
    rintro e w5 ⟨t, rfl, t0, t1, _, hg5, hr5⟩
    have t2 := t1 (by decide)
    have Z5 := Z4.keepG hg5 (by omega)
    have C5 := C4.keepG hg5 (by omega)
    have B5 := below_of_grown B4 hg5 (by omega)
    have KK5 := KK4.trans (kept_grown hg5 gl1)
    clear Z4 C4 B4 KK4 hg5 t1
    obtain ⟨Z50, Z51, Z52⟩ := Z5.cells
    obtain ⟨F50, F51⟩ := Z5.frozen
    obtain ⟨C50, C51, C52⟩ := C5.cells
    obtain ⟨D50, D51⟩ := C5.frozen
    have hzc : ¬ w.heap.size = w3.heap.size := by omega
    go_wp2_with fail
    have Zf := ((Z5.set_other (p := ⟨w3.heap.size, 0, none⟩) (z := .int .i64 (10 + t)) hzc).set0 (.int .i64 (10 + t))).set1 (.slice a3 ls'.length c3)
    obtain ⟨r0, r1, _⟩ := Zf.cells
    have Bf := ((B5.setCell (p := ⟨w3.heap.size, 0, none⟩) (by simp; omega) (.int .i64 (10 + t))).setCell (p := ⟨w.heap.size, 0, none⟩) (by simp) (.int .i64 (10 + t))).setCell (p := ⟨w.heap.size, 1, none⟩) (by simp) (.slice a3 ls'.length c3)
    have Kf := kept_set2 (kept_set2 (kept_set2 KK5 (p := ⟨w3.heap.size, 0, none⟩) (.inr (Nat.le_refl _)) (.int .i64 (10 + t))) (p := ⟨w.heap.size, 0, none⟩) (.inl (by simp; omega)) (.int .i64 (10 + t))) (p := ⟨w.heap.size, 1, none⟩) (.inl (by simp; omega)) (.slice a3 ls'.length c3)
    exact bodyPost_ret (v := .agg #[.int .i64 (10 + t), .slice a3 ls'.length c3]) (by simp [results, Try.results37, go_sem, r0, r1]) rfl ⟨_, rfl, ⟨_, _, ls', rfl, (K3.on Kf).zero, ⟨by omega, by omega⟩, by omega, HW.out⟩, Bf⟩
  · have hzq : (k == 0) = false := by simpa using hz
    obtain ⟨Z50, Z51, Z52⟩ := Z4.cells
    obtain ⟨F50, F51⟩ := Z4.frozen
    obtain ⟨C50, C51, C52⟩ := C4.cells
    go_wp2_with fail
    have Zf := (Z4.set0 (.int .i64 m')).set1 (.slice a3 ls'.length c3)
    obtain ⟨r0, r1, _⟩ := Zf.cells
    have Bf := (B4.setCell (p := ⟨w.heap.size, 0, none⟩) (by simp) (.int .i64 m')).setCell (p := ⟨w.heap.size, 1, none⟩) (by simp) (.slice a3 ls'.length c3)
    have Kf := kept_set2 (kept_set2 KK4 (p := ⟨w.heap.size, 0, none⟩) (.inl (by simp; omega)) (.int .i64 m')) (p := ⟨w.heap.size, 1, none⟩) (.inl (by simp; omega)) (.slice a3 ls'.length c3)
    exact bodyPost_ret (v := .agg #[.int .i64 m', .slice a3 ls'.length c3]) (by simp [results, Try.results37, go_sem, r0, r1]) rfl ⟨_, rfl, ⟨_, _, ls', rfl, (K3.on Kf).zero, hm', by omega, HW.out⟩, Bf⟩
end Go.Proofs.Ytjobbokjebhjgaa
