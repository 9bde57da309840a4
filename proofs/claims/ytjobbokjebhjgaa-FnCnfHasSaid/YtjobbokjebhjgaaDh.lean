/- What DrawCnfHas gives: a formula and a list of truth values. The conditions stand in each statement. -/
import Derived.Test.YtjobbokjebhjgaaCl
import Derived.Test.YtjobbokjebhjgaaDd
import Derived.Test.YtjobbokjebhjgaaDm
namespace Go.Proofs.Ytjobbokjebhjgaa
open Go.RowKit

def IsCnfVB (w : World) (x : Value) : Prop := ∃ (m : Int) (v : Value) (ls : List (List Int)) (u : Value) (l : List Bool), x = .tuple #[.agg #[.int .i64 m, v], u] ∧ KSS 0 w v ls ∧ I64 m ∧ ls.length ≤ 35 ∧ ssWf ls ∧ Bools w u l
theorem own_grownB {w w1 : World} {g B n : Nat} {y : Value} {e : TypeId} {xs : List Value} (h : w.ownsRow B e 1 y n xs) (hg : w.grownBy w1 (some g)) (hlt : g < B) : w1.ownsRow B e 1 y n xs :=
  h.kept hg (by
    cases hv : y.ownBlock with
    | none => exact .inl rfl
    | some k => exact .inr (fun e => by injection e with e; have := (h.lt k hv).1; omega))
theorem own_mono {w : World} {B B' n size : Nat} {y : Value} {e : TypeId} {xs : List Value} (h : w.ownsRow B e size y n xs) (hb : B' ≤ B) : w.ownsRow B' e size y n xs :=
  ⟨h.1, h.2.imp id (fun ⟨g, cap, cur, e, h1, r⟩ => ⟨g, cap, cur, e, Nat.le_trans hb h1, r⟩)⟩
theorem kept_mid {B : Nat} {w w' : World} (h : Kept B w w') {w2 : World} (hb : Below w'.heap.size w' w2) : Kept B w w2 := h.trans (kept_below hb)

set_option linter.unusedVariables false in
set_option maxRecDepth 100000 in
set_option maxHeartbeats 8000000 in
theorem drawCnfHas_any (v : Value) (w : World) (h : BytesIn w v) :
    Calls Try.prog 36 #[v] w (GaveIn IsCnfVB w) := by
  go_enter Try.func36, Try.ntmps36
  go_wp2_with fail
  refine (l12Open_any v _ (h.alloc _)).mono ?_
  rintro e w1 ⟨g, u, rfl, hg, hb1, hr1⟩
  have gl1 := hr1.lt
  have hgw : w.heap.size + 1 ≤ g := by simpa using hg
  have Z1 := (blk_new w (.int .i64 0) (.slice none 0 0) 38).keep hb1
  have B1 := box2_below hb1
  clear hb1 hg
  go_wp2_with fail
  refine (l4Cnf_any w1.heap.size g 0 u _ hr1 (by omega) (Nat.le_refl _)).mono ?_
  rintro e w2 ⟨m, x, ls, rfl, K2, ⟨q0, q1, q2, q3⟩, hg2, hr2⟩
  have s2 := hg2.size
  have Z2 := (Z1.keepG hg2 (by omega)).alloc (.cells #[.int .i64 m, x] 38)
  have C2 := blk_new w2 (.int .i64 m) x 38
  have B2 := below_step (below_of_grown B1 hg2 (by omega)) (.cells #[.int .i64 m, x] 38)
  replace K2 := K2.on (kept_alloc (Kept.refl w1.heap.size w2) (.cells #[.int .i64 m, x] 38))
  replace hr2 := hr2.alloc (.cells #[.int .i64 m, x] 38)
  have I2 := K2.now
  obtain ⟨a2, c2, rfl⟩ := K2.form
  obtain ⟨n, rfl⟩ := Int.eq_ofNat_of_zero_le (show 0 ≤ m by omega)
  have HW := Lib.hid (inB7_wf q3)
  obtain ⟨z, hz⟩ : ∃ z, z = leastL n ls := ⟨_, rfl⟩
  have CS : Hid (∀ v' w', IntSS w' v' ls → Calls Try.prog 39 #[.agg #[.int .i64 n, v']] w' (LeastRet z w')) := fun v' w' h => by rw [hz]; exact cnfLeast_spec n v' ls w' h HW.out
  clear hz q3
  obtain ⟨zl, zb⟩ := z
  have kk0 := Kept.refl w1.heap.size (w2.alloc (.cells #[.int .i64 n, .slice a2 ls.length c2] 38))
  have gW : g < w2.heap.size := by omega
  have sW : w2.heap.size < (w2.alloc (.cells #[.int .i64 n, .slice a2 ls.length c2] 38)).heap.size := C2.lt
  obtain ⟨C20, C21, C22⟩ := C2.cells
  clear Z1 B1 hg2
  go_wp2_with fail
  refine (CS.out _ _ I2).mono ?_; rintro e w3 ⟨y3, rfl, o3, hb3⟩
  have Z3 := Z2.keep hb3
  have C3 := C2.keep hb3
  have B3 := below_two B2 hb3
  have kk3 := kept_mid kk0 hb3
  have hr3 := hr2.below hb3
  have s3 : w2.heap.size + 1 ≤ w3.heap.size := by have := hb3.size; simpa using this
  replace o3 := own_mono o3 (Nat.le_of_lt sW)
  obtain ⟨p3, c3, rfl, _⟩ := Row.of_own o3
  clear Z2 C2 B2 kk0 hr2 hb3 CS I2 C20 C21 C22
  obtain ⟨C30, C31, C32⟩ := C3.cells
  have KH := Lib.hid K2
  clear K2
  cases zb
  · go_wp2_with fail
    clear o3
    have sS := And.intro (C3.drew).cells.1 (C3.drew).cells.2.1
    go_region_held3 (fun wx : World => wx.cell? ⟨w2.heap.size, 0, none⟩ = some (.int .i64 n) ∧ wx.cell? ⟨w2.heap.size, 1, none⟩ = some (.slice a2 ls.length c2)) (first | with_reducible assumption) (first
      | (go_at_call 50; (with_reducible refine (pick_any g _ u 128 _ hr3.drew (by omega)).mono ?_); rintro e wp ⟨q, rfl, q0, q1, _, hgp, hrp⟩; have q2 := q1 (by decide); obtain ⟨q', rfl⟩ := Int.eq_ofNat_of_zero_le q0; have Zp := (Z3.drew).keepG hgp (by omega); have Cp := (C3.drew).keepG hgp (by omega); have Bp := below_of_grown B3.drew hgp (by omega); have kkp := (kk3.trans (show Kept w1.heap.size w3 w3.drew from ⟨Nat.le_refl _, fun _ _ _ => rfl⟩)).trans (kept_grown hgp gl1); have sp := hgp.size; replace sS := And.intro Cp.cells.1 Cp.cells.2.1)
      | (go_at_call 52; (with_reducible refine (l4Vals_any n q' _ (by omega) (by omega)).mono ?_); rintro e wv ⟨y, rfl, ov, hbv⟩; have Zv := Zp.keep hbv; have Cv := Cp.keep hbv; have Bv := below_two Bp hbv; have kkv := kept_mid kkp hbv; have hrv := hrp.below hbv; have sv := hbv.size; have ov' := own_mono ov (show w2.heap.size ≤ wp.heap.size by have : w2.heap.size + 1 ≤ w3.heap.size := s3; simp at sp; omega); replace sS := And.intro Cv.cells.1 Cv.cells.2.1))

    clear sS Zp Cp Bp kkp sp hbv hrp hgp q1 ov Z3 C3 B3 kk3 hr3 C30 C31 C32
    obtain ⟨Cv0, Cv1, Cv2⟩ := Cv.cells
    obtain ⟨py, cy, rfl, _⟩ := Row.of_own ov'
    have kkvs : w1.heap.size ≤ wv.heap.size := by have := kkv.1; simp at this; omega

    go_wp2_with fail
    refine (l4Bent_any w1.heap.size g _ u n _ ls _ hrv (by omega) ⟨by omega, by omega⟩ gl1 kkvs (KH.out.on kkv) (by omega) HW.out).mono ?_
    rintro e w9 ⟨m', x', ls', rfl, K9, ⟨hm', hl', hwf'⟩, hg9, hr9⟩
    have Z9 := Zv.keepG hg9 (by omega)
    have B9 := below_of_grown Bv hg9 (by omega)
    have V9 := own_grownB ov' hg9 (by omega)
    obtain ⟨a9, c9, rfl⟩ := K9.form
    have HW9 := Lib.hid hwf'
    clear hwf' hr9 hg9 ov'
    obtain ⟨Z90, Z91, Z92⟩ := Z9.cells
    obtain ⟨F90, F91⟩ := Z9.frozen
    go_wp2_with fail
    have Zf := (Z9.set0 (.int .i64 m')).set1 (.slice a9 ls'.length c9)
    obtain ⟨r0, r1, _⟩ := Zf.cells
    have Bf := (B9.setCell (p := ⟨w.heap.size, 0, none⟩) (by simp) (.int .i64 m')).setCell (p := ⟨w.heap.size, 1, none⟩) (by simp) (.slice a9 ls'.length c9)
    have Kf := kept_set2 (kept_set2 (Kept.refl w1.heap.size w9) (p := ⟨w.heap.size, 0, none⟩) (.inl (by simp; omega)) (.int .i64 m')) (p := ⟨w.heap.size, 1, none⟩) (.inl (by simp; omega)) (.slice a9 ls'.length c9)
    have nz : ∀ {off : Nat}, (Value.slice py n cy).ownBlock ≠ some (⟨w.heap.size, off, none⟩ : Addr).block := fun e => by have h1 : w2.heap.size ≤ w.heap.size := (V9.lt _ e).1; omega
    have Vf := own_setCell (own_setCell V9 (p := ⟨w.heap.size, 0, none⟩) nz (.int .i64 m')) (p := ⟨w.heap.size, 1, none⟩) nz (.slice a9 ls'.length c9)
    exact bodyPost_ret (v := .tuple #[.agg #[.int .i64 m', .slice a9 ls'.length c9], .slice py n cy]) (by simp [results, Try.results36, go_sem, r0, r1]) rfl ⟨_, rfl, ⟨_, _, ls', _, l4v n q', rfl, (K9.on Kf).zero, hm', by omega, HW9.out, Bools.of_own (l := l4v n q') Vf⟩, Bf⟩
  · go_wp2_with fail
    refine (pick_any g _ u 3 _ hr3 (by omega)).mono ?_
    rintro e w4 ⟨k, rfl, k0, k1, _, hg4, hr4⟩
    have Z4 := Z3.keepG hg4 (by omega)
    have C4 := C3.keepG hg4 (by omega)
    have B4 := below_of_grown B3 hg4 (by omega)
    have kk4 := kk3.trans (kept_grown hg4 gl1)
    have s4 := hg4.size
    have o4 := own_grownB o3 hg4 gW
    clear Z3 C3 B3 kk3 hg4 k1 hr3 C30 C31 C32 o3
    obtain ⟨C40, C41, C42⟩ := C4.cells
    by_cases hz : k = 0
    · subst hz
      go_wp2_with fail
      clear o4
      have sS := And.intro (C4.drew).cells.1 (C4.drew).cells.2.1
      go_region_held3 (fun wx : World => wx.cell? ⟨w2.heap.size, 0, none⟩ = some (.int .i64 n) ∧ wx.cell? ⟨w2.heap.size, 1, none⟩ = some (.slice a2 ls.length c2)) (first | with_reducible assumption) (first
        | (go_at_call 50; (with_reducible refine (pick_any g _ u 128 _ hr4.drew (by omega)).mono ?_); rintro e wp ⟨q, rfl, q0, q1, _, hgp, hrp⟩; have q2 := q1 (by decide); obtain ⟨q', rfl⟩ := Int.eq_ofNat_of_zero_le q0; have Zp := (Z4.drew).keepG hgp (by omega); have Cp := (C4.drew).keepG hgp (by omega); have Bp := below_of_grown B4.drew hgp (by omega); have kkp := (kk4.trans (show Kept w1.heap.size w4 w4.drew from ⟨Nat.le_refl _, fun _ _ _ => rfl⟩)).trans (kept_grown hgp gl1); have sp := hgp.size; replace sS := And.intro Cp.cells.1 Cp.cells.2.1)
        | (go_at_call 52; (with_reducible refine (l4Vals_any n q' _ (by omega) (by omega)).mono ?_); rintro e wv ⟨y, rfl, ov, hbv⟩; have Zv := Zp.keep hbv; have Cv := Cp.keep hbv; have Bv := below_two Bp hbv; have kkv := kept_mid kkp hbv; have hrv := hrp.below hbv; have sv := hbv.size; have ov' := own_mono ov (show w2.heap.size ≤ wp.heap.size by have : w2.heap.size + 1 ≤ w4.heap.size := Nat.le_trans s3 s4; simp at sp; omega); replace sS := And.intro Cv.cells.1 Cv.cells.2.1))

      clear sS Zp Cp Bp kkp sp hbv hrp hgp q1 ov Z4 C4 B4 kk4 hr4 C40 C41 C42
      obtain ⟨Cv0, Cv1, Cv2⟩ := Cv.cells
      obtain ⟨py, cy, rfl, _⟩ := Row.of_own ov'
      have kkvs : w1.heap.size ≤ wv.heap.size := by have := kkv.1; simp at this; omega

      go_wp2_with fail
      refine (l4Bent_any w1.heap.size g _ u n _ ls _ hrv (by omega) ⟨by omega, by omega⟩ gl1 kkvs (KH.out.on kkv) (by omega) HW.out).mono ?_
      rintro e w9 ⟨m', x', ls', rfl, K9, ⟨hm', hl', hwf'⟩, hg9, hr9⟩
      have Z9 := Zv.keepG hg9 (by omega)
      have B9 := below_of_grown Bv hg9 (by omega)
      have V9 := own_grownB ov' hg9 (by omega)
      obtain ⟨a9, c9, rfl⟩ := K9.form
      have HW9 := Lib.hid hwf'
      clear hwf' hr9 hg9 ov'
      obtain ⟨Z90, Z91, Z92⟩ := Z9.cells
      obtain ⟨F90, F91⟩ := Z9.frozen
      go_wp2_with fail
      have Zf := (Z9.set0 (.int .i64 m')).set1 (.slice a9 ls'.length c9)
      obtain ⟨r0, r1, _⟩ := Zf.cells
      have Bf := (B9.setCell (p := ⟨w.heap.size, 0, none⟩) (by simp) (.int .i64 m')).setCell (p := ⟨w.heap.size, 1, none⟩) (by simp) (.slice a9 ls'.length c9)
      have Kf := kept_set2 (kept_set2 (Kept.refl w1.heap.size w9) (p := ⟨w.heap.size, 0, none⟩) (.inl (by simp; omega)) (.int .i64 m')) (p := ⟨w.heap.size, 1, none⟩) (.inl (by simp; omega)) (.slice a9 ls'.length c9)
      have nz : ∀ {off : Nat}, (Value.slice py n cy).ownBlock ≠ some (⟨w.heap.size, off, none⟩ : Addr).block := fun e => by have h1 : w2.heap.size ≤ w.heap.size := (V9.lt _ e).1; omega
      have Vf := own_setCell (own_setCell V9 (p := ⟨w.heap.size, 0, none⟩) nz (.int .i64 m')) (p := ⟨w.heap.size, 1, none⟩) nz (.slice a9 ls'.length c9)
      exact bodyPost_ret (v := .tuple #[.agg #[.int .i64 m', .slice a9 ls'.length c9], .slice py n cy]) (by simp [results, Try.results36, go_sem, r0, r1]) rfl ⟨_, rfl, ⟨_, _, ls', _, l4v n q', rfl, (K9.on Kf).zero, hm', by omega, HW9.out, Bools.of_own (l := l4v n q') Vf⟩, Bf⟩
    · have hzq : (k == 0) = false := by simpa using hz
      have kk4s : w1.heap.size ≤ w4.heap.size := by have := kk4.1; simp at this; omega

      go_wp2_with fail
      refine (l4Bent_any w1.heap.size g _ u n _ ls _ hr4 (by omega) ⟨by omega, by omega⟩ gl1 kk4s (KH.out.on kk4) (by omega) HW.out).mono ?_
      rintro e w9 ⟨m', x', ls', rfl, K9, ⟨hm', hl', hwf'⟩, hg9, hr9⟩
      have Z9 := Z4.keepG hg9 (by omega)
      have B9 := below_of_grown B4 hg9 (by omega)
      have V9 := own_grownB o4 hg9 (by omega)
      obtain ⟨a9, c9, rfl⟩ := K9.form
      have HW9 := Lib.hid hwf'
      clear hwf' hr9 hg9 o4
      obtain ⟨Z90, Z91, Z92⟩ := Z9.cells
      obtain ⟨F90, F91⟩ := Z9.frozen
      go_wp2_with fail
      have Zf := (Z9.set0 (.int .i64 m')).set1 (.slice a9 ls'.length c9)
      obtain ⟨r0, r1, _⟩ := Zf.cells
      have Bf := (B9.setCell (p := ⟨w.heap.size, 0, none⟩) (by simp) (.int .i64 m')).setCell (p := ⟨w.heap.size, 1, none⟩) (by simp) (.slice a9 ls'.length c9)
      have Kf := kept_set2 (kept_set2 (Kept.refl w1.heap.size w9) (p := ⟨w.heap.size, 0, none⟩) (.inl (by simp; omega)) (.int .i64 m')) (p := ⟨w.heap.size, 1, none⟩) (.inl (by simp; omega)) (.slice a9 ls'.length c9)
      have nz : ∀ {off : Nat}, (Value.slice p3 zl.length c3).ownBlock ≠ some (⟨w.heap.size, off, none⟩ : Addr).block := fun e => by have h1 : w2.heap.size ≤ w.heap.size := (V9.lt _ e).1; omega
      have Vf := own_setCell (own_setCell V9 (p := ⟨w.heap.size, 0, none⟩) nz (.int .i64 m')) (p := ⟨w.heap.size, 1, none⟩) nz (.slice a9 ls'.length c9)
      exact bodyPost_ret (v := .tuple #[.agg #[.int .i64 m', .slice a9 ls'.length c9], .slice p3 zl.length c3]) (by simp [results, Try.results36, go_sem, r0, r1]) rfl ⟨_, rfl, ⟨_, _, ls', _, zl, rfl, (K9.on Kf).zero, hm', by omega, HW9.out, Bools.of_own (l := zl) Vf⟩, Bf⟩
end Go.Proofs.Ytjobbokjebhjgaa
