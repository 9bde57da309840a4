/- Terms that are drawn: l2Term and l2Asks. The conditions stand in each statement. -/
import Derived.Test.YtfkanemjedndgaaDoorPa
namespace Go.Proofs.YtfkanemjedndgaaDoor
open Go.RowKit

structure Kid (B d : Nat) (w : World) (t : Tm) (s : Value) : Prop where
  ks : KS B d w s t.ks
  ok : TOk t
  td : TD d t.ks
theorem Kid.on {B d : Nat} {w w1 : World} {t : Tm} {s : Value} (h : Kid B d w t s) (hk : Kept B w w1) : Kid B d w1 t s := ⟨h.ks.on hk, h.ok, h.td⟩
theorem GaveT.le {B D g P P' : Nat} {v : Value} {w : World} {e : Ending} {w' : World} (h : GaveT B D g v P w e w') (hp : P ≤ P') : GaveT B D g v P' w e w' := by
  obtain ⟨t, s, a, b, c, d, f, G, R⟩ := h
  exact ⟨t, s, a, b, c, d, f, G, R.le hp⟩
def NmD (g : Nat) (s : Value) (ds : List Dc) (w : World) : Prop :=
  (∀ w', w.grownBy w' (some g) → Decls w' s ds) ∧ 1 ≤ ds.length ∧ ds.length ≤ 4 ∧ (∀ i, i < ds.length → (ds.getD i dz).1.size ≤ 1) ∧ ∀ i, i < ds.length → 1 ≤ (ds.getD i dz).2 ∧ (ds.getD i dz).2 ≤ 4
theorem NmD.grow {g : Nat} {s : Value} {ds : List Dc} {w w' : World} (h : NmD g s ds w) (hg : w.grownBy w' (some g)) : NmD g s ds w' := ⟨fun w2 h2 => h.1 w2 (grown_two hg h2), h.2⟩
def cst (d : Nat) : Nat := 20 * 4 ^ d
theorem cst_succ (d : Nat) : cst (d + 1) = 4 * cst d := by unfold cst; rw [Nat.pow_succ]; omega
theorem cst_pos (d : Nat) : 20 ≤ cst d := by
  have := Nat.pow_pos (n := d) (show 0 < 4 by decide)
  unfold cst; omega
def TermC (d : Nat) : Prop := ∀ (g P : Nat) (v s : Value) (ds : List Dc) (sort dd : Int) (w : World), dd = d → RdOk w g v P → P + cst d ≤ 900000 → NmD g s ds w → 0 ≤ sort → sort ≤ 4 →
  Calls Tryd.prog 62 #[.pointer (some ⟨g, 0, none⟩), s, .int .i64 sort, .int .i64 dd] w (GaveT w.heap.size d g v (P + cst d) w)

theorem end1 {w w5 : World} {g P P0 d : Nat} {v x0 x1 x2 x3 x4 : Value} {t1 : Tm} {s1 : Value} (o a b : Int) (A : Blk5 w5 w.heap.size x0 x1 x2 x3 x4 33) (G : w.grownBy w5 (some g)) (R : RdOk w5 g v P) (hr : RdOk w g v P0) (K1 : Kid (w.heap.size + 1) d w5 t1 s1) (ho : TOk (.node o a b ⟨#[]⟩ [])) :
    Blk5 ((((((w5.alloc (.cells #[.int .i64 t1.op, .int .i64 t1.a, .int .i64 t1.b, .string t1.nm, s1] 33)).setCell ⟨w.heap.size, 0, none⟩ (.int .i64 o)).setCell ⟨w.heap.size, 1, none⟩ (.int .i64 a)).setCell ⟨w.heap.size, 2, none⟩ (.int .i64 b)).setCell ⟨w.heap.size, 3, none⟩ (.string ⟨#[]⟩)).setCell ⟨w.heap.size, 4, none⟩ (.slice (some ⟨w5.heap.size, 0, none⟩) 1 1)) w.heap.size (.int .i64 o) (.int .i64 a) (.int .i64 b) (.string ⟨#[]⟩) (.slice (some ⟨w5.heap.size, 0, none⟩) 1 1) 33 ∧
    GaveT w.heap.size (d + 1) g v P w (.returned (.agg #[.int .i64 o, .int .i64 a, .int .i64 b, .string ⟨#[]⟩, .slice (some ⟨w5.heap.size, 0, none⟩) 1 1])) ((((((w5.alloc (.cells #[.int .i64 t1.op, .int .i64 t1.a, .int .i64 t1.b, .string t1.nm, s1] 33)).setCell ⟨w.heap.size, 0, none⟩ (.int .i64 o)).setCell ⟨w.heap.size, 1, none⟩ (.int .i64 a)).setCell ⟨w.heap.size, 2, none⟩ (.int .i64 b)).setCell ⟨w.heap.size, 3, none⟩ (.string ⟨#[]⟩)).setCell ⟨w.heap.size, 4, none⟩ (.slice (some ⟨w5.heap.size, 0, none⟩) 1 1)) := by
  have HC : ∀ i j, i < 1 → j < 5 → #[.int .i64 t1.op, .int .i64 t1.a, .int .i64 t1.b, .string t1.nm, s1][i * 5 + j]? = some (tcell [t1] (fun i => [s1].getD i undef) i j) :=
    (by
      intro i j hi hj
      have h3 : i = 0 := by omega
      have h5 : j = 0 ∨ j = 1 ∨ j = 2 ∨ j = 3 ∨ j = 4 := by omega
      subst h3; rcases h5 with rfl | rfl | rfl | rfl | rfl <;> rfl)
  have HK : ∀ i, i < 1 → KS (w.heap.size + 1) d w5 ((fun i => [s1].getD i undef) i) ([t1].getD i tz).ks :=
    (by
      intro i hi
      have h3 : i = 0 := by omega
      subst h3
      · exact K1.ks)
  have row := mkRow (B := w.heap.size + 1) (d := d) (n := 1) (w := w5) [t1] (fun i => [s1].getD i undef) #[.int .i64 t1.op, .int .i64 t1.a, .int .i64 t1.b, .string t1.nm, s1] 33 rfl (by omega) HC HK
    (by
      intro i hi
      have h3 : i = 0 := by omega
      subst h3
      · exact Nat.le_trans K1.ok.2.2.2.2.2.2 (by omega))
    (by have := A.lt; omega)
  have top := mkTop (B := w.heap.size + 1) (d := d) (n := 1) (w := w5) [t1] (fun i => [s1].getD i undef) #[.int .i64 t1.op, .int .i64 t1.a, .int .i64 t1.b, .string t1.nm, s1] 33 rfl (by omega) HC HK (by have := A.lt; omega)
  obtain ⟨Af, Gf, Rf, Kf⟩ := put5 (A.alloc _) (grown_alloc G _) (R.alloc _) hr (Nat.le_refl _) (.int .i64 o) (.int .i64 a) (.int .i64 b) (.string ⟨#[]⟩) (.slice (some ⟨w5.heap.size, 0, none⟩) 1 1)
  refine ⟨Af, .node o a b ⟨#[]⟩ [t1], _, rfl, (row.on Kf).mono (Nat.le_succ _), ho, ?_, ⟨by simp [Tm.ks], (top.on Kf).mono (Nat.le_succ _)⟩, Gf, Rf⟩
  intro i hi
  have h3 : i = 0 := by have : i < 1 := hi; omega
  subst h3
  · exact ⟨K1.ok, K1.td⟩

theorem end2 {w w5 : World} {g P P0 d : Nat} {v x0 x1 x2 x3 x4 : Value} {t1 t2 : Tm} {s1 s2 : Value} (o a b : Int) (A : Blk5 w5 w.heap.size x0 x1 x2 x3 x4 33) (G : w.grownBy w5 (some g)) (R : RdOk w5 g v P) (hr : RdOk w g v P0) (K1 : Kid (w.heap.size + 1) d w5 t1 s1) (K2 : Kid (w.heap.size + 1) d w5 t2 s2) (ho : TOk (.node o a b ⟨#[]⟩ [])) :
    Blk5 ((((((w5.alloc (.cells #[.int .i64 t1.op, .int .i64 t1.a, .int .i64 t1.b, .string t1.nm, s1, .int .i64 t2.op, .int .i64 t2.a, .int .i64 t2.b, .string t2.nm, s2] 33)).setCell ⟨w.heap.size, 0, none⟩ (.int .i64 o)).setCell ⟨w.heap.size, 1, none⟩ (.int .i64 a)).setCell ⟨w.heap.size, 2, none⟩ (.int .i64 b)).setCell ⟨w.heap.size, 3, none⟩ (.string ⟨#[]⟩)).setCell ⟨w.heap.size, 4, none⟩ (.slice (some ⟨w5.heap.size, 0, none⟩) 2 2)) w.heap.size (.int .i64 o) (.int .i64 a) (.int .i64 b) (.string ⟨#[]⟩) (.slice (some ⟨w5.heap.size, 0, none⟩) 2 2) 33 ∧
    GaveT w.heap.size (d + 1) g v P w (.returned (.agg #[.int .i64 o, .int .i64 a, .int .i64 b, .string ⟨#[]⟩, .slice (some ⟨w5.heap.size, 0, none⟩) 2 2])) ((((((w5.alloc (.cells #[.int .i64 t1.op, .int .i64 t1.a, .int .i64 t1.b, .string t1.nm, s1, .int .i64 t2.op, .int .i64 t2.a, .int .i64 t2.b, .string t2.nm, s2] 33)).setCell ⟨w.heap.size, 0, none⟩ (.int .i64 o)).setCell ⟨w.heap.size, 1, none⟩ (.int .i64 a)).setCell ⟨w.heap.size, 2, none⟩ (.int .i64 b)).setCell ⟨w.heap.size, 3, none⟩ (.string ⟨#[]⟩)).setCell ⟨w.heap.size, 4, none⟩ (.slice (some ⟨w5.heap.size, 0, none⟩) 2 2)) := by
  have HC : ∀ i j, i < 2 → j < 5 → #[.int .i64 t1.op, .int .i64 t1.a, .int .i64 t1.b, .string t1.nm, s1, .int .i64 t2.op, .int .i64 t2.a, .int .i64 t2.b, .string t2.nm, s2][i * 5 + j]? = some (tcell [t1, t2] (fun i => [s1, s2].getD i undef) i j) :=
    (by
      intro i j hi hj
      have h3 : i = 0 ∨ i = 1 := by omega
      have h5 : j = 0 ∨ j = 1 ∨ j = 2 ∨ j = 3 ∨ j = 4 := by omega
      rcases h3 with rfl | rfl <;> rcases h5 with rfl | rfl | rfl | rfl | rfl <;> rfl)
  have HK : ∀ i, i < 2 → KS (w.heap.size + 1) d w5 ((fun i => [s1, s2].getD i undef) i) ([t1, t2].getD i tz).ks :=
    (by
      intro i hi
      have h3 : i = 0 ∨ i = 1 := by omega
      rcases h3 with rfl | rfl
      · exact K1.ks
      · exact K2.ks)
  have row := mkRow (B := w.heap.size + 1) (d := d) (n := 2) (w := w5) [t1, t2] (fun i => [s1, s2].getD i undef) #[.int .i64 t1.op, .int .i64 t1.a, .int .i64 t1.b, .string t1.nm, s1, .int .i64 t2.op, .int .i64 t2.a, .int .i64 t2.b, .string t2.nm, s2] 33 rfl (by omega) HC HK
    (by
      intro i hi
      have h3 : i = 0 ∨ i = 1 := by omega
      rcases h3 with rfl | rfl
      · exact Nat.le_trans K1.ok.2.2.2.2.2.2 (by omega)
      · exact Nat.le_trans K2.ok.2.2.2.2.2.2 (by omega))
    (by have := A.lt; omega)
  have top := mkTop (B := w.heap.size + 1) (d := d) (n := 2) (w := w5) [t1, t2] (fun i => [s1, s2].getD i undef) #[.int .i64 t1.op, .int .i64 t1.a, .int .i64 t1.b, .string t1.nm, s1, .int .i64 t2.op, .int .i64 t2.a, .int .i64 t2.b, .string t2.nm, s2] 33 rfl (by omega) HC HK (by have := A.lt; omega)
  obtain ⟨Af, Gf, Rf, Kf⟩ := put5 (A.alloc _) (grown_alloc G _) (R.alloc _) hr (Nat.le_refl _) (.int .i64 o) (.int .i64 a) (.int .i64 b) (.string ⟨#[]⟩) (.slice (some ⟨w5.heap.size, 0, none⟩) 2 2)
  refine ⟨Af, .node o a b ⟨#[]⟩ [t1, t2], _, rfl, (row.on Kf).mono (Nat.le_succ _), ho, ?_, ⟨by simp [Tm.ks], (top.on Kf).mono (Nat.le_succ _)⟩, Gf, Rf⟩
  intro i hi
  have h3 : i = 0 ∨ i = 1 := by have : i < 2 := hi; omega
  rcases h3 with rfl | rfl
  · exact ⟨K1.ok, K1.td⟩
  · exact ⟨K2.ok, K2.td⟩

theorem end3 {w w5 : World} {g P P0 d : Nat} {v x0 x1 x2 x3 x4 : Value} {t1 t2 t3 : Tm} {s1 s2 s3 : Value} (o a b : Int) (A : Blk5 w5 w.heap.size x0 x1 x2 x3 x4 33) (G : w.grownBy w5 (some g)) (R : RdOk w5 g v P) (hr : RdOk w g v P0) (K1 : Kid (w.heap.size + 1) d w5 t1 s1) (K2 : Kid (w.heap.size + 1) d w5 t2 s2) (K3 : Kid (w.heap.size + 1) d w5 t3 s3) (ho : TOk (.node o a b ⟨#[]⟩ [])) :
    Blk5 ((((((w5.alloc (.cells #[.int .i64 t1.op, .int .i64 t1.a, .int .i64 t1.b, .string t1.nm, s1, .int .i64 t2.op, .int .i64 t2.a, .int .i64 t2.b, .string t2.nm, s2, .int .i64 t3.op, .int .i64 t3.a, .int .i64 t3.b, .string t3.nm, s3] 33)).setCell ⟨w.heap.size, 0, none⟩ (.int .i64 o)).setCell ⟨w.heap.size, 1, none⟩ (.int .i64 a)).setCell ⟨w.heap.size, 2, none⟩ (.int .i64 b)).setCell ⟨w.heap.size, 3, none⟩ (.string ⟨#[]⟩)).setCell ⟨w.heap.size, 4, none⟩ (.slice (some ⟨w5.heap.size, 0, none⟩) 3 3)) w.heap.size (.int .i64 o) (.int .i64 a) (.int .i64 b) (.string ⟨#[]⟩) (.slice (some ⟨w5.heap.size, 0, none⟩) 3 3) 33 ∧
    GaveT w.heap.size (d + 1) g v P w (.returned (.agg #[.int .i64 o, .int .i64 a, .int .i64 b, .string ⟨#[]⟩, .slice (some ⟨w5.heap.size, 0, none⟩) 3 3])) ((((((w5.alloc (.cells #[.int .i64 t1.op, .int .i64 t1.a, .int .i64 t1.b, .string t1.nm, s1, .int .i64 t2.op, .int .i64 t2.a, .int .i64 t2.b, .string t2.nm, s2, .int .i64 t3.op, .int .i64 t3.a, .int .i64 t3.b, .string t3.nm, s3] 33)).setCell ⟨w.heap.size, 0, none⟩ (.int .i64 o)).setCell ⟨w.heap.size, 1, none⟩ (.int .i64 a)).setCell ⟨w.heap.size, 2, none⟩ (.int .i64 b)).setCell ⟨w.heap.size, 3, none⟩ (.string ⟨#[]⟩)).setCell ⟨w.heap.size, 4, none⟩ (.slice (some ⟨w5.heap.size, 0, none⟩) 3 3)) := by
  have HC : ∀ i j, i < 3 → j < 5 → #[.int .i64 t1.op, .int .i64 t1.a, .int .i64 t1.b, .string t1.nm, s1, .int .i64 t2.op, .int .i64 t2.a, .int .i64 t2.b, .string t2.nm, s2, .int .i64 t3.op, .int .i64 t3.a, .int .i64 t3.b, .string t3.nm, s3][i * 5 + j]? = some (tcell [t1, t2, t3] (fun i => [s1, s2, s3].getD i undef) i j) :=
    (by
      intro i j hi hj
      have h3 : i = 0 ∨ i = 1 ∨ i = 2 := by omega
      have h5 : j = 0 ∨ j = 1 ∨ j = 2 ∨ j = 3 ∨ j = 4 := by omega
      rcases h3 with rfl | rfl | rfl <;> rcases h5 with rfl | rfl | rfl | rfl | rfl <;> rfl)
  have HK : ∀ i, i < 3 → KS (w.heap.size + 1) d w5 ((fun i => [s1, s2, s3].getD i undef) i) ([t1, t2, t3].getD i tz).ks :=
    (by
      intro i hi
      have h3 : i = 0 ∨ i = 1 ∨ i = 2 := by omega
      rcases h3 with rfl | rfl | rfl
      · exact K1.ks
      · exact K2.ks
      · exact K3.ks)
  have row := mkRow (B := w.heap.size + 1) (d := d) (n := 3) (w := w5) [t1, t2, t3] (fun i => [s1, s2, s3].getD i undef) #[.int .i64 t1.op, .int .i64 t1.a, .int .i64 t1.b, .string t1.nm, s1, .int .i64 t2.op, .int .i64 t2.a, .int .i64 t2.b, .string t2.nm, s2, .int .i64 t3.op, .int .i64 t3.a, .int .i64 t3.b, .string t3.nm, s3] 33 rfl (by omega) HC HK
    (by
      intro i hi
      have h3 : i = 0 ∨ i = 1 ∨ i = 2 := by omega
      rcases h3 with rfl | rfl | rfl
      · exact Nat.le_trans K1.ok.2.2.2.2.2.2 (by omega)
      · exact Nat.le_trans K2.ok.2.2.2.2.2.2 (by omega)
      · exact Nat.le_trans K3.ok.2.2.2.2.2.2 (by omega))
    (by have := A.lt; omega)
  have top := mkTop (B := w.heap.size + 1) (d := d) (n := 3) (w := w5) [t1, t2, t3] (fun i => [s1, s2, s3].getD i undef) #[.int .i64 t1.op, .int .i64 t1.a, .int .i64 t1.b, .string t1.nm, s1, .int .i64 t2.op, .int .i64 t2.a, .int .i64 t2.b, .string t2.nm, s2, .int .i64 t3.op, .int .i64 t3.a, .int .i64 t3.b, .string t3.nm, s3] 33 rfl (by omega) HC HK (by have := A.lt; omega)
  obtain ⟨Af, Gf, Rf, Kf⟩ := put5 (A.alloc _) (grown_alloc G _) (R.alloc _) hr (Nat.le_refl _) (.int .i64 o) (.int .i64 a) (.int .i64 b) (.string ⟨#[]⟩) (.slice (some ⟨w5.heap.size, 0, none⟩) 3 3)
  refine ⟨Af, .node o a b ⟨#[]⟩ [t1, t2, t3], _, rfl, (row.on Kf).mono (Nat.le_succ _), ho, ?_, ⟨by simp [Tm.ks], (top.on Kf).mono (Nat.le_succ _)⟩, Gf, Rf⟩
  intro i hi
  have h3 : i = 0 ∨ i = 1 ∨ i = 2 := by have : i < 3 := hi; omega
  rcases h3 with rfl | rfl | rfl
  · exact ⟨K1.ok, K1.td⟩
  · exact ⟨K2.ok, K2.td⟩
  · exact ⟨K3.ok, K3.td⟩

set_option linter.unusedVariables false in
set_option maxRecDepth 100000 in
set_option maxHeartbeats 8000000 in
theorem l2Asks_any (d : Nat) (ih : Hid (TermC d)) (g P : Nat) (v s : Value) (ds : List Dc) (dd : Int) (w : World) (hd : dd = (d : Int) + 1) (hd9 : d ≤ 9) (hr : RdOk w g v P) (hP : P + 10 + 2 * cst d ≤ 900000) (h : NmD g s ds w) :
    Calls Tryd.prog 69 #[.pointer (some ⟨g, 0, none⟩), s, .int .i64 dd] w (GaveT w.heap.size (d + 1) g v (P + 10 + 2 * cst d) w) := by
  have gl := hr.lt
  have hc := cst_succ d
  have hc0 := cst_pos d
  obtain ⟨a, cap, rfl, _⟩ := (h.1 w (World.grownBy.refl _ _)).form
  have A := blk5_new w (.int .i64 0) (.int .i64 0) (.int .i64 0) (.string ⟨#[]⟩) (.slice none 0 0) 33
  have G := World.grownBy_alloc w (.cells #[.int .i64 0, .int .i64 0, .int .i64 0, .string ⟨#[]⟩, .slice none 0 0] 33) (some g)
  have R := hr.alloc (.cells #[.int .i64 0, .int .i64 0, .int .i64 0, .string ⟨#[]⟩, .slice none 0 0] 33)
  replace hr := Lib.hid hr
  have hD := Lib.hid h
  obtain ⟨_, h1, h4, _, hwd⟩ := h
  go_enter Tryd.func69, Tryd.ntmps69
  go_wp2_with fail
  refine (pick_any g _ v 9 _ R (by omega)).mono ?_
  rintro e w1 ⟨p, rfl, p0, p1, _, hg, R2⟩
  replace p1 := p1 (by omega)
  replace G := grown_two G hg; replace A := A.keepG hg (by omega); replace R := R2; clear R2 hg
  by_cases c0 : p = 0
  · subst c0
    go_wp2_with fail
    refine (ih.out g _ v _ ds _ _ _ (by omega) R (by omega) (hD.out.grow G) (by omega) (by omega)).mono ?_
    rintro e w2 ⟨t1, s1, rfl, K1, ok1, td1, _, hg, R2⟩
    have Q1 := Lib.hid (Kid.mk (K1.mono (B' := w.heap.size + 1) (by have := A.lt; omega)) ok1 td1); clear K1 ok1 td1
    replace G := grown_two G hg; replace A := A.keepG hg (by omega); replace R := R2; clear R2 hg
    have A7 := A.alloc (.cells #[.int .i64 t1.op, .int .i64 t1.a, .int .i64 t1.b, .string t1.nm, s1] 33)
    have EN := Lib.hid (end1 25 0 0 A G R hr.out Q1.out (by simp [TOk, Tm.op, Tm.a, Tm.b, Tm.nm, ByteArray.size]))
    clear A G
    obtain ⟨A0, A1, A2, A3, A4, A5⟩ := A7.cells
    obtain ⟨F0, F1, F2, F3, F4⟩ := A7.frozen
    go_wp2_with fail
    obtain ⟨Af, Gf⟩ := EN.out
    obtain ⟨r0, r1, r2, r3, r4, _⟩ := Af.cells
    exact bodyPost_ret (v := .agg #[.int .i64 25, .int .i64 0, .int .i64 0, .string ⟨#[]⟩, .slice (some ⟨w2.heap.size, 0, none⟩) 1 1]) (by simp [results, Tryd.results69, go_sem, r0, r1, r2, r3, r4]) rfl (Gf.le (by omega))
  by_cases c1 : p = 1
  · subst c1
    go_wp2_with fail
    refine (ih.out g _ v _ ds _ _ _ (by omega) R (by omega) (hD.out.grow G) (by omega) (by omega)).mono ?_
    rintro e w2 ⟨t1, s1, rfl, K1, ok1, td1, _, hg, R2⟩
    have Q1 := Lib.hid (Kid.mk (K1.mono (B' := w.heap.size + 1) (by have := A.lt; omega)) ok1 td1); clear K1 ok1 td1
    replace G := grown_two G hg; replace A := A.keepG hg (by omega); replace R := R2; clear R2 hg
    go_wp2_with fail
    refine (ih.out g _ v _ ds _ _ _ (by omega) R (by omega) (hD.out.grow G) (by omega) (by omega)).mono ?_
    rintro e w3 ⟨t2, s2, rfl, K2, ok2, td2, _, hg, R2⟩
    have Q2 := Lib.hid (Kid.mk (K2.mono (B' := w.heap.size + 1) (by have := A.lt; omega)) ok2 td2); clear K2 ok2 td2
    replace Q1 := Lib.hid (Q1.out.on (kept_grownT hg (by omega)))
    replace G := grown_two G hg; replace A := A.keepG hg (by omega); replace R := R2; clear R2 hg
    have A7 := A.alloc (.cells #[.int .i64 t1.op, .int .i64 t1.a, .int .i64 t1.b, .string t1.nm, s1, .int .i64 t2.op, .int .i64 t2.a, .int .i64 t2.b, .string t2.nm, s2] 33)
    have EN := Lib.hid (end2 26 0 0 A G R hr.out Q1.out Q2.out (by simp [TOk, Tm.op, Tm.a, Tm.b, Tm.nm, ByteArray.size]))
    clear A G
    obtain ⟨A0, A1, A2, A3, A4, A5⟩ := A7.cells
    obtain ⟨F0, F1, F2, F3, F4⟩ := A7.frozen
    go_wp2_with fail
    obtain ⟨Af, Gf⟩ := EN.out
    obtain ⟨r0, r1, r2, r3, r4, _⟩ := Af.cells
    exact bodyPost_ret (v := .agg #[.int .i64 26, .int .i64 0, .int .i64 0, .string ⟨#[]⟩, .slice (some ⟨w3.heap.size, 0, none⟩) 2 2]) (by simp [results, Tryd.results69, go_sem, r0, r1, r2, r3, r4]) rfl (Gf.le (by omega))
  by_cases c2 : p = 2
  · subst c2
    go_wp2_with fail
    refine (ih.out g _ v _ ds _ _ _ (by omega) R (by omega) (hD.out.grow G) (by omega) (by omega)).mono ?_
    rintro e w2 ⟨t1, s1, rfl, K1, ok1, td1, _, hg, R2⟩
    have Q1 := Lib.hid (Kid.mk (K1.mono (B' := w.heap.size + 1) (by have := A.lt; omega)) ok1 td1); clear K1 ok1 td1
    replace G := grown_two G hg; replace A := A.keepG hg (by omega); replace R := R2; clear R2 hg
    go_wp2_with fail
    refine (ih.out g _ v _ ds _ _ _ (by omega) R (by omega) (hD.out.grow G) (by omega) (by omega)).mono ?_
    rintro e w3 ⟨t2, s2, rfl, K2, ok2, td2, _, hg, R2⟩
    have Q2 := Lib.hid (Kid.mk (K2.mono (B' := w.heap.size + 1) (by have := A.lt; omega)) ok2 td2); clear K2 ok2 td2
    replace Q1 := Lib.hid (Q1.out.on (kept_grownT hg (by omega)))
    replace G := grown_two G hg; replace A := A.keepG hg (by omega); replace R := R2; clear R2 hg
    have A7 := A.alloc (.cells #[.int .i64 t1.op, .int .i64 t1.a, .int .i64 t1.b, .string t1.nm, s1, .int .i64 t2.op, .int .i64 t2.a, .int .i64 t2.b, .string t2.nm, s2] 33)
    have EN := Lib.hid (end2 27 0 0 A G R hr.out Q1.out Q2.out (by simp [TOk, Tm.op, Tm.a, Tm.b, Tm.nm, ByteArray.size]))
    clear A G
    obtain ⟨A0, A1, A2, A3, A4, A5⟩ := A7.cells
    obtain ⟨F0, F1, F2, F3, F4⟩ := A7.frozen
    go_wp2_with fail
    obtain ⟨Af, Gf⟩ := EN.out
    obtain ⟨r0, r1, r2, r3, r4, _⟩ := Af.cells
    exact bodyPost_ret (v := .agg #[.int .i64 27, .int .i64 0, .int .i64 0, .string ⟨#[]⟩, .slice (some ⟨w3.heap.size, 0, none⟩) 2 2]) (by simp [results, Tryd.results69, go_sem, r0, r1, r2, r3, r4]) rfl (Gf.le (by omega))
  have n0 : (p == 0) = false := by simpa using c0
  have n1 : (p == 1) = false := by simpa using c1
  have n2 : (p == 2) = false := by simpa using c2
  go_wp2_with fail
  refine (pick_any g _ v 4 _ R (by omega)).mono ?_
  rintro e w2 ⟨q, rfl, q0, q1, _, hg, R2⟩
  replace q1 := q1 (by omega)
  replace G := grown_two G hg; replace A := A.keepG hg (by omega); replace R := R2; clear R2 hg
  go_wp2_with fail
  refine (pick_any g _ v 3 _ R (by omega)).mono ?_
  rintro e w3 ⟨x, rfl, x0, x1, _, hg, R2⟩
  replace x1 := x1 (by omega)
  replace G := grown_two G hg; replace A := A.keepG hg (by omega); replace R := R2; clear R2 hg
  by_cases cx : 0 < x
  · have hl0 : (0 : Int) < (ds.length : Int) := by omega
    go_wp2_with fail
    refine (pick_any g _ v ds.length _ R (by omega)).mono ?_
    rintro e w4 ⟨m, rfl, m0, m1, _, hg, R2⟩
    replace m1 := m1 (by omega)
    replace G := grown_two G hg; replace A := A.keepG hg (by omega); replace R := R2; clear R2 hg
    obtain ⟨mn, rfl⟩ : ∃ mn : Nat, m = mn := ⟨m.toNat, by omega⟩
    have hml : mn < ds.length := by omega
    obtain ⟨a', cap', e', hrow, _⟩ := hD.out.1 _ G
    cases e'
    obtain ⟨b, off, rfl, _, c0', c1'⟩ := hrow.duo hml
    have hwm := hwd mn hml
    clear hrow
    generalize ds.getD mn dz = xx at *
    go_wp2_with fail
    have A7 := A.alloc (.cells #[.int .i64 15, .int .i64 16, .int .i64 17, .int .i64 15] 3)
    have G7 := grown_alloc G (.cells #[.int .i64 15, .int .i64 16, .int .i64 17, .int .i64 15] 3)
    have R7 := R.alloc (.cells #[.int .i64 15, .int .i64 16, .int .i64 17, .int .i64 15] 3)
    have hne : w4.heap.size ≠ g := by have := A.lt; omega
    clear A G R
    go_wp2_with fail
    refine (num_in (fun x => 15 ≤ x ∧ x ≤ 17) g _ v w4.heap.size 4 4 _ R7 (by omega) (by omega) (by omega) hne (new_ints_in w4 (fun x => 15 ≤ x ∧ x ≤ 17) [15, 16, 17, 15] 3 (by simp))).mono ?_
    rintro e w5 ⟨_, rfl, ⟨o, rfl, o0, o1⟩, hg, R⟩
    have G := grown_two G7 hg; have A := A7.keepG hg (by omega); clear A7 G7 R7 hg hne
    go_wp2_with fail
    refine (ih.out g _ v _ ds _ _ _ (by omega) R (by omega) (hD.out.grow G) (by omega) (by omega)).mono ?_
    rintro e w6 ⟨t1, s1, rfl, K1, ok1, td1, _, hg, R2⟩
    have Q1 := Lib.hid (Kid.mk (K1.mono (B' := w.heap.size + 1) (by have := A.lt; omega)) ok1 td1); clear K1 ok1 td1
    replace G := grown_two G hg; replace A := A.keepG hg (by omega); replace R := R2; clear R2 hg
    go_wp2_with fail
    refine (ih.out g _ v _ ds _ _ _ (by omega) R (by omega) (hD.out.grow G) (by omega) (by omega)).mono ?_
    rintro e w7 ⟨t2, s2, rfl, K2, ok2, td2, _, hg, R2⟩
    have Q2 := Lib.hid (Kid.mk (K2.mono (B' := w.heap.size + 1) (by have := A.lt; omega)) ok2 td2); clear K2 ok2 td2
    replace Q1 := Lib.hid (Q1.out.on (kept_grownT hg (by omega)))
    replace G := grown_two G hg; replace A := A.keepG hg (by omega); replace R := R2; clear R2 hg
    have A7 := A.alloc (.cells #[.int .i64 t1.op, .int .i64 t1.a, .int .i64 t1.b, .string t1.nm, s1, .int .i64 t2.op, .int .i64 t2.a, .int .i64 t2.b, .string t2.nm, s2] 33)
    have EN := Lib.hid (end2 o 0 0 A G R hr.out Q1.out Q2.out (⟨by simp [Tm.op]; omega, by simp [Tm.op]; omega, by simp [Tm.a], by simp [Tm.a], by simp [Tm.b], by simp [Tm.b], by simp [Tm.nm, ByteArray.size]⟩))
    clear A G
    obtain ⟨A0, A1, A2, A3, A4, A5⟩ := A7.cells
    obtain ⟨F0, F1, F2, F3, F4⟩ := A7.frozen
    go_wp2_with fail
    obtain ⟨Af, Gf⟩ := EN.out
    obtain ⟨r0, r1, r2, r3, r4, _⟩ := Af.cells
    exact bodyPost_ret (v := .agg #[.int .i64 o, .int .i64 0, .int .i64 0, .string ⟨#[]⟩, .slice (some ⟨w7.heap.size, 0, none⟩) 2 2]) (by simp [results, Tryd.results69, go_sem, r0, r1, r2, r3, r4]) rfl (Gf.le (by omega))
  · have hl0 : (0 : Int) < (ds.length : Int) := by omega
    have dx : decide (0 < x) = false := by simpa using cx
    go_wp2_with fail
    have A7 := A.alloc (.cells #[.int .i64 15, .int .i64 16, .int .i64 17, .int .i64 15] 3)
    have G7 := grown_alloc G (.cells #[.int .i64 15, .int .i64 16, .int .i64 17, .int .i64 15] 3)
    have R7 := R.alloc (.cells #[.int .i64 15, .int .i64 16, .int .i64 17, .int .i64 15] 3)
    have hne : w3.heap.size ≠ g := by have := A.lt; omega
    clear A G R
    go_wp2_with fail
    refine (num_in (fun x => 15 ≤ x ∧ x ≤ 17) g _ v w3.heap.size 4 4 _ R7 (by omega) (by omega) (by omega) hne (new_ints_in w3 (fun x => 15 ≤ x ∧ x ≤ 17) [15, 16, 17, 15] 3 (by simp))).mono ?_
    rintro e w4 ⟨_, rfl, ⟨o, rfl, o0, o1⟩, hg, R⟩
    have G := grown_two G7 hg; have A := A7.keepG hg (by omega); clear A7 G7 R7 hg hne
    go_wp2_with fail
    refine (ih.out g _ v _ ds _ _ _ (by omega) R (by omega) (hD.out.grow G) (by omega) (by omega)).mono ?_
    rintro e w5 ⟨t1, s1, rfl, K1, ok1, td1, _, hg, R2⟩
    have Q1 := Lib.hid (Kid.mk (K1.mono (B' := w.heap.size + 1) (by have := A.lt; omega)) ok1 td1); clear K1 ok1 td1
    replace G := grown_two G hg; replace A := A.keepG hg (by omega); replace R := R2; clear R2 hg
    go_wp2_with fail
    refine (ih.out g _ v _ ds _ _ _ (by omega) R (by omega) (hD.out.grow G) (by omega) (by omega)).mono ?_
    rintro e w6 ⟨t2, s2, rfl, K2, ok2, td2, _, hg, R2⟩
    have Q2 := Lib.hid (Kid.mk (K2.mono (B' := w.heap.size + 1) (by have := A.lt; omega)) ok2 td2); clear K2 ok2 td2
    replace Q1 := Lib.hid (Q1.out.on (kept_grownT hg (by omega)))
    replace G := grown_two G hg; replace A := A.keepG hg (by omega); replace R := R2; clear R2 hg
    have A7 := A.alloc (.cells #[.int .i64 t1.op, .int .i64 t1.a, .int .i64 t1.b, .string t1.nm, s1, .int .i64 t2.op, .int .i64 t2.a, .int .i64 t2.b, .string t2.nm, s2] 33)
    have EN := Lib.hid (end2 o 0 0 A G R hr.out Q1.out Q2.out (⟨by simp [Tm.op]; omega, by simp [Tm.op]; omega, by simp [Tm.a], by simp [Tm.a], by simp [Tm.b], by simp [Tm.b], by simp [Tm.nm, ByteArray.size]⟩))
    clear A G
    obtain ⟨A0, A1, A2, A3, A4, A5⟩ := A7.cells
    obtain ⟨F0, F1, F2, F3, F4⟩ := A7.frozen
    go_wp2_with fail
    obtain ⟨Af, Gf⟩ := EN.out
    obtain ⟨r0, r1, r2, r3, r4, _⟩ := Af.cells
    exact bodyPost_ret (v := .agg #[.int .i64 o, .int .i64 0, .int .i64 0, .string ⟨#[]⟩, .slice (some ⟨w6.heap.size, 0, none⟩) 2 2]) (by simp [results, Tryd.results69, go_sem, r0, r1, r2, r3, r4]) rfl (Gf.le (by omega))
end Go.Proofs.YtfkanemjedndgaaDoor
