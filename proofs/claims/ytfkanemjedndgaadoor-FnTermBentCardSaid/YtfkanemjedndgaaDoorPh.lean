/- Names and a term that are drawn: DrawTermSort. The conditions stand in each statement. -/
import Derived.Test.YtfkanemjedndgaaDoorPg
import Derived.Test.YtfkanemjedndgaaDoorBy
namespace Go.Proofs.YtfkanemjedndgaaDoor
open Go.RowKit

def DrewS (w : World) (e : Ending) (w' : World) : Prop :=
  ∃ (b cap : Nat) (ds : List Dc) (t : Tm) (s : Value) (D : Nat), e = .returned (.tuple #[.slice (some ⟨b, 0, none⟩) ds.length cap, .agg #[.int .i64 t.op, .int .i64 t.a, .int .i64 t.b, .string t.nm, s]]) ∧
    Decls w' (.slice (some ⟨b, 0, none⟩) ds.length cap) ds ∧ ds.length ≤ 6 ∧ Top w.heap.size D w' s t.ks ∧ TK t ∧ TD D t.ks ∧ t.ks.length ≤ 4 ∧ D ≤ 12 ∧ Below w.heap.size w w'

set_option linter.unusedVariables false in
set_option maxRecDepth 100000 in
set_option maxHeartbeats 8000000 in
theorem drawTermSort_any (v : Value) (w : World) (h : BytesIn w v) : Calls Tryd.prog 13 #[v] w (DrewS w) := by
  obtain ⟨a0, len, cp, rfl⟩ : ∃ a len cap, v = .slice a len cap := by
    rcases h with ⟨a, c, rfl⟩ | ⟨b, off, len, cap, rfl, _⟩ <;> exact ⟨_, _, _, rfl⟩
  have A := blk5_new w (.int .i64 0) (.int .i64 0) (.int .i64 0) (.string ⟨#[]⟩) (.slice none 0 0) 33
  have B := below_self_alloc w (.cells #[.int .i64 0, .int .i64 0, .int .i64 0, .string ⟨#[]⟩, .slice none 0 0] 33)
  replace h := h.alloc (.cells #[.int .i64 0, .int .i64 0, .int .i64 0, .string ⟨#[]⟩, .slice none 0 0] 33)
  go_enter Tryd.func13, Tryd.ntmps13
  go_wp2_with fail
  refine (l12Open_any _ _ h).mono ?_
  rintro e w1 ⟨g, u, rfl, hg, hb, hr⟩
  have hgh : w.heap.size < g := by simp at hg; omega
  replace A := A.keep hb
  replace B := below_two B hb
  have gl := hr.lt
  have hA := A.lt
  clear hb h hg
  go_wp2_with fail
  refine (l2Draw_any g 0 u w1 hr (by omega)).mono ?_
  rintro e w2 ⟨bs, caps, ds, t2, s2, D, rfl, own, nmd, hln, top, tk, td, hl, hD, hg2, hr2⟩
  obtain ⟨sb, sq, rfl⟩ := top.form
  replace A := A.keepG hg2 (by omega); replace B := below_of_grown B hg2 (by omega)
  have HO := Lib.hid own
  replace top := Lib.hid top; replace tk := Lib.hid tk; replace td := Lib.hid td
  clear hg2 hr hr2 own
  obtain ⟨A0, A1, A2, A3, A4, _⟩ := A.cells
  obtain ⟨F0, F1, F2, F3, F4⟩ := A.frozen
  go_wp2_with fail
  have Af := ((((A.set0 (.int .i64 t2.op)).set1 (.int .i64 t2.a)).set2 (.int .i64 t2.b)).set3 (.string t2.nm)).set4 (.slice sb t2.ks.length sq)
  obtain ⟨r0, r1, r2, r3, r4, _⟩ := Af.cells
  have hlt : w.heap.size < w1.heap.size + 1 := by omega
  have Kf := kept_set (kept_set (kept_set (kept_set (kept_set (Kept.refl (w1.heap.size + 1) w2) (p := ⟨w.heap.size, 0, none⟩) hlt (.int .i64 t2.op)) (p := ⟨w.heap.size, 1, none⟩) hlt (.int .i64 t2.a)) (p := ⟨w.heap.size, 2, none⟩) hlt (.int .i64 t2.b)) (p := ⟨w.heap.size, 3, none⟩) hlt (.string t2.nm)) (p := ⟨w.heap.size, 4, none⟩) hlt (.slice sb t2.ks.length sq)
  have Bf := ((((B.setCell (p := ⟨w.heap.size, 0, none⟩) (Nat.le_refl _) (.int .i64 t2.op)).setCell (p := ⟨w.heap.size, 1, none⟩) (Nat.le_refl _) (.int .i64 t2.a)).setCell (p := ⟨w.heap.size, 2, none⟩) (Nat.le_refl _) (.int .i64 t2.b)).setCell (p := ⟨w.heap.size, 3, none⟩) (Nat.le_refl _) (.string t2.nm)).setCell (p := ⟨w.heap.size, 4, none⟩) (Nat.le_refl _) (.slice sb t2.ks.length sq)
  exact bodyPost_ret (v := .tuple #[.slice (some ⟨bs, 0, none⟩) ds.length caps, .agg #[.int .i64 t2.op, .int .i64 t2.a, .int .i64 t2.b, .string t2.nm, .slice sb t2.ks.length sq]]) (by simp [results, Tryd.results13, go_sem, r0, r1, r2, r3, r4]) rfl
    ⟨bs, caps, ds, t2, _, D, rfl, OwnD.decls (own_kept HO.out Kf (Nat.le_refl _)) nmd, hln, (top.out.on Kf).mono (by omega), tk.out, td.out, hl, hD, Bf⟩
end Go.Proofs.YtfkanemjedndgaaDoor
