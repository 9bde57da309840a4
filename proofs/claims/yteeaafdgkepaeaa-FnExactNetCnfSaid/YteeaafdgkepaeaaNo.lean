/- Arguments that are slices of gates, opened: the lists that they read as. -/
import Derived.Test.YteeaafdgkepaeaaSo
import Derived.Test.YteeaafdgkepaeaaNg
import Derived.Lib.SmallJoins
import Derived.Deep.Slices
import Derived.Deep.Strs
namespace Go.Proofs.Yteeaafdgkepaeaa
open Go.ChangeShapes Go.WideShapes Go.Deep Go.Joins

theorem RowS.nil (w : World) (s : Nat) (f : Nat → Nat → Value) : RowS w none 0 0 s f := ⟨Nat.le_refl _, Nat.zero_le _, .inl rfl⟩

def gtWf (g : Gt) : Prop := (Lit.int .i64 g.2.1).wf = true ∧ (Lit.int .i64 g.2.2).wf = true
set_option maxRecDepth 100000 in
theorem gates_open {H : Type} {enc : TypeId × Value → H} {W : World} {t e : TypeId} {f0 f1 f2 : Field} {fuel : Nat} {v : Value} {x : DataW H × List MemPlace}
    (ht : Try.prog.underlying t = some (.slice e)) (he : Try.prog.underlying e = some (.struct #[f0, f1, f2])) (ce : Try.prog.cellsOf e = 3) (hone : oneCellFields Try.prog #[f0, f1, f2] = true)
    (hb : Try.prog.underlying f0.type = some .bool) (hi : Try.prog.underlying f1.type = some (.int .i64)) (hj : Try.prog.underlying f2.type = some (.int .i64))
    (h : DataW.trod enc Try.prog W 0 (fun _ => true) true fuel t [v] = some x) : ∃ gs : List Gt, Gates W v gs ∧ ∀ i, i < gs.length → gtWf (gs.getD i gz) := by
  rcases open_slice ht h with ⟨hcs, _⟩ | ⟨a, len, cap, m, n, D, Pl, hcs, _, hl, hm, hmm, _, hx⟩
  · obtain rfl : v = .slice none 0 0 := by simpa using hcs
    exact ⟨[], ⟨none, 0, rfl, RowS.nil _ _ _⟩, fun i hi => absurd hi (Nat.not_lt_zero _)⟩
  · obtain rfl : v = .slice (some a) len cap := by simpa using hcs
    simp only [if_true] at hmm
    subst hmm
    rw [ce] at hx
    have each : ∀ i, i < len → ∃ g : Gt, (W.cell? (a.add (i * 3)) = some (.bool g.1) ∧ W.cell? (a.add (i * 3 + 1)) = some (.int .i64 g.2.1) ∧ W.cell? (a.add (i * 3 + 2)) = some (.int .i64 g.2.2)) ∧ gtWf g := by
      intro i hi1
      obtain ⟨cs, h1, h2⟩ := hx i (by omega)
      obtain ⟨_, hlen, hcell⟩ := World.cells?_some h1
      obtain ⟨y0, y1, y2, k, _, _, t0, t1, t2⟩ := trod_struct3 he h2
      obtain ⟨o0, k0⟩ := hone_of hone 0 f0 rfl
      obtain ⟨o1, k1⟩ := hone_of hone 1 f1 rfl
      obtain ⟨o2, k2⟩ := hone_of hone 2 f2 rfl
      obtain ⟨c0, c1, c2, rfl⟩ : ∃ c0 c1 c2, cs = [c0, c1, c2] := by
        match cs, hlen with
        | [c0, c1, c2], _ => exact ⟨c0, c1, c2, rfl⟩
      rw [o0, k0] at t0
      rw [o1, k1] at t1
      rw [o2, k2] at t2
      obtain ⟨b, hb1, _⟩ := DataW.trod_bool hb t0
      obtain ⟨p, hp1, _, wp⟩ := DataW.trod_int hi t1
      obtain ⟨q, hq1, _, wq⟩ := DataW.trod_int hj t2
      simp at hb1 hp1 hq1
      subst hb1 hp1 hq1
      have e0 := hcell 0 (by omega)
      have e1 := hcell 1 (by omega)
      have e2 := hcell 2 (by omega)
      rw [add_add] at e0 e1 e2
      exact ⟨(b, p, q), ⟨by simpa using e0, by simpa using e1, by simpa using e2⟩, wp, wq⟩
    obtain ⟨G, hG⟩ := choose_lt each
    have e1 : ((List.range len).map G).length = len := by simp
    have e2 : ∀ i, i < len → ((List.range len).map G).getD i gz = G i := fun i hi => by simp [List.getD_eq_getElem?_getD, hi]
    refine ⟨(List.range len).map G, ⟨some a, m, by rw [e1], ?_⟩, fun i hi => by rw [e1] at hi; rw [e2 i hi]; exact (hG i hi).2⟩
    rw [e1]
    refine ⟨hl, hm, ?_⟩
    rcases Nat.eq_zero_or_pos len with hz | hz
    · exact .inl hz
    · obtain ⟨b, off, spot⟩ := a
      have hc0 := (hG 0 hz).1.1
      have hspot : spot = none := by simpa [Addr.add] using World.cell?_spot hc0
      subst hspot
      have ea : ∀ i, (Addr.mk b off none).add i = ⟨b, off + i, none⟩ := fun i => by simp only [Addr.add]; split <;> simp_all
      refine .inr ⟨b, off, rfl, lt_of_cells (by rw [ea] at hc0; exact hc0), fun i hi j hj => ?_⟩
      obtain ⟨⟨g0, g1, g2⟩, _⟩ := hG i hi
      rw [ea] at g0 g1 g2
      match j, hj with
      | 0, _ => simp only [gcell, e2 i hi]; exact g0
      | 1, _ => simp only [gcell, e2 i hi]; exact g1
      | 2, _ => simp only [gcell, e2 i hi]; exact g2
end Go.Proofs.Yteeaafdgkepaeaa
