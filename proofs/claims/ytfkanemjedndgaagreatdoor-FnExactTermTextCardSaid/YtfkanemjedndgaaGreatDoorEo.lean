/- Arguments that are slices of declarations, opened: the lists that they read as. -/
import Derived.Test.YtfkanemjedndgaaGreatDoorSo
import Derived.Test.YtfkanemjedndgaaGreatDoorEd
import Derived.ChangeSame
import Derived.Lib.SmallJoins
import Derived.Deep.Slices
import Derived.Deep.Strs
import Derived.Deep.Fields
namespace Go.Proofs.YtfkanemjedndgaaGreatDoor
open Go.ChangeShapes Go.WideShapes Go.Deep Go.Joins

theorem RowS.nil (w : World) (s : Nat) (f : Nat → Nat → Value) : RowS w none 0 0 s f := ⟨Nat.le_refl _, Nat.zero_le _, .inl rfl⟩

def dcWf (g : Dc) : Prop := (Lit.int .i64 g.2).wf = true
set_option maxRecDepth 100000 in
theorem decls_open {H : Type} {enc : TypeId × Value → H} {W : World} {base : Nat} {t e : TypeId} {f0 f1 : Field} {v : Value} {x : DataW H} {ps : List MemPlace}
    (ht : Tryz.prog.underlying t = some (.slice e)) (he : Tryz.prog.underlying e = some (.struct #[f0, f1])) (ce : Tryz.prog.cellsOf e = 2) (hone : oneCellFields Tryz.prog #[f0, f1] = true)
    (hb : Tryz.prog.underlying f0.type = some .string) (hi : Tryz.prog.underlying f1.type = some (.int .i64))
    (hval : Value.okWide Tryz.prog W .any base t v) (h0 : DataW.Trod enc Tryz.prog W 0 (fun _ => true) true t v x ps) : ∃ ds : List Dc, Decls W v ds ∧ ∀ i, i < ds.length → dcWf (ds.getD i dz) := by
  obtain ⟨a0, len0, cap0, rfl⟩ := okWide_slice ht hval
  obtain ⟨fuel, h⟩ := h0
  rcases open_slice ht h with ⟨hcs, _⟩ | ⟨a, len, cap, m, n, D, Pl, hcs, _, hl, hm, hmm, _, hx⟩
  · simp [Value.cells] at hcs
    obtain ⟨rfl, rfl, rfl⟩ := hcs
    exact ⟨[], ⟨none, 0, rfl, RowS.nil _ _ _, fun i hi => absurd hi (Nat.not_lt_zero _)⟩, fun i hi => absurd hi (Nat.not_lt_zero _)⟩
  · simp [Value.cells] at hcs
    obtain ⟨rfl, rfl, rfl⟩ := hcs
    simp only [if_true] at hmm
    subst hmm
    rw [ce] at hx
    have each : ∀ i, i < len0 → ∃ g : Dc, (W.cell? (a.add (i * 2)) = some (.string g.1) ∧ W.cell? (a.add (i * 2 + 1)) = some (.int .i64 g.2)) ∧ g.1.size ≤ 9223372036854775807 ∧ dcWf g := by
      intro i hi1
      obtain ⟨cs, h1, h2⟩ := hx i (by omega)
      obtain ⟨_, hlen, hcell⟩ := World.cells?_some h1
      obtain ⟨y0, y1, k, _, _, t0, t1⟩ := trod_struct2 he h2
      obtain ⟨o0, k0⟩ := hone_of hone 0 f0 rfl
      obtain ⟨o1, k1⟩ := hone_of hone 1 f1 rfl
      obtain ⟨c0, c1, rfl⟩ : ∃ c0 c1, cs = [c0, c1] := by
        match cs, hlen with
        | [c0, c1], _ => exact ⟨c0, c1, rfl⟩
      rw [o0, k0] at t0
      rw [o1, k1] at t1
      obtain ⟨b, hb1, _, wn⟩ := DataW.trod_string hb t0
      obtain ⟨p, hp1, _, wp⟩ := DataW.trod_int hi t1
      simp at hb1 hp1
      subst hb1 hp1
      have e0 := hcell 0 (by omega)
      have e1 := hcell 1 (by omega)
      rw [add_add] at e0 e1
      exact ⟨(b, p), ⟨by simpa using e0, by simpa using e1⟩, by unfold maxLen at wn; simp only; omega, wp⟩
    obtain ⟨G, hG⟩ := choose_lt each
    have e1 : ((List.range len0).map G).length = len0 := by simp
    have e2 : ∀ i, i < len0 → ((List.range len0).map G).getD i dz = G i := fun i hi => by simp [List.getD_eq_getElem?_getD, hi]
    refine ⟨(List.range len0).map G, ⟨some a, _, by rw [e1], ?_, fun i hi => by rw [e1] at hi; rw [e2 i hi]; exact (hG i hi).2.1⟩, fun i hi => by rw [e1] at hi; rw [e2 i hi]; exact (hG i hi).2.2⟩
    rw [e1]
    refine ⟨hl, hm, ?_⟩
    rcases Nat.eq_zero_or_pos len0 with hz | hz
    · exact .inl hz
    · obtain ⟨b, off, spot⟩ := a
      have hc0 := (hG 0 hz).1.1
      have hspot : spot = none := by simpa [Addr.add] using World.cell?_spot hc0
      subst hspot
      have ea : ∀ i, (Addr.mk b off none).add i = ⟨b, off + i, none⟩ := fun i => by simp only [Addr.add]; split <;> simp_all
      refine .inr ⟨b, off, rfl, lt_of_cells (by rw [ea] at hc0; exact hc0), fun i hi j hj => ?_⟩
      obtain ⟨⟨g0, g1⟩, _⟩ := hG i hi
      rw [ea] at g0 g1
      match j, hj with
      | 0, _ => simp only [dcell, e2 i hi]; exact g0
      | 1, _ => simp only [dcell, e2 i hi]; exact g1
end Go.Proofs.YtfkanemjedndgaaGreatDoor
