/- Arguments that are terms, opened: what they read as. -/
import Derived.Test.YtfkanemjedndgaaGreatDoorTm
import Derived.ChangeSlices
import Derived.WideShapes
import Derived.Lib.SmallJoins
import Derived.Deep.Slices
import Derived.Deep.Strs
namespace Go.Proofs.YtfkanemjedndgaaGreatDoor
open Go.ChangeShapes Go.WideShapes Go.Deep Go.Joins

theorem lt_of_cells {w : World} {b i : Nat} {x : Value} (h : w.cell? ⟨b, i, none⟩ = some x) : b < w.heap.size := by
  rcases Nat.lt_or_ge b w.heap.size with h1 | h1
  · exact h1
  · simp [World.cell?, Array.getElem?_eq_none h1] at h

theorem SIn.up : ∀ {d : Nat} {w : World} {s : Value} {ks : List Tm}, SIn d w s ks → SIn (d + 1) w s ks
  | 0, _, _, _, ⟨h, a, cap, e, hc⟩ => by
    subst h
    exact ⟨a, cap, fun _ => undef, e, ⟨Nat.zero_le _, hc, .inl rfl⟩, fun i hi => absurd hi (Nat.not_lt_zero _), fun i hi => absurd hi (Nat.not_lt_zero _)⟩
  | _ + 1, _, _, _, ⟨a, cap, S, e, hr, hn, hk⟩ => ⟨a, cap, S, e, hr, hn, fun i hi => (hk i hi).up⟩

/-- every number of so many levels is an int64 -/
def Wf3 (t : Tm) : Prop := (Lit.int .i64 t.op).wf = true ∧ (Lit.int .i64 t.a).wf = true ∧ (Lit.int .i64 t.b).wf = true
def TW : Nat → List Tm → Prop
  | 0, _ => True
  | d + 1, ks => ∀ i, i < ks.length → Wf3 (ks.getD i tz) ∧ TW d (ks.getD i tz).ks
theorem TW.up : ∀ {d : Nat} {w : World} {s : Value} {ks : List Tm}, SIn d w s ks → TW d ks → TW (d + 1) ks
  | 0, _, _, _, ⟨h, _⟩, _ => fun i hi => by subst h; exact absurd hi (Nat.not_lt_zero _)
  | d + 1, _, _, _, ⟨_, _, _, _, _, _, hk⟩, h => fun i hi => ⟨(h i hi).1, TW.up (hk i hi) (h i hi).2⟩
theorem cellsInt : Tryz.prog.cellsOf 3 = 1 := by kernel_rfl
theorem cellsStr : Tryz.prog.cellsOf 9 = 1 := by kernel_rfl
theorem cellsKids : Tryz.prog.cellsOf 23 = 1 := by kernel_rfl
theorem cellsTerm : Tryz.prog.cellsOf 25 = 5 := by kernel_rfl
theorem getElem?_some_of {α : Type} {l : List α} {i : Nat} (h : i < l.length) : ∃ x, l[i]? = some x := ⟨l[i], List.getElem?_eq_getElem h⟩

set_option maxRecDepth 100000 in
/-- the five cells of a term, read by so much fuel -/
theorem term_cells {H : Type} {enc : TypeId × Value → H} {W : World} {n : Nat} {cs : List Value} {y : DataW H × List MemPlace} (h : DataW.trod enc Tryz.prog W 0 (fun _ => true) true n 25 cs = some y) :
    ∃ (o a b : Int) (nm : ByteArray) (s : Value) (m : Nat) (z : DataW H × List MemPlace), n = m + 1 ∧ cs = [.int .i64 o, .int .i64 a, .int .i64 b, .string nm, s] ∧ nm.size ≤ maxLen ∧ ((Lit.int .i64 o).wf = true ∧ (Lit.int .i64 a).wf = true ∧ (Lit.int .i64 b).wf = true) ∧ DataW.trod enc Tryz.prog W 0 (fun _ => true) true m 23 [s] = some z := by
  obtain ⟨xs, m, hm, _, hcl, hxl, hf⟩ := DataW.trod_struct Tryz.underlying25 h
  rw [cellsTerm] at hcl
  obtain ⟨c0, c1, c2, c3, c4, rfl⟩ : ∃ c0 c1 c2 c3 c4, cs = [c0, c1, c2, c3, c4] := by
    match cs, hcl with
    | [c0, c1, c2, c3, c4], _ => exact ⟨c0, c1, c2, c3, c4, rfl⟩
  have hx5 : xs.length = 5 := hxl
  obtain ⟨x0, e0⟩ := getElem?_some_of (show 0 < xs.length by omega)
  obtain ⟨x1, e1⟩ := getElem?_some_of (show 1 < xs.length by omega)
  obtain ⟨x2, e2⟩ := getElem?_some_of (show 2 < xs.length by omega)
  obtain ⟨x3, e3⟩ := getElem?_some_of (show 3 < xs.length by omega)
  obtain ⟨x4, e4⟩ := getElem?_some_of (show 4 < xs.length by omega)
  have g0 : DataW.trod enc Tryz.prog W 0 (fun _ => true) true m 3 (([c0, c1, c2, c3, c4].drop 0).take (Tryz.prog.cellsOf 3)) = xs[0]? := hf 0 _ rfl
  have g1 : DataW.trod enc Tryz.prog W 0 (fun _ => true) true m 3 (([c0, c1, c2, c3, c4].drop 1).take (Tryz.prog.cellsOf 3)) = xs[1]? := hf 1 _ rfl
  have g2 : DataW.trod enc Tryz.prog W 0 (fun _ => true) true m 3 (([c0, c1, c2, c3, c4].drop 2).take (Tryz.prog.cellsOf 3)) = xs[2]? := hf 2 _ rfl
  have g3 : DataW.trod enc Tryz.prog W 0 (fun _ => true) true m 9 (([c0, c1, c2, c3, c4].drop 3).take (Tryz.prog.cellsOf 9)) = xs[3]? := hf 3 _ rfl
  have g4 : DataW.trod enc Tryz.prog W 0 (fun _ => true) true m 23 (([c0, c1, c2, c3, c4].drop 4).take (Tryz.prog.cellsOf 23)) = xs[4]? := hf 4 _ rfl
  rw [e0] at g0
  rw [e1] at g1
  rw [e2] at g2
  rw [e3] at g3
  rw [e4] at g4
  rw [cellsInt] at g0 g1 g2
  rw [cellsStr] at g3
  rw [cellsKids] at g4
  obtain ⟨o, ho, _, wo⟩ := DataW.trod_int Tryz.underlying3 g0
  obtain ⟨a, ha, _, wa⟩ := DataW.trod_int Tryz.underlying3 g1
  obtain ⟨b, hb, _, wb⟩ := DataW.trod_int Tryz.underlying3 g2
  obtain ⟨nm, hn, _, wn⟩ := DataW.trod_string Tryz.underlying9 g3
  simp at ho ha hb hn
  subst ho ha hb hn
  exact ⟨o, a, b, nm, c4, m, x4, hm, rfl, wn, ⟨wo, wa, wb⟩, by simpa using g4⟩

set_option maxRecDepth 100000 in
/-- a slice of terms, read by so much fuel -/
theorem terms_open {H : Type} {enc : TypeId × Value → H} {W : World} : ∀ (fuel : Nat) (v : Value) (x : DataW H × List MemPlace),
    DataW.trod enc Tryz.prog W 0 (fun _ => true) true fuel 23 [v] = some x → ∃ ks : List Tm, SIn fuel W v ks ∧ TW fuel ks := by
  intro fuel
  induction fuel using Nat.strongRecOn with
  | _ fuel ih =>
    intro v x h
    rcases fuel with _ | fuel
    · simp [DataW.trod] at h
    rcases DataW.trod_slice Tryz.underlying23 h with ⟨hcs, _⟩ | ⟨a, len, cap, elems, rest, n, hn, hcs, _, _, hl, hm, hel, hget, _⟩
    · obtain rfl : v = .slice none 0 0 := by simpa using hcs
      exact ⟨[], ⟨none, 0, fun _ => undef, rfl, ⟨Nat.le_refl _, Nat.zero_le _, .inl rfl⟩, fun i hi => absurd hi (Nat.not_lt_zero _), fun i hi => absurd hi (Nat.not_lt_zero _)⟩, fun i hi => absurd hi (Nat.not_lt_zero _)⟩
    · obtain rfl : v = .slice (some a) len cap := by simpa using hcs
      obtain rfl : n = fuel := by omega
      rw [cellsTerm] at hget
      have each : ∀ i, i < len → ∃ p : Tm × Value, (W.cell? (a.add (i * 5)) = some (.int .i64 p.1.op) ∧ W.cell? (a.add (i * 5 + 1)) = some (.int .i64 p.1.a) ∧ W.cell? (a.add (i * 5 + 2)) = some (.int .i64 p.1.b) ∧ W.cell? (a.add (i * 5 + 3)) = some (.string p.1.nm) ∧ W.cell? (a.add (i * 5 + 4)) = some p.2) ∧ p.1.nm.size ≤ 9223372036854775807 ∧ SIn n W p.2 p.1.ks ∧ Wf3 p.1 ∧ TW n p.1.ks := by
        intro i hi
        obtain ⟨y, ey⟩ := getElem?_some_of (show i < elems.length by omega)
        have h1 := hget i hi
        rw [ey] at h1
        obtain ⟨cs, hc1, hc2⟩ := Option.bind_eq_some_iff.1 h1
        obtain ⟨o, a', b', nm, s, m, z, hnm, rfl, wn, wf, hk⟩ := term_cells hc2
        obtain ⟨ks, hks, hkw⟩ := ih m (by omega) s z hk
        obtain ⟨_, _, hcell⟩ := World.cells?_some hc1
        have e0 := hcell 0 (by omega)
        have e1 := hcell 1 (by omega)
        have e2 := hcell 2 (by omega)
        have e3 := hcell 3 (by omega)
        have e4 := hcell 4 (by omega)
        rw [add_add] at e0 e1 e2 e3 e4
        subst hnm
        refine ⟨(.node o a' b' nm ks, s), ⟨by simpa [Tm.op] using e0, by simpa [Tm.a] using e1, by simpa [Tm.b] using e2, by simpa [Tm.nm] using e3, by simpa using e4⟩, by unfold maxLen at wn; simp only [Tm.nm]; omega, hks.up, wf, TW.up hks hkw⟩
      obtain ⟨G, hG⟩ := @choose_lt (Tm × Value) ⟨(tz, undef)⟩ len _ each
      have e1 : ((List.range len).map fun i => (G i).1).length = len := by simp
      have e2 : ∀ i, i < len → ((List.range len).map fun i => (G i).1).getD i tz = (G i).1 := fun i hi => by simp [List.getD_eq_getElem?_getD, hi]
      refine ⟨(List.range len).map fun i => (G i).1, ⟨some a, cap, fun i => (G i).2, by rw [e1], ?_, fun i hi => by rw [e1] at hi; rw [e2 i hi]; exact (hG i hi).2.1, fun i hi => by rw [e1] at hi; rw [e2 i hi]; exact (hG i hi).2.2.1⟩, fun i hi => by rw [e1] at hi; rw [e2 i hi]; exact (hG i hi).2.2.2⟩
      rw [e1]
      refine ⟨hl, hm, ?_⟩
      rcases Nat.eq_zero_or_pos len with hz | hz
      · exact .inl hz
      · obtain ⟨b, off, spot⟩ := a
        have hc0 := (hG 0 hz).1.1
        have hspot : spot = none := by simpa [Addr.add] using World.cell?_spot hc0
        subst hspot
        have ea : ∀ i, (Addr.mk b off none).add i = ⟨b, off + i, none⟩ := fun i => by simp only [Addr.add]; split <;> simp_all
        refine .inr ⟨b, off, rfl, lt_of_cells (by rw [ea] at hc0; exact hc0), fun i hi j hj => ?_⟩
        obtain ⟨⟨g0, g1, g2, g3, g4⟩, _⟩ := hG i hi
        rw [ea] at g0 g1 g2 g3 g4
        match j, hj with
        | 0, _ => simp only [tcell, e2 i hi]; exact g0
        | 1, _ => simp only [tcell, e2 i hi]; exact g1
        | 2, _ => simp only [tcell, e2 i hi]; exact g2
        | 3, _ => simp only [tcell, e2 i hi]; exact g3
        | 4, _ => simp only [tcell]; exact g4

set_option maxRecDepth 100000 in
theorem term_open {H : Type} {enc : TypeId × Value → H} {W : World} {base : Nat} {v : Value} {x : DataW H} {ps : List MemPlace}
    (hval : Value.okWide Tryz.prog W .any base 25 v) (h : DataW.Trod enc Tryz.prog W 0 (fun _ => true) true 25 v x ps) :
    ∃ (o a b : Int) (nm : ByteArray) (s : Value) (d : Nat) (ks : List Tm), v = .agg #[.int .i64 o, .int .i64 a, .int .i64 b, .string nm, s] ∧ SIn d W s ks ∧ TW d ks ∧ nm.size ≤ 9223372036854775807 ∧ ((Lit.int .i64 o).wf = true ∧ (Lit.int .i64 a).wf = true ∧ (Lit.int .i64 b).wf = true) := by
  obtain ⟨cs, rfl, hsz⟩ := okWide_struct Tryz.underlying25 hval
  obtain ⟨fuel, hf⟩ := h
  obtain ⟨o, a, b, nm, s, m, z, _, hcs, wn, hw, hk⟩ := term_cells hf
  obtain ⟨ks, hks, hkw⟩ := terms_open m s z hk
  have e : cs = #[.int .i64 o, .int .i64 a, .int .i64 b, .string nm, s] := by
    have := hcs
    simp [Value.cells] at this
    exact Array.toList_inj.1 this
  exact ⟨o, a, b, nm, s, m, ks, by rw [e], hks, hkw, by unfold maxLen at wn; omega, hw⟩
end Go.Proofs.YtfkanemjedndgaaGreatDoor
