/- l2Spoil and l2Env of the reference, and DrawEnvOk: declarations and environments that are drawn. The conditions stand in each statement. -/
import Derived.Test.YtklbdfjmhbiheaaDoorDe
namespace Go.Proofs.YtklbdfjmhbiheaaDoor
open Go.RowKit

theorem dflat_set0 : ∀ (ds : List Dc) (k : Nat) (nm : ByteArray), k < ds.length → (dflat ds).set (k * 2) (.string nm) = dflat (ds.set k (nm, (ds.getD k dz).2))
  | [], _, _, h => absurd h (Nat.not_lt_zero _)
  | d :: ds, 0, nm, _ => rfl
  | d :: ds, k + 1, nm, h => by
    have := dflat_set0 ds k nm (by simpa using h)
    rw [show (k + 1) * 2 = k * 2 + 1 + 1 by omega]
    simp only [dflat, List.set_cons_succ]
    rw [this]
    simp
theorem dflat_set1 : ∀ (ds : List Dc) (k : Nat) (y : Int), k < ds.length → (dflat ds).set (k * 2 + 1) (.int .i64 y) = dflat (ds.set k ((ds.getD k dz).1, y))
  | [], _, _, h => absurd h (Nat.not_lt_zero _)
  | d :: ds, 0, y, _ => rfl
  | d :: ds, k + 1, y, h => by
    have := dflat_set1 ds k y (by simpa using h)
    rw [show (k + 1) * 2 + 1 = (k * 2 + 1) + 1 + 1 by omega]
    simp only [dflat, List.set_cons_succ]
    rw [this]
    simp
theorem dflat_one : ∀ (ds : List Dc), ∀ u ∈ dflat ds, u.oneCell' = true
  | [], _, h => absurd h (by simp [dflat])
  | d :: ds, u, h => by
    simp only [dflat, List.mem_cons] at h
    rcases h with rfl | rfl | h
    · rfl
    · rfl
    · exact dflat_one ds u h
theorem RowS.news {w : World} {b off cap : Nat} {ds : List Dc} (h : RowS w (some ⟨b, off, none⟩) ds.length cap 2 (dcell ds)) : ∀ j u, (dflat ds)[j]? = some u → w.cell? ((⟨b, off, none⟩ : Addr).add j) = some u := by
  intro j u hj
  have hlt : j < ds.length * 2 := by have := (List.getElem?_eq_some_iff.1 hj).1; rwa [dflat_len] at this
  obtain ⟨_, _, h3⟩ := h
  rcases h3 with h3 | ⟨b', off', e, hl, hc⟩
  · omega
  · simp only [Option.some.injEq, Addr.mk.injEq, and_true] at e
    obtain ⟨rfl, rfl⟩ := e
    have h1 := hc (j / 2) (by omega) (j % 2) (by omega)
    have h2 := dflat_get ds (j / 2) (j % 2) (by omega) (by omega)
    rw [show j / 2 * 2 + j % 2 = j by omega] at h2
    rw [h2] at hj
    cases hj
    rw [show off + j / 2 * 2 + j % 2 = off + j by omega] at h1
    have ea : (Addr.mk b off none).add j = ⟨b, off + j, none⟩ := by simp only [Addr.add]; split <;> simp_all
    rw [ea]; exact h1

theorem Named.set {ds : List Dc} {k : Nat} {d : Dc} (h : Named ds) (hd : d.1.size ≤ 9223372036854775807) : Named (ds.set k d) := by
  intro i hi
  rw [List.length_set] at hi
  rw [List.getD_eq_getElem?_getD, List.getElem?_set]
  by_cases e : k = i
  · rw [if_pos e, if_pos (by omega)]; exact hd
  · rw [if_neg e, ← List.getD_eq_getElem?_getD]; exact h i hi
def qp : List Dc := [(⟨#[113]⟩, 4), (⟨#[112]⟩, 1)]
def GaveDs (g : Nat) (v : Value) (P : Nat) (w : World) (e : Ending) (w' : World) : Prop :=
  ∃ (b cap : Nat) (ds : List Dc), e = .returned (.slice (some ⟨b, 0, none⟩) ds.length cap) ∧ OwnD w' w.heap.size (.slice (some ⟨b, 0, none⟩) ds.length cap) ds ∧ Named ds ∧ ds.length ≤ 6 ∧ w.grownBy w' (some g) ∧ RdOk w' g v P

theorem six_strs : ∀ x ∈ ([⟨#[]⟩, ⟨#[116, 114, 117, 101]⟩, ⟨#[97, 98, 99, 100, 101]⟩, ⟨#[65]⟩, ⟨#[110, 111, 116]⟩, ⟨#[120]⟩] : List ByteArray), x.size ≤ 5 := by decide
set_option maxRecDepth 100000 in
set_option maxHeartbeats 4000000 in
theorem l2Spoil_any (g P : Nat) (v s : Value) (ds : List Dc) (w : World) (hr : RdOk w g v P) (hP : P ≤ 900000) (h : Decls w s ds) (h1 : 1 ≤ ds.length) (h4 : ds.length ≤ 4) :
    Calls Tryd.prog 40 #[.pointer (some ⟨g, 0, none⟩), s] w (GaveDs g v (P + 3) w) := by
  have gl := hr.lt
  have HN := Lib.hid h.named
  obtain ⟨i0, hi, hz0, hz1, hz2⟩ := info_parts infoDecl
  obtain ⟨a, cap0, rfl, hrow, _⟩ := h
  obtain ⟨sb, so, rfl, slt, _, _⟩ := hrow.duo (k := 0) (by omega)
  have S0 : (w.alloc (.cells #[] 39)).ownsRow w.heap.size 39 2 (.slice (some ⟨w.heap.size, 0, none⟩) 0 0) 0 [] := World.ownsRow_lit (e := 39) (size := 2) w #[] 0 (Nat.le_refl _) (Nat.zero_le _) rfl
  have G0 : w.grownBy (w.alloc (.cells #[] 39)) (some g) := World.grownBy_alloc _ _ _
  have R0 : RdOk (w.alloc (.cells #[] 39)) g v P := hr.alloc _
  have news := Lib.hid (RowS.news (hrow.below (below_self_alloc w (.cells #[] 39))))
  have hlen := dflat_len ds
  have hone := Lib.hid (dflat_one ds)
  clear hrow
  go_enter Tryd.func40, Tryd.ntmps40
  go_wp2_with (at_builtin; refine wpList_append_lies _ rfl _ _ _ rfl w.heap.size 39 i0 (.agg #[.string ⟨#[]⟩, .int .i64 0]) 2 24 Tryd.underlying25 hi hz0 hz1 hz2 rfl (by omega) _ 0 [] rfl S0 ⟨sb, so, none⟩ ds.length cap0 (dflat ds) rfl hlen news.out hone.out (by omega) (by unfold maxLen; omega) (by omega) (by simp) _ rfl ?_; intro b2 cap2 w1 own1 hg1 hat hlt1)
  have G1 := grown_new G0 hg1 (own_row_ge S0)
  have R1 := R0.growNew hr hg1 (own_row_ge S0)
  replace own1 : OwnD w1 w.heap.size (.slice (some ⟨b2, 0, none⟩) ds.length cap2) ds := by simpa [OwnD] using own1
  clear S0 G0 R0 news hone hlen hg1
  go_wp2_with fail
  refine (pick_any g P v ds.length _ R1 (by omega)).mono ?_
  rintro e w2 ⟨k, rfl, k0, k1, _, hg2, R2⟩
  replace k1 := k1 (by omega)
  obtain ⟨j, rfl⟩ := Int.eq_ofNat_of_zero_le k0
  have hj : j < ds.length := by omega
  replace G1 := grown_two G1 hg2
  replace own1 : OwnD w2 w.heap.size (.slice (some ⟨b2, 0, none⟩) ds.length cap2) ds := own_grown own1 hg2 gl
  clear R1 hg2
  go_wp2_with fail
  refine (pick_any g (P + 1) v 80 _ R2 (by omega)).mono ?_
  rintro e w3 ⟨c, rfl, c0, c1, _, hg3, R3⟩
  clear c1
  replace G1 := grown_two G1 hg3
  replace own1 : OwnD w3 w.heap.size (.slice (some ⟨b2, 0, none⟩) ds.length cap2) ds := own_grown own1 hg3 gl
  clear R2 hg3
  have b2g : b2 ≠ g := by have := (own1.lt b2 rfl).1; omega
  by_cases h0 : c = 0
  · subst h0
    have R4 := R3.alloc (.cells #[.int .i64 0, .int .i64 5, .int .i64 (-1), .int .i64 4] 3)
    have G4 := grown_alloc G1 (.cells #[.int .i64 0, .int .i64 5, .int .i64 (-1), .int .i64 4] 3)
    have own4 : OwnD (w3.alloc (.cells #[.int .i64 0, .int .i64 5, .int .i64 (-1), .int .i64 4] 3)) w.heap.size (.slice (some ⟨b2, 0, none⟩) ds.length cap2) ds := World.ownsRow.alloc own1 _
    have D := Lib.hid (num_any g (P + 2) v w3.heap.size 4 4 _ R4 (by omega) (by omega) (by omega) (by have := R3.lt; omega) (new_ints w3 [0, 5, -1, 4] 3))
    clear R3 R4 own1 G1
    go_wp2_with fail
    refine D.out.mono ?_; rintro e w5 ⟨x, rfl, ⟨y, rfl⟩, hg5, R5⟩
    clear D
    replace G4 := grown_two G4 hg5
    replace own4 : OwnD w5 w.heap.size (.slice (some ⟨b2, 0, none⟩) ds.length cap2) ds := own_grown own4 hg5 gl
    clear hg5
    have cc : ∃ u, w5.cell? ⟨b2, j * 2 + 1, none⟩ = some u := ⟨_, (own4.cellAt (j * 2 + 1) (by omega)).trans (dflat_get ds j 1 hj (by omega))⟩
    obtain ⟨u, cc⟩ := cc
    have ff : w5.frozen? ⟨b2, j * 2 + 1, none⟩ = false := own4.frozenAt _
    obtain ⟨own6, hg6⟩ := own4.stored (j * 2 + 1) (.int .i64 y)
    have own7 : OwnD (w5.setCell ⟨b2, j * 2 + 1, none⟩ (.int .i64 y)) w.heap.size (.slice (some ⟨b2, 0, none⟩) (ds.set j ((ds.getD j dz).1, y)).length cap2) (ds.set j ((ds.getD j dz).1, y)) := by
      unfold OwnD
      rw [← dflat_set1 ds j y hj, List.length_set]
      exact own6
    go_wp2_with fail
    have G7 := grown_new G4 hg6 (fun q hq => by cases hq; exact (own4.lt b2 rfl).1)
    have R7 := R5.growNew hr hg6 (fun q hq => by cases hq; exact (own4.lt b2 rfl).1)
    have N7 : Named (ds.set j ((ds.getD j dz).1, y)) := Named.set HN.out (HN.out j hj)
    clear own4 own6 hg6 R5 G4
    go_ret
    exact ⟨b2, cap2, _, by simp, own7, N7, by simp; omega, G7, R7.le (by omega)⟩
  · by_cases h1 : c = 1
    · subst h1
      have R4 := R3.alloc (.cells #[.string ⟨#[]⟩, .string ⟨#[116, 114, 117, 101]⟩, .string ⟨#[97, 98, 99, 100, 101]⟩, .string ⟨#[65]⟩, .string ⟨#[110, 111, 116]⟩, .string ⟨#[120]⟩] 9)
      have G4 := grown_alloc G1 (.cells #[.string ⟨#[]⟩, .string ⟨#[116, 114, 117, 101]⟩, .string ⟨#[97, 98, 99, 100, 101]⟩, .string ⟨#[65]⟩, .string ⟨#[110, 111, 116]⟩, .string ⟨#[120]⟩] 9)
      have own4 : OwnD (w3.alloc (.cells #[.string ⟨#[]⟩, .string ⟨#[116, 114, 117, 101]⟩, .string ⟨#[97, 98, 99, 100, 101]⟩, .string ⟨#[65]⟩, .string ⟨#[110, 111, 116]⟩, .string ⟨#[120]⟩] 9)) w.heap.size (.slice (some ⟨b2, 0, none⟩) ds.length cap2) ds := World.ownsRow.alloc own1 _
      have D := Lib.hid (of_any g (P + 2) v w3.heap.size 6 6 5 _ R4 (by omega) (by omega) (by omega) (by have := R3.lt; omega) (new_strs w3 [⟨#[]⟩, ⟨#[116, 114, 117, 101]⟩, ⟨#[97, 98, 99, 100, 101]⟩, ⟨#[65]⟩, ⟨#[110, 111, 116]⟩, ⟨#[120]⟩] 9 5 six_strs))
      clear R3 R4 own1 G1
      go_wp2_with fail
      refine D.out.mono ?_; rintro e w5 ⟨x, rfl, ⟨y, rfl, hy⟩, hg5, R5⟩
      clear D
      replace G4 := grown_two G4 hg5
      replace own4 : OwnD w5 w.heap.size (.slice (some ⟨b2, 0, none⟩) ds.length cap2) ds := own_grown own4 hg5 gl
      clear hg5
      have cc : ∃ u, w5.cell? ⟨b2, j * 2, none⟩ = some u := ⟨_, (own4.cellAt (j * 2) (by omega)).trans (dflat_get ds j 0 hj (by omega))⟩
      obtain ⟨u, cc⟩ := cc
      have ff : w5.frozen? ⟨b2, j * 2, none⟩ = false := own4.frozenAt _
      obtain ⟨own6, hg6⟩ := own4.stored (j * 2) (.string y)
      have own7 : OwnD (w5.setCell ⟨b2, j * 2, none⟩ (.string y)) w.heap.size (.slice (some ⟨b2, 0, none⟩) (ds.set j (y, (ds.getD j dz).2)).length cap2) (ds.set j (y, (ds.getD j dz).2)) := by
        unfold OwnD
        rw [← dflat_set0 ds j y hj, List.length_set]
        exact own6
      go_wp2_with fail
      have G7 := grown_new G4 hg6 (fun q hq => by cases hq; exact (own4.lt b2 rfl).1)
      have R7 := R5.growNew hr hg6 (fun q hq => by cases hq; exact (own4.lt b2 rfl).1)
      have N7 : Named (ds.set j (y, (ds.getD j dz).2)) := Named.set HN.out (by show y.size ≤ _; omega)
      clear own4 own6 hg6 R5 G4
      go_ret
      exact ⟨b2, cap2, _, by simp, own7, N7, by simp; omega, G7, R7.le (by omega)⟩
    · have h0' : (c == 0) = false := by simpa using h0
      have h1' : (c == 1) = false := by simpa using h1
      by_cases h2 : c = 2
      · subst h2
        have R4 := R3.alloc (.cells #[.string ⟨#[113]⟩, .int .i64 4, .string ⟨#[112]⟩, .int .i64 1] 39)
        have G4 := grown_alloc G1 (.cells #[.string ⟨#[113]⟩, .int .i64 4, .string ⟨#[112]⟩, .int .i64 1] 39)
        have own4 : (w3.alloc (.cells #[.string ⟨#[113]⟩, .int .i64 4, .string ⟨#[112]⟩, .int .i64 1] 39)).ownsRow w.heap.size 39 2 (.slice (some ⟨b2, 0, none⟩) ds.length cap2) ds.length (dflat ds) := World.ownsRow.alloc own1 _
        have hgs := G1.size
        clear R3 own1 G1
        go_wp2_with (at_builtin; refine wpList_append_lies _ rfl _ _ _ rfl w.heap.size 39 i0 (.agg #[.string ⟨#[]⟩, .int .i64 0]) 2 24 Tryd.underlying25 hi hz0 hz1 hz2 rfl (by omega) _ ds.length (dflat ds) rfl own4 ⟨w3.heap.size, 0, none⟩ 2 2 [.string ⟨#[113]⟩, .int .i64 4, .string ⟨#[112]⟩, .int .i64 1] rfl rfl (World.news_of_block (heap_alloc_new w3 _)) (by simp [Value.oneCell']) (by omega) (by unfold maxLen; omega) (by omega) (by simp; omega) _ rfl ?_; intro b3 cap3 w5 own5 hg5 hat5 hlt5)
        have G7 := grown_new G4 hg5 (own_row_ge own4)
        have R7 := R4.growNew hr hg5 (own_row_ge own4)
        have own7 : OwnD w5 w.heap.size (.slice (some ⟨b3, 0, none⟩) (ds ++ qp).length cap3) (ds ++ qp) := by
          unfold OwnD
          rw [dflat_append, List.length_append]
          exact own5
        have N7 : Named (ds ++ qp) := by
          have := Named.snoc (Named.snoc (d := ((⟨#[113]⟩ : ByteArray), (4 : Int))) HN.out (by decide)) (d := ((⟨#[112]⟩ : ByteArray), (1 : Int))) (by decide)
          simpa [qp] using this
        clear own4 own5 hg5
        go_wp2_with fail
        go_ret
        exact ⟨b3, cap3, _, by simp [qp], own7, N7, by simp [qp]; omega, G7, R7.le (by omega)⟩
      · have h2' : (c == 2) = false := by simpa using h2
        by_cases h3 : c = 3
        · subst h3
          have R4 := R3.alloc (.cells #[] 39)
          have G4 := grown_alloc G1 (.cells #[] 39)
          have own4 : OwnD (w3.alloc (.cells #[] 39)) w.heap.size (.slice (some ⟨w3.heap.size, 0, none⟩) 0 0) [] := Go.Joins.ownsRow_le (World.ownsRow_lit (e := 39) (size := 2) w3 #[] 0 (Nat.le_refl _) (Nat.zero_le _) rfl) G1.size
          clear R3 own1 G1
          go_wp2_with fail
          go_ret
          exact ⟨w3.heap.size, 0, [], rfl, own4, fun _ h => absurd h (Nat.not_lt_zero _), by simp, G4, R4.le (by omega)⟩
        · have h3' : (c == 3) = false := by simpa using h3
          go_wp2_with fail
          go_ret
          exact ⟨b2, cap2, ds, rfl, own1, HN.out, by omega, G1, R3.le (by omega)⟩
end Go.Proofs.YtklbdfjmhbiheaaDoor
