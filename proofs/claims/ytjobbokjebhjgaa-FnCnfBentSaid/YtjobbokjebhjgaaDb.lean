/- l4Bent: formulas, some of them bent. The conditions stand in each statement. -/
import Derived.Test.YtjobbokjebhjgaaDk
import Derived.Test.YtjobbokjebhjgaaDc
namespace Go.Proofs.Ytjobbokjebhjgaa
open Go.RowKit

def IsBent (n : Nat) (m : Int) (ls : List (List Int)) : Prop := I64 m ∧ ls.length ≤ n + 1 ∧ ssWf ls
theorem Row.news {w : World} {b o n cap : Nat} {F : Nat → Value} (h : Row w (some ⟨b, o, none⟩) n cap F) : ∀ j u, ((List.range n).map F)[j]? = some u → w.cell? ((⟨b, o, Option.none⟩ : Addr).add j) = some u := by
  obtain ⟨_, _, h3⟩ := h
  intro j u hj
  have hlt : j < n := by simpa using (List.getElem?_eq_some_iff.1 hj).1
  rcases h3 with h3 | ⟨b', off, e, _, hc⟩
  · omega
  · cases e
    have ea : (Addr.mk b o Option.none).add j = ⟨b, o + j, Option.none⟩ := by simp only [Addr.add]; split <;> simp_all
    rw [ea, hc j hlt]
    simpa [hlt] using hj
theorem ssWf.snoc {ls : List (List Int)} {l : List Int} (h : ssWf ls) (hl : intsWf l) : ssWf (ls ++ [l]) := by
  intro i hi
  rcases Nat.lt_or_ge i ls.length with hlt | hge
  · rw [getD_snoc_lt hlt]; exact h i hlt
  · obtain rfl : i = ls.length := by simp at hi; omega
    rw [getD_snoc_at]; exact hl
theorem intsWf_mem {l : List Int} (h : ∀ x ∈ l, I64 x) : intsWf l := by
  intro i hi
  exact h _ (by rw [List.getD_eq_getElem?_getD, List.getElem?_eq_getElem hi]; exact List.getElem_mem _)

/-- the stores at the end of l4Bent -/
def bentEnd (w8 : World) (q : Nat) (m : Int) (y : Value) : World := ((w8.setCell ⟨q, 1, none⟩ y).setCell ⟨q + 1, 0, none⟩ (.int .i64 m)).setCell ⟨q + 1, 1, none⟩ y
def plainEnd (w8 : World) (q : Nat) (m : Int) (y : Value) : World := (w8.setCell ⟨q + 1, 0, none⟩ (.int .i64 m)).setCell ⟨q + 1, 1, none⟩ y
theorem bent_end {w w8 : World} {B g P P0 : Nat} {v : Value} {tt ti : TypeId} {y : Value} {ls : List (List Int)} {l : List Int} {fs : List Value} {x : Value} {F : Nat → Value} {n9 : Nat} (m : Int) (gl : g < B) (hB : B ≤ w.heap.size) (hr : RdOk w g v P0)
    (G8 : w.grownBy w8 (some g)) (R8 : RdOk w8 g v P) (hn : n9 = ls.length + 1) (own8 : w8.ownsRow (w.heap.size + 2) tt 1 y n9 (fs ++ [x])) (hf : fs.length = ls.length) (hF : ∀ i, i < ls.length → fs.getD i undef = F i ∧ KI B w (F i) (ls.getD i []))
    (L8 : w8.ownsRow (w.heap.size + 2) ti 1 x l.length (l.map (.int .i64))) :
    KSS B (bentEnd w8 w.heap.size m y) y (ls ++ [l]) ∧ w.grownBy (bentEnd w8 w.heap.size m y) (some g) ∧ RdOk (bentEnd w8 w.heap.size m y) g v P := by
  subst hn
  have G9 := grown_set (grown_set (grown_set G8 (p := ⟨w.heap.size, 1, none⟩) (Nat.le_refl _) y) (p := ⟨w.heap.size + 1, 0, none⟩) (by simp) (.int .i64 m)) (p := ⟨w.heap.size + 1, 1, none⟩) (by simp) y
  have R9 := ((R8.setNew (q := ⟨w.heap.size, 1, none⟩) (x := y) hr (Nat.le_refl _)).setNew (q := ⟨w.heap.size + 1, 0, none⟩) (x := .int .i64 m) hr (by simp)).setNew (q := ⟨w.heap.size + 1, 1, none⟩) (x := y) hr (by simp)
  have S : ∀ {t : TypeId} {n : Nat} {xs : List Value} {u : Value}, w8.ownsRow (w.heap.size + 2) t 1 u n xs → (bentEnd w8 w.heap.size m y).ownsRow (w.heap.size + 2) t 1 u n xs := fun h =>
    ownsRow_setCell_below (ownsRow_setCell_below (ownsRow_setCell_below h (by simp) _) (by simp) _) (by simp) _
  refine ⟨?_, G9, R9⟩
  have GG : GSS B (bentEnd w8 w.heap.size m y) (w.heap.size + 2) tt y (ls ++ [l]) (fs ++ [x]) := by
    refine ⟨by simpa using S own8, fun i hi w' h' => ?_⟩
    have e1 : (ls ++ [l]).length = ls.length + 1 := by simp
    rw [e1] at hi
    rcases Nat.lt_or_ge i ls.length with hlt | hge
    · rw [getD_snoc_lt hlt, getD_snoc_lt (by omega), (hF i hlt).1]
      exact (hF i hlt).2 w' ((kept_grown G9 gl).trans h')
    · obtain rfl : i = ls.length := by omega
      have e : (fs ++ [x]).getD ls.length undef = x := by rw [← hf]; exact getD_snoc_at
      rw [getD_snoc_at, e]
      exact Ints.of_own (own_kept (S L8) h' (by omega))
  exact GG.kss (by omega)
theorem plain_end {w w8 : World} {g P P0 : Nat} {v : Value} (y : Value) (m : Int) (hr : RdOk w g v P0) (G8 : w.grownBy w8 (some g)) (R8 : RdOk w8 g v P) :
    w.grownBy (plainEnd w8 w.heap.size m y) (some g) ∧ RdOk (plainEnd w8 w.heap.size m y) g v P :=
  ⟨grown_set (grown_set G8 (p := ⟨w.heap.size + 1, 0, none⟩) (by simp) (.int .i64 m)) (p := ⟨w.heap.size + 1, 1, none⟩) (by simp) y,
    (R8.setNew (q := ⟨w.heap.size + 1, 0, none⟩) (x := .int .i64 m) hr (by simp)).setNew (q := ⟨w.heap.size + 1, 1, none⟩) (x := y) hr (by simp)⟩

set_option maxRecDepth 100000 in
set_option maxHeartbeats 16000000 in
theorem l4Bent_any (B g P : Nat) (v : Value) (m : Int) (x : Value) (ls : List (List Int)) (w : World) (hr : RdOk w g v P) (hP : P ≤ 800000) (hm : I64 m) (hgB : g < B) (hB : B ≤ w.heap.size) (h : KSS B w x ls) (hl : ls.length ≤ 40) (hwf : ssWf ls) :
    Calls Try.prog 65 #[.pointer (some ⟨g, 0, none⟩), .agg #[.int .i64 m, x]] w (DrawnCnf B g v (P + 2) (IsBent ls.length) w) := by
  have gl : g < w.heap.size := by omega
  obtain ⟨m0, m1⟩ := hm
  obtain ⟨i0, hi, hz0, hz1, hz2⟩ := info_parts infoInts
  have HW := Lib.hid hwf
  have HK := Lib.hid h
  obtain ⟨a, cap, F, rfl, hn, hR, hF⟩ := h
  clear hwf
  have hne : ¬ w.heap.size = g := by omega
  have hne1 : ¬ w.heap.size + 1 = g := by omega
  rcases hn with ⟨rfl, rfl⟩ | ⟨b, rfl⟩
  · obtain rfl : ls = [] := by
      obtain ⟨_, _, h3⟩ := hR w (Kept.refl _ _)
      rcases h3 with h3 | ⟨b, o, e, _⟩
      · exact List.length_eq_zero_iff.1 h3
      · cases e
    have A0 : Blk (((w.alloc (.cells #[.int .i64 m, .slice none 0 0] 38)).alloc (.cells #[.int .i64 0, .slice none 0 0] 38)).alloc (.cells #[] 22)) w.heap.size (.int .i64 m) (.slice none 0 0) 38 := ((blk_new w _ _ _).alloc _).alloc _
    have Z0 : Blk (((w.alloc (.cells #[.int .i64 m, .slice none 0 0] 38)).alloc (.cells #[.int .i64 0, .slice none 0 0] 38)).alloc (.cells #[] 22)) (w.heap.size + 1) (.int .i64 0) (.slice none 0 0) 38 := (blk_new1 w _ _ _ _).alloc _
    have G0 : w.grownBy (((w.alloc (.cells #[.int .i64 m, .slice none 0 0] 38)).alloc (.cells #[.int .i64 0, .slice none 0 0] 38)).alloc (.cells #[] 22)) (some g) := grown_alloc (grown_alloc (World.grownBy_alloc _ _ _) _) _
    have R0 : RdOk (((w.alloc (.cells #[.int .i64 m, .slice none 0 0] 38)).alloc (.cells #[.int .i64 0, .slice none 0 0] 38)).alloc (.cells #[] 22)) g v P := ((hr.alloc _).alloc _).alloc _
    have O0 : (((w.alloc (.cells #[.int .i64 m, .slice none 0 0] 38)).alloc (.cells #[.int .i64 0, .slice none 0 0] 38)).alloc (.cells #[] 22)).ownsRow (w.heap.size + 2) 22 1 (.slice (some ⟨w.heap.size + 1 + 1, 0, none⟩) 0 0) 0 [] := by
      have := World.ownsRow_lit (base := w.heap.size + 2) (e := 22) (size := 1) ((w.alloc (.cells #[.int .i64 m, .slice none 0 0] 38)).alloc (.cells #[.int .i64 0, .slice none 0 0] 38)) #[] 0 (by simp) (Nat.zero_le _) rfl
      simpa using this
    have HF : Hid (∀ i, i < ([] : List (List Int)).length → ([] : List Value).getD i undef = F i ∧ KI B w (F i) (([] : List (List Int)).getD i [])) := fun i hi => absurd hi (Nat.not_lt_zero _)
    have HLEN : Hid (([] : List Value).length = ([] : List (List Int)).length) := rfl
    clear hF hR hl
    go_enter Try.func65, Try.ntmps65
    go_wp2_with fail
    have A := A0
    have Z := Z0
    have G := G0
    have R := R0
    have OWN := O0
    have hs4 : ∀ {w5 : World}, w.heap.size ≤ w5.heap.size → True := fun _ => trivial
    clear A0 Z0 G0 R0 O0 hs4
    refine (pick_any g _ v 60 _ R (by omega)).mono ?_
    rintro e w5 ⟨p, rfl, p0, p1, _, hg5, R5⟩
    have p2 := p1 (by decide)
    have A5 := A.keepG hg5 hne
    have Z5 := Z.keepG hg5 hne1
    have G5 := grown_two G hg5
    have O5 := own_grown OWN hg5 (by omega)
    have hs5 := hg5.size
    have hs4 : w.heap.size + 2 ≤ w5.heap.size := by simp at hs5; omega
    clear hg5 A Z G R OWN p1
    by_cases c0 : p = 0
    · subst c0
      by_cases hmx : m = 9223372036854775807
      · subst hmx
        have O7 := (O5.alloc (.cells #[.int .i64 (wrap64 9223372036854775808)] 3)).alloc (.cells #[.slice (some ⟨w5.heap.size, 0, none⟩) 1 1] 22)
        have L7 := (World.ownsRow_lit (base := w.heap.size + 2) (e := 3) (size := 1) w5 #[.int .i64 (wrap64 9223372036854775808)] 1 hs4 (by simp [maxLen]) rfl).alloc (.cells #[.slice (some ⟨w5.heap.size, 0, none⟩) 1 1] 22)
        have A7 := (A5.alloc (.cells #[.int .i64 (wrap64 9223372036854775808)] 3)).alloc (.cells #[.slice (some ⟨w5.heap.size, 0, none⟩) 1 1] 22)
        have Z7 := (Z5.alloc (.cells #[.int .i64 (wrap64 9223372036854775808)] 3)).alloc (.cells #[.slice (some ⟨w5.heap.size, 0, none⟩) 1 1] 22)
        have G7 := grown_alloc (grown_alloc G5 (.cells #[.int .i64 (wrap64 9223372036854775808)] 3)) (.cells #[.slice (some ⟨w5.heap.size, 0, none⟩) 1 1] 22)
        have R7 := (R5.alloc (.cells #[.int .i64 (wrap64 9223372036854775808)] 3)).alloc (.cells #[.slice (some ⟨w5.heap.size, 0, none⟩) 1 1] 22)
        have hyl : ∀ k, Value.ownBlock (.slice (some ⟨w.heap.size + 1 + 1, 0, none⟩) 0 0) = some k → k < w5.heap.size := fun k hk => (O5.lt k hk).2
        obtain ⟨A0, A1, A2⟩ := A5.cells
        clear O5 A5 Z5 G5 R5
        go_wp2_with (at_builtin; refine wpList_append_lies _ rfl _ _ _ rfl (w.heap.size + 2) 22 i0 (.slice none 0 0) 1 24 Try.underlying33 hi hz0 hz1 hz2 rfl (by omega) (.slice (some ⟨w.heap.size + 1 + 1, 0, none⟩) 0 0) 0 ([]) (by rfl) O7 ⟨w5.heap.size + 1, 0, none⟩ 1 1 [.slice (some ⟨w5.heap.size, 0, none⟩) 1 1] (by rfl) rfl (by rw [show w5.heap.size + 1 = (w5.alloc (.cells #[.int .i64 (wrap64 9223372036854775808)] 3)).heap.size by simp]; exact World.news_of_block (heap_alloc_new _ _)) (by simp [Value.oneCell']) (by omega) (by unfold maxLen; omega) (by omega) (by simp; omega) _ rfl ?_)
        intro b8 cap8 w8 own8 hg8 hat8 hlt8
        have hrow := own_row_ge O7
        have A8 := A7.growNew hg8 hrow (by omega)
        have Z8 := Z7.growNew hg8 hrow (by omega)
        have G8 := grown_new G7 hg8 (fun j hj => by have := hrow j hj; omega)
        have R8 := R7.growNew hr hg8 (fun j hj => by have := hrow j hj; omega)
        have L8 := L7.kept hg8 (.inr (fun e => by have := hyl _ e.symm; simp at this))
        clear A0 A1 A2 A7 Z7 G7 R7 L7 O7 hg8 hrow hat8 hlt8 hyl
        have hn9 : 1 = ([] : List (List Int)).length + 1 := rfl
        have HN := Lib.hid hn9
        have HO := Lib.hid own8
        have HL := Lib.hid L8
        clear hn9 own8 L8
        obtain ⟨A80, A81, A82⟩ := A8.cells
        obtain ⟨B80, B81⟩ := A8.frozen
        obtain ⟨Z80, Z81, Z82⟩ := Z8.cells
        obtain ⟨Y80, Y81⟩ := Z8.frozen
        go_wp2_with fail
        obtain ⟨k1, k2, k3⟩ := bent_end (l := [(wrap64 9223372036854775808)]) (F := F) 9223372036854775807 hgB hB hr G8 R8 HN.out HO.out HLEN.out HF.out HL.out
        have Zf := ((Z8.set_other (p := ⟨w.heap.size, 1, none⟩) (z := .slice (some ⟨b8, 0, none⟩) 1 cap8) (by simp)).set0 (.int .i64 9223372036854775807)).set1 (.slice (some ⟨b8, 0, none⟩) 1 cap8)
        obtain ⟨r0, r1, _⟩ := Zf.cells
        exact bodyPost_ret (v := .agg #[.int .i64 9223372036854775807, .slice (some ⟨b8, 0, none⟩) 1 cap8]) (by simp [results, Try.results65, go_sem, r0, r1]) rfl ⟨_, _, _, rfl, k1, ⟨⟨m0, m1⟩, by simp, HW.out.snoc (intsWf_mem (by simp [I64, wrap64]))⟩, k2, k3.le (by omega)⟩
      · have hmx2 : m + 1 ≤ 9223372036854775807 := by omega
        have O7 := (O5.alloc (.cells #[.int .i64 (m + 1)] 3)).alloc (.cells #[.slice (some ⟨w5.heap.size, 0, none⟩) 1 1] 22)
        have L7 := (World.ownsRow_lit (base := w.heap.size + 2) (e := 3) (size := 1) w5 #[.int .i64 (m + 1)] 1 hs4 (by simp [maxLen]) rfl).alloc (.cells #[.slice (some ⟨w5.heap.size, 0, none⟩) 1 1] 22)
        have A7 := (A5.alloc (.cells #[.int .i64 (m + 1)] 3)).alloc (.cells #[.slice (some ⟨w5.heap.size, 0, none⟩) 1 1] 22)
        have Z7 := (Z5.alloc (.cells #[.int .i64 (m + 1)] 3)).alloc (.cells #[.slice (some ⟨w5.heap.size, 0, none⟩) 1 1] 22)
        have G7 := grown_alloc (grown_alloc G5 (.cells #[.int .i64 (m + 1)] 3)) (.cells #[.slice (some ⟨w5.heap.size, 0, none⟩) 1 1] 22)
        have R7 := (R5.alloc (.cells #[.int .i64 (m + 1)] 3)).alloc (.cells #[.slice (some ⟨w5.heap.size, 0, none⟩) 1 1] 22)
        have hyl : ∀ k, Value.ownBlock (.slice (some ⟨w.heap.size + 1 + 1, 0, none⟩) 0 0) = some k → k < w5.heap.size := fun k hk => (O5.lt k hk).2
        obtain ⟨A0, A1, A2⟩ := A5.cells
        clear O5 A5 Z5 G5 R5
        go_wp2_with (at_builtin; refine wpList_append_lies _ rfl _ _ _ rfl (w.heap.size + 2) 22 i0 (.slice none 0 0) 1 24 Try.underlying33 hi hz0 hz1 hz2 rfl (by omega) (.slice (some ⟨w.heap.size + 1 + 1, 0, none⟩) 0 0) 0 ([]) (by rfl) O7 ⟨w5.heap.size + 1, 0, none⟩ 1 1 [.slice (some ⟨w5.heap.size, 0, none⟩) 1 1] (by rfl) rfl (by rw [show w5.heap.size + 1 = (w5.alloc (.cells #[.int .i64 (m + 1)] 3)).heap.size by simp]; exact World.news_of_block (heap_alloc_new _ _)) (by simp [Value.oneCell']) (by omega) (by unfold maxLen; omega) (by omega) (by simp; omega) _ rfl ?_)
        intro b8 cap8 w8 own8 hg8 hat8 hlt8
        have hrow := own_row_ge O7
        have A8 := A7.growNew hg8 hrow (by omega)
        have Z8 := Z7.growNew hg8 hrow (by omega)
        have G8 := grown_new G7 hg8 (fun j hj => by have := hrow j hj; omega)
        have R8 := R7.growNew hr hg8 (fun j hj => by have := hrow j hj; omega)
        have L8 := L7.kept hg8 (.inr (fun e => by have := hyl _ e.symm; simp at this))
        clear A0 A1 A2 A7 Z7 G7 R7 L7 O7 hg8 hrow hat8 hlt8 hyl
        have hn9 : 1 = ([] : List (List Int)).length + 1 := rfl
        have HN := Lib.hid hn9
        have HO := Lib.hid own8
        have HL := Lib.hid L8
        clear hn9 own8 L8
        obtain ⟨A80, A81, A82⟩ := A8.cells
        obtain ⟨B80, B81⟩ := A8.frozen
        obtain ⟨Z80, Z81, Z82⟩ := Z8.cells
        obtain ⟨Y80, Y81⟩ := Z8.frozen
        go_wp2_with fail
        obtain ⟨k1, k2, k3⟩ := bent_end (l := [(m + 1)]) (F := F) m hgB hB hr G8 R8 HN.out HO.out HLEN.out HF.out HL.out
        have Zf := ((Z8.set_other (p := ⟨w.heap.size, 1, none⟩) (z := .slice (some ⟨b8, 0, none⟩) 1 cap8) (by simp)).set0 (.int .i64 m)).set1 (.slice (some ⟨b8, 0, none⟩) 1 cap8)
        obtain ⟨r0, r1, _⟩ := Zf.cells
        exact bodyPost_ret (v := .agg #[.int .i64 m, .slice (some ⟨b8, 0, none⟩) 1 cap8]) (by simp [results, Try.results65, go_sem, r0, r1]) rfl ⟨_, _, _, rfl, k1, ⟨⟨m0, m1⟩, by simp, HW.out.snoc (intsWf_mem (by simp [I64]; omega))⟩, k2, k3.le (by omega)⟩
    by_cases c1 : p = 1
    · subst c1
      have O7 := (O5.alloc (.cells #[.int .i64 1, .int .i64 (-1)] 3)).alloc (.cells #[.slice (some ⟨w5.heap.size, 0, none⟩) 2 2] 22)
      have L7 := (World.ownsRow_lit (base := w.heap.size + 2) (e := 3) (size := 1) w5 #[.int .i64 1, .int .i64 (-1)] 2 hs4 (by simp [maxLen]) rfl).alloc (.cells #[.slice (some ⟨w5.heap.size, 0, none⟩) 2 2] 22)
      have A7 := (A5.alloc (.cells #[.int .i64 1, .int .i64 (-1)] 3)).alloc (.cells #[.slice (some ⟨w5.heap.size, 0, none⟩) 2 2] 22)
      have Z7 := (Z5.alloc (.cells #[.int .i64 1, .int .i64 (-1)] 3)).alloc (.cells #[.slice (some ⟨w5.heap.size, 0, none⟩) 2 2] 22)
      have G7 := grown_alloc (grown_alloc G5 (.cells #[.int .i64 1, .int .i64 (-1)] 3)) (.cells #[.slice (some ⟨w5.heap.size, 0, none⟩) 2 2] 22)
      have R7 := (R5.alloc (.cells #[.int .i64 1, .int .i64 (-1)] 3)).alloc (.cells #[.slice (some ⟨w5.heap.size, 0, none⟩) 2 2] 22)
      have hyl : ∀ k, Value.ownBlock (.slice (some ⟨w.heap.size + 1 + 1, 0, none⟩) 0 0) = some k → k < w5.heap.size := fun k hk => (O5.lt k hk).2
      obtain ⟨A0, A1, A2⟩ := A5.cells
      clear O5 A5 Z5 G5 R5
      go_wp2_with (at_builtin; refine wpList_append_lies _ rfl _ _ _ rfl (w.heap.size + 2) 22 i0 (.slice none 0 0) 1 24 Try.underlying33 hi hz0 hz1 hz2 rfl (by omega) (.slice (some ⟨w.heap.size + 1 + 1, 0, none⟩) 0 0) 0 ([]) (by rfl) O7 ⟨w5.heap.size + 1, 0, none⟩ 1 1 [.slice (some ⟨w5.heap.size, 0, none⟩) 2 2] (by rfl) rfl (by rw [show w5.heap.size + 1 = (w5.alloc (.cells #[.int .i64 1, .int .i64 (-1)] 3)).heap.size by simp]; exact World.news_of_block (heap_alloc_new _ _)) (by simp [Value.oneCell']) (by omega) (by unfold maxLen; omega) (by omega) (by simp; omega) _ rfl ?_)
      intro b8 cap8 w8 own8 hg8 hat8 hlt8
      have hrow := own_row_ge O7
      have A8 := A7.growNew hg8 hrow (by omega)
      have Z8 := Z7.growNew hg8 hrow (by omega)
      have G8 := grown_new G7 hg8 (fun j hj => by have := hrow j hj; omega)
      have R8 := R7.growNew hr hg8 (fun j hj => by have := hrow j hj; omega)
      have L8 := L7.kept hg8 (.inr (fun e => by have := hyl _ e.symm; simp at this))
      clear A0 A1 A2 A7 Z7 G7 R7 L7 O7 hg8 hrow hat8 hlt8 hyl
      have hn9 : 1 = ([] : List (List Int)).length + 1 := rfl
      have HN := Lib.hid hn9
      have HO := Lib.hid own8
      have HL := Lib.hid L8
      clear hn9 own8 L8
      obtain ⟨A80, A81, A82⟩ := A8.cells
      obtain ⟨B80, B81⟩ := A8.frozen
      obtain ⟨Z80, Z81, Z82⟩ := Z8.cells
      obtain ⟨Y80, Y81⟩ := Z8.frozen
      go_wp2_with fail
      obtain ⟨k1, k2, k3⟩ := bent_end (l := [1, (-1)]) (F := F) m hgB hB hr G8 R8 HN.out HO.out HLEN.out HF.out HL.out
      have Zf := ((Z8.set_other (p := ⟨w.heap.size, 1, none⟩) (z := .slice (some ⟨b8, 0, none⟩) 1 cap8) (by simp)).set0 (.int .i64 m)).set1 (.slice (some ⟨b8, 0, none⟩) 1 cap8)
      obtain ⟨r0, r1, _⟩ := Zf.cells
      exact bodyPost_ret (v := .agg #[.int .i64 m, .slice (some ⟨b8, 0, none⟩) 1 cap8]) (by simp [results, Try.results65, go_sem, r0, r1]) rfl ⟨_, _, _, rfl, k1, ⟨⟨m0, m1⟩, by simp, HW.out.snoc (intsWf_mem (by simp [I64]))⟩, k2, k3.le (by omega)⟩
    by_cases c2 : p = 2
    · subst c2
      have O7 := (O5.alloc (.cells #[.int .i64 0] 3)).alloc (.cells #[.slice (some ⟨w5.heap.size, 0, none⟩) 1 1] 22)
      have L7 := (World.ownsRow_lit (base := w.heap.size + 2) (e := 3) (size := 1) w5 #[.int .i64 0] 1 hs4 (by simp [maxLen]) rfl).alloc (.cells #[.slice (some ⟨w5.heap.size, 0, none⟩) 1 1] 22)
      have A7 := (A5.alloc (.cells #[.int .i64 0] 3)).alloc (.cells #[.slice (some ⟨w5.heap.size, 0, none⟩) 1 1] 22)
      have Z7 := (Z5.alloc (.cells #[.int .i64 0] 3)).alloc (.cells #[.slice (some ⟨w5.heap.size, 0, none⟩) 1 1] 22)
      have G7 := grown_alloc (grown_alloc G5 (.cells #[.int .i64 0] 3)) (.cells #[.slice (some ⟨w5.heap.size, 0, none⟩) 1 1] 22)
      have R7 := (R5.alloc (.cells #[.int .i64 0] 3)).alloc (.cells #[.slice (some ⟨w5.heap.size, 0, none⟩) 1 1] 22)
      have hyl : ∀ k, Value.ownBlock (.slice (some ⟨w.heap.size + 1 + 1, 0, none⟩) 0 0) = some k → k < w5.heap.size := fun k hk => (O5.lt k hk).2
      obtain ⟨A0, A1, A2⟩ := A5.cells
      clear O5 A5 Z5 G5 R5
      go_wp2_with (at_builtin; refine wpList_append_lies _ rfl _ _ _ rfl (w.heap.size + 2) 22 i0 (.slice none 0 0) 1 24 Try.underlying33 hi hz0 hz1 hz2 rfl (by omega) (.slice (some ⟨w.heap.size + 1 + 1, 0, none⟩) 0 0) 0 ([]) (by rfl) O7 ⟨w5.heap.size + 1, 0, none⟩ 1 1 [.slice (some ⟨w5.heap.size, 0, none⟩) 1 1] (by rfl) rfl (by rw [show w5.heap.size + 1 = (w5.alloc (.cells #[.int .i64 0] 3)).heap.size by simp]; exact World.news_of_block (heap_alloc_new _ _)) (by simp [Value.oneCell']) (by omega) (by unfold maxLen; omega) (by omega) (by simp; omega) _ rfl ?_)
      intro b8 cap8 w8 own8 hg8 hat8 hlt8
      have hrow := own_row_ge O7
      have A8 := A7.growNew hg8 hrow (by omega)
      have Z8 := Z7.growNew hg8 hrow (by omega)
      have G8 := grown_new G7 hg8 (fun j hj => by have := hrow j hj; omega)
      have R8 := R7.growNew hr hg8 (fun j hj => by have := hrow j hj; omega)
      have L8 := L7.kept hg8 (.inr (fun e => by have := hyl _ e.symm; simp at this))
      clear A0 A1 A2 A7 Z7 G7 R7 L7 O7 hg8 hrow hat8 hlt8 hyl
      have hn9 : 1 = ([] : List (List Int)).length + 1 := rfl
      have HN := Lib.hid hn9
      have HO := Lib.hid own8
      have HL := Lib.hid L8
      clear hn9 own8 L8
      obtain ⟨A80, A81, A82⟩ := A8.cells
      obtain ⟨B80, B81⟩ := A8.frozen
      obtain ⟨Z80, Z81, Z82⟩ := Z8.cells
      obtain ⟨Y80, Y81⟩ := Z8.frozen
      go_wp2_with fail
      obtain ⟨k1, k2, k3⟩ := bent_end (l := [0]) (F := F) m hgB hB hr G8 R8 HN.out HO.out HLEN.out HF.out HL.out
      have Zf := ((Z8.set_other (p := ⟨w.heap.size, 1, none⟩) (z := .slice (some ⟨b8, 0, none⟩) 1 cap8) (by simp)).set0 (.int .i64 m)).set1 (.slice (some ⟨b8, 0, none⟩) 1 cap8)
      obtain ⟨r0, r1, _⟩ := Zf.cells
      exact bodyPost_ret (v := .agg #[.int .i64 m, .slice (some ⟨b8, 0, none⟩) 1 cap8]) (by simp [results, Try.results65, go_sem, r0, r1]) rfl ⟨_, _, _, rfl, k1, ⟨⟨m0, m1⟩, by simp, HW.out.snoc (intsWf_mem (by simp [I64]))⟩, k2, k3.le (by omega)⟩
    by_cases c4 : p = 4
    · subst c4
      have O7 := (O5.alloc (.cells #[.int .i64 (-9223372036854775808)] 3)).alloc (.cells #[.slice (some ⟨w5.heap.size, 0, none⟩) 1 1] 22)
      have L7 := (World.ownsRow_lit (base := w.heap.size + 2) (e := 3) (size := 1) w5 #[.int .i64 (-9223372036854775808)] 1 hs4 (by simp [maxLen]) rfl).alloc (.cells #[.slice (some ⟨w5.heap.size, 0, none⟩) 1 1] 22)
      have A7 := (A5.alloc (.cells #[.int .i64 (-9223372036854775808)] 3)).alloc (.cells #[.slice (some ⟨w5.heap.size, 0, none⟩) 1 1] 22)
      have Z7 := (Z5.alloc (.cells #[.int .i64 (-9223372036854775808)] 3)).alloc (.cells #[.slice (some ⟨w5.heap.size, 0, none⟩) 1 1] 22)
      have G7 := grown_alloc (grown_alloc G5 (.cells #[.int .i64 (-9223372036854775808)] 3)) (.cells #[.slice (some ⟨w5.heap.size, 0, none⟩) 1 1] 22)
      have R7 := (R5.alloc (.cells #[.int .i64 (-9223372036854775808)] 3)).alloc (.cells #[.slice (some ⟨w5.heap.size, 0, none⟩) 1 1] 22)
      have hyl : ∀ k, Value.ownBlock (.slice (some ⟨w.heap.size + 1 + 1, 0, none⟩) 0 0) = some k → k < w5.heap.size := fun k hk => (O5.lt k hk).2
      obtain ⟨A0, A1, A2⟩ := A5.cells
      clear O5 A5 Z5 G5 R5
      go_wp2_with (at_builtin; refine wpList_append_lies _ rfl _ _ _ rfl (w.heap.size + 2) 22 i0 (.slice none 0 0) 1 24 Try.underlying33 hi hz0 hz1 hz2 rfl (by omega) (.slice (some ⟨w.heap.size + 1 + 1, 0, none⟩) 0 0) 0 ([]) (by rfl) O7 ⟨w5.heap.size + 1, 0, none⟩ 1 1 [.slice (some ⟨w5.heap.size, 0, none⟩) 1 1] (by rfl) rfl (by rw [show w5.heap.size + 1 = (w5.alloc (.cells #[.int .i64 (-9223372036854775808)] 3)).heap.size by simp]; exact World.news_of_block (heap_alloc_new _ _)) (by simp [Value.oneCell']) (by omega) (by unfold maxLen; omega) (by omega) (by simp; omega) _ rfl ?_)
      intro b8 cap8 w8 own8 hg8 hat8 hlt8
      have hrow := own_row_ge O7
      have A8 := A7.growNew hg8 hrow (by omega)
      have Z8 := Z7.growNew hg8 hrow (by omega)
      have G8 := grown_new G7 hg8 (fun j hj => by have := hrow j hj; omega)
      have R8 := R7.growNew hr hg8 (fun j hj => by have := hrow j hj; omega)
      have L8 := L7.kept hg8 (.inr (fun e => by have := hyl _ e.symm; simp at this))
      clear A0 A1 A2 A7 Z7 G7 R7 L7 O7 hg8 hrow hat8 hlt8 hyl
      have hn9 : 1 = ([] : List (List Int)).length + 1 := rfl
      have HN := Lib.hid hn9
      have HO := Lib.hid own8
      have HL := Lib.hid L8
      clear hn9 own8 L8
      obtain ⟨A80, A81, A82⟩ := A8.cells
      obtain ⟨B80, B81⟩ := A8.frozen
      obtain ⟨Z80, Z81, Z82⟩ := Z8.cells
      obtain ⟨Y80, Y81⟩ := Z8.frozen
      go_wp2_with fail
      obtain ⟨k1, k2, k3⟩ := bent_end (l := [(-9223372036854775808)]) (F := F) m hgB hB hr G8 R8 HN.out HO.out HLEN.out HF.out HL.out
      have Zf := ((Z8.set_other (p := ⟨w.heap.size, 1, none⟩) (z := .slice (some ⟨b8, 0, none⟩) 1 cap8) (by simp)).set0 (.int .i64 m)).set1 (.slice (some ⟨b8, 0, none⟩) 1 cap8)
      obtain ⟨r0, r1, _⟩ := Zf.cells
      exact bodyPost_ret (v := .agg #[.int .i64 m, .slice (some ⟨b8, 0, none⟩) 1 cap8]) (by simp [results, Try.results65, go_sem, r0, r1]) rfl ⟨_, _, _, rfl, k1, ⟨⟨m0, m1⟩, by simp, HW.out.snoc (intsWf_mem (by simp [I64]))⟩, k2, k3.le (by omega)⟩
    by_cases c5 : p = 5
    · subst c5
      have O7 := (O5.alloc (.cells #[.int .i64 2, .int .i64 1] 3)).alloc (.cells #[.slice (some ⟨w5.heap.size, 0, none⟩) 2 2] 22)
      have L7 := (World.ownsRow_lit (base := w.heap.size + 2) (e := 3) (size := 1) w5 #[.int .i64 2, .int .i64 1] 2 hs4 (by simp [maxLen]) rfl).alloc (.cells #[.slice (some ⟨w5.heap.size, 0, none⟩) 2 2] 22)
      have A7 := (A5.alloc (.cells #[.int .i64 2, .int .i64 1] 3)).alloc (.cells #[.slice (some ⟨w5.heap.size, 0, none⟩) 2 2] 22)
      have Z7 := (Z5.alloc (.cells #[.int .i64 2, .int .i64 1] 3)).alloc (.cells #[.slice (some ⟨w5.heap.size, 0, none⟩) 2 2] 22)
      have G7 := grown_alloc (grown_alloc G5 (.cells #[.int .i64 2, .int .i64 1] 3)) (.cells #[.slice (some ⟨w5.heap.size, 0, none⟩) 2 2] 22)
      have R7 := (R5.alloc (.cells #[.int .i64 2, .int .i64 1] 3)).alloc (.cells #[.slice (some ⟨w5.heap.size, 0, none⟩) 2 2] 22)
      have hyl : ∀ k, Value.ownBlock (.slice (some ⟨w.heap.size + 1 + 1, 0, none⟩) 0 0) = some k → k < w5.heap.size := fun k hk => (O5.lt k hk).2
      obtain ⟨A0, A1, A2⟩ := A5.cells
      clear O5 A5 Z5 G5 R5
      go_wp2_with (at_builtin; refine wpList_append_lies _ rfl _ _ _ rfl (w.heap.size + 2) 22 i0 (.slice none 0 0) 1 24 Try.underlying33 hi hz0 hz1 hz2 rfl (by omega) (.slice (some ⟨w.heap.size + 1 + 1, 0, none⟩) 0 0) 0 ([]) (by rfl) O7 ⟨w5.heap.size + 1, 0, none⟩ 1 1 [.slice (some ⟨w5.heap.size, 0, none⟩) 2 2] (by rfl) rfl (by rw [show w5.heap.size + 1 = (w5.alloc (.cells #[.int .i64 2, .int .i64 1] 3)).heap.size by simp]; exact World.news_of_block (heap_alloc_new _ _)) (by simp [Value.oneCell']) (by omega) (by unfold maxLen; omega) (by omega) (by simp; omega) _ rfl ?_)
      intro b8 cap8 w8 own8 hg8 hat8 hlt8
      have hrow := own_row_ge O7
      have A8 := A7.growNew hg8 hrow (by omega)
      have Z8 := Z7.growNew hg8 hrow (by omega)
      have G8 := grown_new G7 hg8 (fun j hj => by have := hrow j hj; omega)
      have R8 := R7.growNew hr hg8 (fun j hj => by have := hrow j hj; omega)
      have L8 := L7.kept hg8 (.inr (fun e => by have := hyl _ e.symm; simp at this))
      clear A0 A1 A2 A7 Z7 G7 R7 L7 O7 hg8 hrow hat8 hlt8 hyl
      have hn9 : 1 = ([] : List (List Int)).length + 1 := rfl
      have HN := Lib.hid hn9
      have HO := Lib.hid own8
      have HL := Lib.hid L8
      clear hn9 own8 L8
      obtain ⟨A80, A81, A82⟩ := A8.cells
      obtain ⟨B80, B81⟩ := A8.frozen
      obtain ⟨Z80, Z81, Z82⟩ := Z8.cells
      obtain ⟨Y80, Y81⟩ := Z8.frozen
      go_wp2_with fail
      obtain ⟨k1, k2, k3⟩ := bent_end (l := [2, 1]) (F := F) m hgB hB hr G8 R8 HN.out HO.out HLEN.out HF.out HL.out
      have Zf := ((Z8.set_other (p := ⟨w.heap.size, 1, none⟩) (z := .slice (some ⟨b8, 0, none⟩) 1 cap8) (by simp)).set0 (.int .i64 m)).set1 (.slice (some ⟨b8, 0, none⟩) 1 cap8)
      obtain ⟨r0, r1, _⟩ := Zf.cells
      exact bodyPost_ret (v := .agg #[.int .i64 m, .slice (some ⟨b8, 0, none⟩) 1 cap8]) (by simp [results, Try.results65, go_sem, r0, r1]) rfl ⟨_, _, _, rfl, k1, ⟨⟨m0, m1⟩, by simp, HW.out.snoc (intsWf_mem (by simp [I64]))⟩, k2, k3.le (by omega)⟩
    by_cases c3 : p = 3
    · subst c3
      by_cases hmx : m ≤ 9223372036854775804
      · have hmx2 : m + 3 ≤ 9223372036854775807 := by omega
        have A7 := A5.alloc (.cells #[.int .i64 (-1), .int .i64 0, .int .i64 701, .int .i64 9223372036854775807, .int .i64 (m + 3)] 3)
        have Z7 := Z5.alloc (.cells #[.int .i64 (-1), .int .i64 0, .int .i64 701, .int .i64 9223372036854775807, .int .i64 (m + 3)] 3)
        have G7 := grown_alloc G5 (.cells #[.int .i64 (-1), .int .i64 0, .int .i64 701, .int .i64 9223372036854775807, .int .i64 (m + 3)] 3)
        have R7 := R5.alloc (.cells #[.int .i64 (-1), .int .i64 0, .int .i64 701, .int .i64 9223372036854775807, .int .i64 (m + 3)] 3)
        obtain ⟨A50, A51, A52⟩ := A5.cells
        clear O5 G5 Z5
        go_wp2_with fail
        refine (num_in I64 g _ v w5.heap.size 5 5 _ R7 (by omega) (by omega) (by omega) (by omega) (new_ints_in w5 I64 [-1, 0, 701, 9223372036854775807, (m + 3)] 3 (by simp [I64]; omega))).mono ?_
        rintro e w6 ⟨_, rfl, ⟨t, rfl, t0, t1⟩, hg6, R6⟩
        have A6 := A7.keepG hg6 hne
        have Z6 := Z7.keepG hg6 hne1
        have G6 := grown_two G7 hg6
        clear hg6 A7 Z7 G7 R7 A5 R5 A50 A51 A52
        obtain ⟨A60, A61, A62⟩ := A6.cells
        obtain ⟨B60, B61⟩ := A6.frozen
        obtain ⟨Z60, Z61, Z62⟩ := Z6.cells
        obtain ⟨Y60, Y61⟩ := Z6.frozen
        go_wp2_with fail
        have G6' := grown_set G6 (p := ⟨w.heap.size, 0, none⟩) (Nat.le_refl _) (.int .i64 t)
        have R6' := R6.setNew (q := ⟨w.heap.size, 0, none⟩) (x := .int .i64 t) hr (Nat.le_refl _)
        obtain ⟨k2, k3⟩ := plain_end (.slice none 0 0) t hr G6' R6'
        have Zf := ((Z6.set_other (p := ⟨w.heap.size, 0, none⟩) (z := .int .i64 t) (by simp)).set0 (.int .i64 t)).set1 (.slice none 0 0)
        obtain ⟨r0, r1, _⟩ := Zf.cells
        exact bodyPost_ret (v := .agg #[.int .i64 t, .slice none 0 0]) (by simp [results, Try.results65, go_sem, r0, r1]) rfl ⟨_, _, _, rfl, HK.out.on (kept_grown k2 hgB), ⟨⟨t0, t1⟩, Nat.le_succ _, HW.out⟩, k2, k3.le (by omega)⟩
      · have h3 : m = 9223372036854775805 ∨ m = 9223372036854775806 ∨ m = 9223372036854775807 := by omega
        rcases h3 with rfl | rfl | rfl
        · clear hmx
          have A7 := A5.alloc (.cells #[.int .i64 (-1), .int .i64 0, .int .i64 701, .int .i64 9223372036854775807, .int .i64 (wrap64 9223372036854775808)] 3)
          have Z7 := Z5.alloc (.cells #[.int .i64 (-1), .int .i64 0, .int .i64 701, .int .i64 9223372036854775807, .int .i64 (wrap64 9223372036854775808)] 3)
          have G7 := grown_alloc G5 (.cells #[.int .i64 (-1), .int .i64 0, .int .i64 701, .int .i64 9223372036854775807, .int .i64 (wrap64 9223372036854775808)] 3)
          have R7 := R5.alloc (.cells #[.int .i64 (-1), .int .i64 0, .int .i64 701, .int .i64 9223372036854775807, .int .i64 (wrap64 9223372036854775808)] 3)
          obtain ⟨A50, A51, A52⟩ := A5.cells
          clear O5 G5 Z5
          go_wp2_with fail
          refine (num_in I64 g _ v w5.heap.size 5 5 _ R7 (by omega) (by omega) (by omega) (by omega) (new_ints_in w5 I64 [-1, 0, 701, 9223372036854775807, (wrap64 9223372036854775808)] 3 (by simp [I64, wrap64]))).mono ?_
          rintro e w6 ⟨_, rfl, ⟨t, rfl, t0, t1⟩, hg6, R6⟩
          have A6 := A7.keepG hg6 hne
          have Z6 := Z7.keepG hg6 hne1
          have G6 := grown_two G7 hg6
          clear hg6 A7 Z7 G7 R7 A5 R5 A50 A51 A52
          obtain ⟨A60, A61, A62⟩ := A6.cells
          obtain ⟨B60, B61⟩ := A6.frozen
          obtain ⟨Z60, Z61, Z62⟩ := Z6.cells
          obtain ⟨Y60, Y61⟩ := Z6.frozen
          go_wp2_with fail
          have G6' := grown_set G6 (p := ⟨w.heap.size, 0, none⟩) (Nat.le_refl _) (.int .i64 t)
          have R6' := R6.setNew (q := ⟨w.heap.size, 0, none⟩) (x := .int .i64 t) hr (Nat.le_refl _)
          obtain ⟨k2, k3⟩ := plain_end (.slice none 0 0) t hr G6' R6'
          have Zf := ((Z6.set_other (p := ⟨w.heap.size, 0, none⟩) (z := .int .i64 t) (by simp)).set0 (.int .i64 t)).set1 (.slice none 0 0)
          obtain ⟨r0, r1, _⟩ := Zf.cells
          exact bodyPost_ret (v := .agg #[.int .i64 t, .slice none 0 0]) (by simp [results, Try.results65, go_sem, r0, r1]) rfl ⟨_, _, _, rfl, HK.out.on (kept_grown k2 hgB), ⟨⟨t0, t1⟩, Nat.le_succ _, HW.out⟩, k2, k3.le (by omega)⟩
        · clear hmx
          have A7 := A5.alloc (.cells #[.int .i64 (-1), .int .i64 0, .int .i64 701, .int .i64 9223372036854775807, .int .i64 (wrap64 9223372036854775809)] 3)
          have Z7 := Z5.alloc (.cells #[.int .i64 (-1), .int .i64 0, .int .i64 701, .int .i64 9223372036854775807, .int .i64 (wrap64 9223372036854775809)] 3)
          have G7 := grown_alloc G5 (.cells #[.int .i64 (-1), .int .i64 0, .int .i64 701, .int .i64 9223372036854775807, .int .i64 (wrap64 9223372036854775809)] 3)
          have R7 := R5.alloc (.cells #[.int .i64 (-1), .int .i64 0, .int .i64 701, .int .i64 9223372036854775807, .int .i64 (wrap64 9223372036854775809)] 3)
          obtain ⟨A50, A51, A52⟩ := A5.cells
          clear O5 G5 Z5
          go_wp2_with fail
          refine (num_in I64 g _ v w5.heap.size 5 5 _ R7 (by omega) (by omega) (by omega) (by omega) (new_ints_in w5 I64 [-1, 0, 701, 9223372036854775807, (wrap64 9223372036854775809)] 3 (by simp [I64, wrap64]))).mono ?_
          rintro e w6 ⟨_, rfl, ⟨t, rfl, t0, t1⟩, hg6, R6⟩
          have A6 := A7.keepG hg6 hne
          have Z6 := Z7.keepG hg6 hne1
          have G6 := grown_two G7 hg6
          clear hg6 A7 Z7 G7 R7 A5 R5 A50 A51 A52
          obtain ⟨A60, A61, A62⟩ := A6.cells
          obtain ⟨B60, B61⟩ := A6.frozen
          obtain ⟨Z60, Z61, Z62⟩ := Z6.cells
          obtain ⟨Y60, Y61⟩ := Z6.frozen
          go_wp2_with fail
          have G6' := grown_set G6 (p := ⟨w.heap.size, 0, none⟩) (Nat.le_refl _) (.int .i64 t)
          have R6' := R6.setNew (q := ⟨w.heap.size, 0, none⟩) (x := .int .i64 t) hr (Nat.le_refl _)
          obtain ⟨k2, k3⟩ := plain_end (.slice none 0 0) t hr G6' R6'
          have Zf := ((Z6.set_other (p := ⟨w.heap.size, 0, none⟩) (z := .int .i64 t) (by simp)).set0 (.int .i64 t)).set1 (.slice none 0 0)
          obtain ⟨r0, r1, _⟩ := Zf.cells
          exact bodyPost_ret (v := .agg #[.int .i64 t, .slice none 0 0]) (by simp [results, Try.results65, go_sem, r0, r1]) rfl ⟨_, _, _, rfl, HK.out.on (kept_grown k2 hgB), ⟨⟨t0, t1⟩, Nat.le_succ _, HW.out⟩, k2, k3.le (by omega)⟩
        · clear hmx
          have A7 := A5.alloc (.cells #[.int .i64 (-1), .int .i64 0, .int .i64 701, .int .i64 9223372036854775807, .int .i64 (wrap64 9223372036854775810)] 3)
          have Z7 := Z5.alloc (.cells #[.int .i64 (-1), .int .i64 0, .int .i64 701, .int .i64 9223372036854775807, .int .i64 (wrap64 9223372036854775810)] 3)
          have G7 := grown_alloc G5 (.cells #[.int .i64 (-1), .int .i64 0, .int .i64 701, .int .i64 9223372036854775807, .int .i64 (wrap64 9223372036854775810)] 3)
          have R7 := R5.alloc (.cells #[.int .i64 (-1), .int .i64 0, .int .i64 701, .int .i64 9223372036854775807, .int .i64 (wrap64 9223372036854775810)] 3)
          obtain ⟨A50, A51, A52⟩ := A5.cells
          clear O5 G5 Z5
          go_wp2_with fail
          refine (num_in I64 g _ v w5.heap.size 5 5 _ R7 (by omega) (by omega) (by omega) (by omega) (new_ints_in w5 I64 [-1, 0, 701, 9223372036854775807, (wrap64 9223372036854775810)] 3 (by simp [I64, wrap64]))).mono ?_
          rintro e w6 ⟨_, rfl, ⟨t, rfl, t0, t1⟩, hg6, R6⟩
          have A6 := A7.keepG hg6 hne
          have Z6 := Z7.keepG hg6 hne1
          have G6 := grown_two G7 hg6
          clear hg6 A7 Z7 G7 R7 A5 R5 A50 A51 A52
          obtain ⟨A60, A61, A62⟩ := A6.cells
          obtain ⟨B60, B61⟩ := A6.frozen
          obtain ⟨Z60, Z61, Z62⟩ := Z6.cells
          obtain ⟨Y60, Y61⟩ := Z6.frozen
          go_wp2_with fail
          have G6' := grown_set G6 (p := ⟨w.heap.size, 0, none⟩) (Nat.le_refl _) (.int .i64 t)
          have R6' := R6.setNew (q := ⟨w.heap.size, 0, none⟩) (x := .int .i64 t) hr (Nat.le_refl _)
          obtain ⟨k2, k3⟩ := plain_end (.slice none 0 0) t hr G6' R6'
          have Zf := ((Z6.set_other (p := ⟨w.heap.size, 0, none⟩) (z := .int .i64 t) (by simp)).set0 (.int .i64 t)).set1 (.slice none 0 0)
          obtain ⟨r0, r1, _⟩ := Zf.cells
          exact bodyPost_ret (v := .agg #[.int .i64 t, .slice none 0 0]) (by simp [results, Try.results65, go_sem, r0, r1]) rfl ⟨_, _, _, rfl, HK.out.on (kept_grown k2 hgB), ⟨⟨t0, t1⟩, Nat.le_succ _, HW.out⟩, k2, k3.le (by omega)⟩
    · have d0 : (p == 0) = false := by simpa using c0
      have d1 : (p == 1) = false := by simpa using c1
      have d2 : (p == 2) = false := by simpa using c2
      have d3 : (p == 3) = false := by simpa using c3
      have d4 : (p == 4) = false := by simpa using c4
      have d5 : (p == 5) = false := by simpa using c5
      clear c0 c1 c2 c3 c4 c5 O5
      obtain ⟨A50, A51, A52⟩ := A5.cells
      obtain ⟨Z50, Z51, Z52⟩ := Z5.cells
      obtain ⟨Y50, Y51⟩ := Z5.frozen
      go_wp2_with fail
      obtain ⟨k2, k3⟩ := plain_end (.slice none 0 0) m hr G5 R5
      have Zf := (Z5.set0 (.int .i64 m)).set1 (.slice none 0 0)
      obtain ⟨r0, r1, _⟩ := Zf.cells
      exact bodyPost_ret (v := .agg #[.int .i64 m, .slice none 0 0]) (by simp [results, Try.results65, go_sem, r0, r1]) rfl ⟨_, _, _, rfl, HK.out.on (kept_grown k2 hgB), ⟨⟨m0, m1⟩, Nat.le_succ _, HW.out⟩, k2, k3.le (by omega)⟩
  · have hnews := (hR w (Kept.refl _ _)).news
    have hone : ∀ u ∈ (List.range ls.length).map F, u.oneCell' = true := by
      intro u hu
      obtain ⟨i, hi, rfl⟩ := List.mem_map.1 hu
      obtain ⟨a', c', e, _⟩ := (hF i (List.mem_range.1 hi)).now
      rw [e]; rfl
    have HF : Hid (∀ i, i < ls.length → ((List.range ls.length).map F).getD i undef = F i ∧ KI B w (F i) (ls.getD i [])) := fun i hi => ⟨by simp [List.getD_eq_getElem?_getD, hi], hF i hi⟩
    have HLEN : Hid (((List.range ls.length).map F).length = ls.length) := by simp [Hid]
    have hnews0 := (hR _ (kept_below (below_res3 (w := w) (o := .cells #[.int .i64 m, .slice (some ⟨b, 0, none⟩) ls.length cap] 38) (o' := .cells #[.int .i64 0, .slice none 0 0] 38) (o'' := .cells #[] 22) (Below.refl _ _)))).news
    generalize (List.range ls.length).map F = fs at *
    clear hF hR hnews
    have A0 : Blk (((w.alloc (.cells #[.int .i64 m, .slice (some ⟨b, 0, none⟩) ls.length cap] 38)).alloc (.cells #[.int .i64 0, .slice none 0 0] 38)).alloc (.cells #[] 22)) w.heap.size (.int .i64 m) (.slice (some ⟨b, 0, none⟩) ls.length cap) 38 := ((blk_new w _ _ _).alloc _).alloc _
    have Z0 : Blk (((w.alloc (.cells #[.int .i64 m, .slice (some ⟨b, 0, none⟩) ls.length cap] 38)).alloc (.cells #[.int .i64 0, .slice none 0 0] 38)).alloc (.cells #[] 22)) (w.heap.size + 1) (.int .i64 0) (.slice none 0 0) 38 := (blk_new1 w _ _ _ _).alloc _
    have G0 : w.grownBy (((w.alloc (.cells #[.int .i64 m, .slice (some ⟨b, 0, none⟩) ls.length cap] 38)).alloc (.cells #[.int .i64 0, .slice none 0 0] 38)).alloc (.cells #[] 22)) (some g) := grown_alloc (grown_alloc (World.grownBy_alloc _ _ _) _) _
    have R0 : RdOk (((w.alloc (.cells #[.int .i64 m, .slice (some ⟨b, 0, none⟩) ls.length cap] 38)).alloc (.cells #[.int .i64 0, .slice none 0 0] 38)).alloc (.cells #[] 22)) g v P := ((hr.alloc _).alloc _).alloc _
    have O0 : (((w.alloc (.cells #[.int .i64 m, .slice (some ⟨b, 0, none⟩) ls.length cap] 38)).alloc (.cells #[.int .i64 0, .slice none 0 0] 38)).alloc (.cells #[] 22)).ownsRow (w.heap.size + 2) 22 1 (.slice (some ⟨w.heap.size + 1 + 1, 0, none⟩) 0 0) 0 [] := by
      have := World.ownsRow_lit (base := w.heap.size + 2) (e := 22) (size := 1) ((w.alloc (.cells #[.int .i64 m, .slice (some ⟨b, 0, none⟩) ls.length cap] 38)).alloc (.cells #[.int .i64 0, .slice none 0 0] 38)) #[] 0 (by simp) (Nat.zero_le _) rfl
      simpa using this
    go_enter Try.func65, Try.ntmps65
    go_wp2_with (at_builtin; refine wpList_append_own _ rfl _ _ _ rfl (w.heap.size + 2) 22 i0 (.slice none 0 0) 1 24 Try.underlying33 hi hz0 hz1 hz2 rfl (by omega) (.slice (some ⟨w.heap.size + 1 + 1, 0, none⟩) 0 0) 0 [] (by rfl) O0 ⟨b, 0, none⟩ ls.length cap fs (by rfl) (by simpa using HLEN.out) hnews0 hone (by unfold maxLen; omega) (by omega) (by simp) ?_)
    intro y w4 own4 hg4 hy4
    have hrow := own_row_ge O0
    have A := A0.growNew hg4 hrow (by omega)
    have Z := Z0.growNew hg4 hrow (by omega)
    have G := grown_new G0 hg4 (fun j hj => by have := hrow j hj; omega)
    have R := R0.growNew hr hg4 (fun j hj => by have := hrow j hj; omega)
    have OWN : w4.ownsRow (w.heap.size + 2) 22 1 y ls.length fs := by simpa using own4
    have hs6 : w.heap.size + 2 ≤ w4.heap.size := by have := hg4.size; simp at this; omega
    clear A0 Z0 G0 R0 O0 own4 hg4 hy4 hrow hnews0 hone
    go_wp2_with fail
    refine (pick_any g _ v 60 _ R (by omega)).mono ?_
    rintro e w5 ⟨p, rfl, p0, p1, _, hg5, R5⟩
    have p2 := p1 (by decide)
    have A5 := A.keepG hg5 hne
    have Z5 := Z.keepG hg5 hne1
    have G5 := grown_two G hg5
    have O5 := own_grown OWN hg5 (by omega)
    have hs5 := hg5.size
    have hs4 : w.heap.size + 2 ≤ w5.heap.size := by omega
    clear hg5 A Z G R OWN p1
    by_cases c0 : p = 0
    · subst c0
      by_cases hmx : m = 9223372036854775807
      · subst hmx
        have O7 := (O5.alloc (.cells #[.int .i64 (wrap64 9223372036854775808)] 3)).alloc (.cells #[.slice (some ⟨w5.heap.size, 0, none⟩) 1 1] 22)
        have L7 := (World.ownsRow_lit (base := w.heap.size + 2) (e := 3) (size := 1) w5 #[.int .i64 (wrap64 9223372036854775808)] 1 hs4 (by simp [maxLen]) rfl).alloc (.cells #[.slice (some ⟨w5.heap.size, 0, none⟩) 1 1] 22)
        have A7 := (A5.alloc (.cells #[.int .i64 (wrap64 9223372036854775808)] 3)).alloc (.cells #[.slice (some ⟨w5.heap.size, 0, none⟩) 1 1] 22)
        have Z7 := (Z5.alloc (.cells #[.int .i64 (wrap64 9223372036854775808)] 3)).alloc (.cells #[.slice (some ⟨w5.heap.size, 0, none⟩) 1 1] 22)
        have G7 := grown_alloc (grown_alloc G5 (.cells #[.int .i64 (wrap64 9223372036854775808)] 3)) (.cells #[.slice (some ⟨w5.heap.size, 0, none⟩) 1 1] 22)
        have R7 := (R5.alloc (.cells #[.int .i64 (wrap64 9223372036854775808)] 3)).alloc (.cells #[.slice (some ⟨w5.heap.size, 0, none⟩) 1 1] 22)
        have hyl : ∀ k, Value.ownBlock (y) = some k → k < w5.heap.size := fun k hk => (O5.lt k hk).2
        obtain ⟨A0, A1, A2⟩ := A5.cells
        clear O5 A5 Z5 G5 R5
        go_wp2_with (at_builtin; refine wpList_append_lies _ rfl _ _ _ rfl (w.heap.size + 2) 22 i0 (.slice none 0 0) 1 24 Try.underlying33 hi hz0 hz1 hz2 rfl (by omega) (y) ls.length (fs) (by rfl) O7 ⟨w5.heap.size + 1, 0, none⟩ 1 1 [.slice (some ⟨w5.heap.size, 0, none⟩) 1 1] (by rfl) rfl (by rw [show w5.heap.size + 1 = (w5.alloc (.cells #[.int .i64 (wrap64 9223372036854775808)] 3)).heap.size by simp]; exact World.news_of_block (heap_alloc_new _ _)) (by simp [Value.oneCell']) (by omega) (by unfold maxLen; omega) (by omega) (by simp; omega) _ rfl ?_)
        intro b8 cap8 w8 own8 hg8 hat8 hlt8
        have hrow := own_row_ge O7
        have A8 := A7.growNew hg8 hrow (by omega)
        have Z8 := Z7.growNew hg8 hrow (by omega)
        have G8 := grown_new G7 hg8 (fun j hj => by have := hrow j hj; omega)
        have R8 := R7.growNew hr hg8 (fun j hj => by have := hrow j hj; omega)
        have L8 := L7.kept hg8 (.inr (fun e => by have := hyl _ e.symm; simp at this))
        clear A0 A1 A2 A7 Z7 G7 R7 L7 O7 hg8 hrow hat8 hlt8 hyl
        obtain ⟨n9, hn9⟩ : ∃ n, n = ls.length + 1 := ⟨_, rfl⟩
        rw [← hn9] at own8 ⊢
        have HN := Lib.hid hn9
        have HO := Lib.hid own8
        have HL := Lib.hid L8
        clear hn9 own8 L8
        obtain ⟨A80, A81, A82⟩ := A8.cells
        obtain ⟨B80, B81⟩ := A8.frozen
        obtain ⟨Z80, Z81, Z82⟩ := Z8.cells
        obtain ⟨Y80, Y81⟩ := Z8.frozen
        go_wp2_with fail
        obtain ⟨k1, k2, k3⟩ := bent_end (l := [(wrap64 9223372036854775808)]) (F := F) 9223372036854775807 hgB hB hr G8 R8 HN.out HO.out HLEN.out HF.out HL.out
        have Zf := ((Z8.set_other (p := ⟨w.heap.size, 1, none⟩) (z := .slice (some ⟨b8, 0, none⟩) n9 cap8) (by simp)).set0 (.int .i64 9223372036854775807)).set1 (.slice (some ⟨b8, 0, none⟩) n9 cap8)
        obtain ⟨r0, r1, _⟩ := Zf.cells
        exact bodyPost_ret (v := .agg #[.int .i64 9223372036854775807, .slice (some ⟨b8, 0, none⟩) n9 cap8]) (by simp [results, Try.results65, go_sem, r0, r1]) rfl ⟨_, _, _, rfl, k1, ⟨⟨m0, m1⟩, by simp, HW.out.snoc (intsWf_mem (by simp [I64, wrap64]))⟩, k2, k3.le (by omega)⟩
      · have hmx2 : m + 1 ≤ 9223372036854775807 := by omega
        have O7 := (O5.alloc (.cells #[.int .i64 (m + 1)] 3)).alloc (.cells #[.slice (some ⟨w5.heap.size, 0, none⟩) 1 1] 22)
        have L7 := (World.ownsRow_lit (base := w.heap.size + 2) (e := 3) (size := 1) w5 #[.int .i64 (m + 1)] 1 hs4 (by simp [maxLen]) rfl).alloc (.cells #[.slice (some ⟨w5.heap.size, 0, none⟩) 1 1] 22)
        have A7 := (A5.alloc (.cells #[.int .i64 (m + 1)] 3)).alloc (.cells #[.slice (some ⟨w5.heap.size, 0, none⟩) 1 1] 22)
        have Z7 := (Z5.alloc (.cells #[.int .i64 (m + 1)] 3)).alloc (.cells #[.slice (some ⟨w5.heap.size, 0, none⟩) 1 1] 22)
        have G7 := grown_alloc (grown_alloc G5 (.cells #[.int .i64 (m + 1)] 3)) (.cells #[.slice (some ⟨w5.heap.size, 0, none⟩) 1 1] 22)
        have R7 := (R5.alloc (.cells #[.int .i64 (m + 1)] 3)).alloc (.cells #[.slice (some ⟨w5.heap.size, 0, none⟩) 1 1] 22)
        have hyl : ∀ k, Value.ownBlock (y) = some k → k < w5.heap.size := fun k hk => (O5.lt k hk).2
        obtain ⟨A0, A1, A2⟩ := A5.cells
        clear O5 A5 Z5 G5 R5
        go_wp2_with (at_builtin; refine wpList_append_lies _ rfl _ _ _ rfl (w.heap.size + 2) 22 i0 (.slice none 0 0) 1 24 Try.underlying33 hi hz0 hz1 hz2 rfl (by omega) (y) ls.length (fs) (by rfl) O7 ⟨w5.heap.size + 1, 0, none⟩ 1 1 [.slice (some ⟨w5.heap.size, 0, none⟩) 1 1] (by rfl) rfl (by rw [show w5.heap.size + 1 = (w5.alloc (.cells #[.int .i64 (m + 1)] 3)).heap.size by simp]; exact World.news_of_block (heap_alloc_new _ _)) (by simp [Value.oneCell']) (by omega) (by unfold maxLen; omega) (by omega) (by simp; omega) _ rfl ?_)
        intro b8 cap8 w8 own8 hg8 hat8 hlt8
        have hrow := own_row_ge O7
        have A8 := A7.growNew hg8 hrow (by omega)
        have Z8 := Z7.growNew hg8 hrow (by omega)
        have G8 := grown_new G7 hg8 (fun j hj => by have := hrow j hj; omega)
        have R8 := R7.growNew hr hg8 (fun j hj => by have := hrow j hj; omega)
        have L8 := L7.kept hg8 (.inr (fun e => by have := hyl _ e.symm; simp at this))
        clear A0 A1 A2 A7 Z7 G7 R7 L7 O7 hg8 hrow hat8 hlt8 hyl
        obtain ⟨n9, hn9⟩ : ∃ n, n = ls.length + 1 := ⟨_, rfl⟩
        rw [← hn9] at own8 ⊢
        have HN := Lib.hid hn9
        have HO := Lib.hid own8
        have HL := Lib.hid L8
        clear hn9 own8 L8
        obtain ⟨A80, A81, A82⟩ := A8.cells
        obtain ⟨B80, B81⟩ := A8.frozen
        obtain ⟨Z80, Z81, Z82⟩ := Z8.cells
        obtain ⟨Y80, Y81⟩ := Z8.frozen
        go_wp2_with fail
        obtain ⟨k1, k2, k3⟩ := bent_end (l := [(m + 1)]) (F := F) m hgB hB hr G8 R8 HN.out HO.out HLEN.out HF.out HL.out
        have Zf := ((Z8.set_other (p := ⟨w.heap.size, 1, none⟩) (z := .slice (some ⟨b8, 0, none⟩) n9 cap8) (by simp)).set0 (.int .i64 m)).set1 (.slice (some ⟨b8, 0, none⟩) n9 cap8)
        obtain ⟨r0, r1, _⟩ := Zf.cells
        exact bodyPost_ret (v := .agg #[.int .i64 m, .slice (some ⟨b8, 0, none⟩) n9 cap8]) (by simp [results, Try.results65, go_sem, r0, r1]) rfl ⟨_, _, _, rfl, k1, ⟨⟨m0, m1⟩, by simp, HW.out.snoc (intsWf_mem (by simp [I64]; omega))⟩, k2, k3.le (by omega)⟩
    by_cases c1 : p = 1
    · subst c1
      have O7 := (O5.alloc (.cells #[.int .i64 1, .int .i64 (-1)] 3)).alloc (.cells #[.slice (some ⟨w5.heap.size, 0, none⟩) 2 2] 22)
      have L7 := (World.ownsRow_lit (base := w.heap.size + 2) (e := 3) (size := 1) w5 #[.int .i64 1, .int .i64 (-1)] 2 hs4 (by simp [maxLen]) rfl).alloc (.cells #[.slice (some ⟨w5.heap.size, 0, none⟩) 2 2] 22)
      have A7 := (A5.alloc (.cells #[.int .i64 1, .int .i64 (-1)] 3)).alloc (.cells #[.slice (some ⟨w5.heap.size, 0, none⟩) 2 2] 22)
      have Z7 := (Z5.alloc (.cells #[.int .i64 1, .int .i64 (-1)] 3)).alloc (.cells #[.slice (some ⟨w5.heap.size, 0, none⟩) 2 2] 22)
      have G7 := grown_alloc (grown_alloc G5 (.cells #[.int .i64 1, .int .i64 (-1)] 3)) (.cells #[.slice (some ⟨w5.heap.size, 0, none⟩) 2 2] 22)
      have R7 := (R5.alloc (.cells #[.int .i64 1, .int .i64 (-1)] 3)).alloc (.cells #[.slice (some ⟨w5.heap.size, 0, none⟩) 2 2] 22)
      have hyl : ∀ k, Value.ownBlock (y) = some k → k < w5.heap.size := fun k hk => (O5.lt k hk).2
      obtain ⟨A0, A1, A2⟩ := A5.cells
      clear O5 A5 Z5 G5 R5
      go_wp2_with (at_builtin; refine wpList_append_lies _ rfl _ _ _ rfl (w.heap.size + 2) 22 i0 (.slice none 0 0) 1 24 Try.underlying33 hi hz0 hz1 hz2 rfl (by omega) (y) ls.length (fs) (by rfl) O7 ⟨w5.heap.size + 1, 0, none⟩ 1 1 [.slice (some ⟨w5.heap.size, 0, none⟩) 2 2] (by rfl) rfl (by rw [show w5.heap.size + 1 = (w5.alloc (.cells #[.int .i64 1, .int .i64 (-1)] 3)).heap.size by simp]; exact World.news_of_block (heap_alloc_new _ _)) (by simp [Value.oneCell']) (by omega) (by unfold maxLen; omega) (by omega) (by simp; omega) _ rfl ?_)
      intro b8 cap8 w8 own8 hg8 hat8 hlt8
      have hrow := own_row_ge O7
      have A8 := A7.growNew hg8 hrow (by omega)
      have Z8 := Z7.growNew hg8 hrow (by omega)
      have G8 := grown_new G7 hg8 (fun j hj => by have := hrow j hj; omega)
      have R8 := R7.growNew hr hg8 (fun j hj => by have := hrow j hj; omega)
      have L8 := L7.kept hg8 (.inr (fun e => by have := hyl _ e.symm; simp at this))
      clear A0 A1 A2 A7 Z7 G7 R7 L7 O7 hg8 hrow hat8 hlt8 hyl
      obtain ⟨n9, hn9⟩ : ∃ n, n = ls.length + 1 := ⟨_, rfl⟩
      rw [← hn9] at own8 ⊢
      have HN := Lib.hid hn9
      have HO := Lib.hid own8
      have HL := Lib.hid L8
      clear hn9 own8 L8
      obtain ⟨A80, A81, A82⟩ := A8.cells
      obtain ⟨B80, B81⟩ := A8.frozen
      obtain ⟨Z80, Z81, Z82⟩ := Z8.cells
      obtain ⟨Y80, Y81⟩ := Z8.frozen
      go_wp2_with fail
      obtain ⟨k1, k2, k3⟩ := bent_end (l := [1, (-1)]) (F := F) m hgB hB hr G8 R8 HN.out HO.out HLEN.out HF.out HL.out
      have Zf := ((Z8.set_other (p := ⟨w.heap.size, 1, none⟩) (z := .slice (some ⟨b8, 0, none⟩) n9 cap8) (by simp)).set0 (.int .i64 m)).set1 (.slice (some ⟨b8, 0, none⟩) n9 cap8)
      obtain ⟨r0, r1, _⟩ := Zf.cells
      exact bodyPost_ret (v := .agg #[.int .i64 m, .slice (some ⟨b8, 0, none⟩) n9 cap8]) (by simp [results, Try.results65, go_sem, r0, r1]) rfl ⟨_, _, _, rfl, k1, ⟨⟨m0, m1⟩, by simp, HW.out.snoc (intsWf_mem (by simp [I64]))⟩, k2, k3.le (by omega)⟩
    by_cases c2 : p = 2
    · subst c2
      have O7 := (O5.alloc (.cells #[.int .i64 0] 3)).alloc (.cells #[.slice (some ⟨w5.heap.size, 0, none⟩) 1 1] 22)
      have L7 := (World.ownsRow_lit (base := w.heap.size + 2) (e := 3) (size := 1) w5 #[.int .i64 0] 1 hs4 (by simp [maxLen]) rfl).alloc (.cells #[.slice (some ⟨w5.heap.size, 0, none⟩) 1 1] 22)
      have A7 := (A5.alloc (.cells #[.int .i64 0] 3)).alloc (.cells #[.slice (some ⟨w5.heap.size, 0, none⟩) 1 1] 22)
      have Z7 := (Z5.alloc (.cells #[.int .i64 0] 3)).alloc (.cells #[.slice (some ⟨w5.heap.size, 0, none⟩) 1 1] 22)
      have G7 := grown_alloc (grown_alloc G5 (.cells #[.int .i64 0] 3)) (.cells #[.slice (some ⟨w5.heap.size, 0, none⟩) 1 1] 22)
      have R7 := (R5.alloc (.cells #[.int .i64 0] 3)).alloc (.cells #[.slice (some ⟨w5.heap.size, 0, none⟩) 1 1] 22)
      have hyl : ∀ k, Value.ownBlock (y) = some k → k < w5.heap.size := fun k hk => (O5.lt k hk).2
      obtain ⟨A0, A1, A2⟩ := A5.cells
      clear O5 A5 Z5 G5 R5
      go_wp2_with (at_builtin; refine wpList_append_lies _ rfl _ _ _ rfl (w.heap.size + 2) 22 i0 (.slice none 0 0) 1 24 Try.underlying33 hi hz0 hz1 hz2 rfl (by omega) (y) ls.length (fs) (by rfl) O7 ⟨w5.heap.size + 1, 0, none⟩ 1 1 [.slice (some ⟨w5.heap.size, 0, none⟩) 1 1] (by rfl) rfl (by rw [show w5.heap.size + 1 = (w5.alloc (.cells #[.int .i64 0] 3)).heap.size by simp]; exact World.news_of_block (heap_alloc_new _ _)) (by simp [Value.oneCell']) (by omega) (by unfold maxLen; omega) (by omega) (by simp; omega) _ rfl ?_)
      intro b8 cap8 w8 own8 hg8 hat8 hlt8
      have hrow := own_row_ge O7
      have A8 := A7.growNew hg8 hrow (by omega)
      have Z8 := Z7.growNew hg8 hrow (by omega)
      have G8 := grown_new G7 hg8 (fun j hj => by have := hrow j hj; omega)
      have R8 := R7.growNew hr hg8 (fun j hj => by have := hrow j hj; omega)
      have L8 := L7.kept hg8 (.inr (fun e => by have := hyl _ e.symm; simp at this))
      clear A0 A1 A2 A7 Z7 G7 R7 L7 O7 hg8 hrow hat8 hlt8 hyl
      obtain ⟨n9, hn9⟩ : ∃ n, n = ls.length + 1 := ⟨_, rfl⟩
      rw [← hn9] at own8 ⊢
      have HN := Lib.hid hn9
      have HO := Lib.hid own8
      have HL := Lib.hid L8
      clear hn9 own8 L8
      obtain ⟨A80, A81, A82⟩ := A8.cells
      obtain ⟨B80, B81⟩ := A8.frozen
      obtain ⟨Z80, Z81, Z82⟩ := Z8.cells
      obtain ⟨Y80, Y81⟩ := Z8.frozen
      go_wp2_with fail
      obtain ⟨k1, k2, k3⟩ := bent_end (l := [0]) (F := F) m hgB hB hr G8 R8 HN.out HO.out HLEN.out HF.out HL.out
      have Zf := ((Z8.set_other (p := ⟨w.heap.size, 1, none⟩) (z := .slice (some ⟨b8, 0, none⟩) n9 cap8) (by simp)).set0 (.int .i64 m)).set1 (.slice (some ⟨b8, 0, none⟩) n9 cap8)
      obtain ⟨r0, r1, _⟩ := Zf.cells
      exact bodyPost_ret (v := .agg #[.int .i64 m, .slice (some ⟨b8, 0, none⟩) n9 cap8]) (by simp [results, Try.results65, go_sem, r0, r1]) rfl ⟨_, _, _, rfl, k1, ⟨⟨m0, m1⟩, by simp, HW.out.snoc (intsWf_mem (by simp [I64]))⟩, k2, k3.le (by omega)⟩
    by_cases c4 : p = 4
    · subst c4
      have O7 := (O5.alloc (.cells #[.int .i64 (-9223372036854775808)] 3)).alloc (.cells #[.slice (some ⟨w5.heap.size, 0, none⟩) 1 1] 22)
      have L7 := (World.ownsRow_lit (base := w.heap.size + 2) (e := 3) (size := 1) w5 #[.int .i64 (-9223372036854775808)] 1 hs4 (by simp [maxLen]) rfl).alloc (.cells #[.slice (some ⟨w5.heap.size, 0, none⟩) 1 1] 22)
      have A7 := (A5.alloc (.cells #[.int .i64 (-9223372036854775808)] 3)).alloc (.cells #[.slice (some ⟨w5.heap.size, 0, none⟩) 1 1] 22)
      have Z7 := (Z5.alloc (.cells #[.int .i64 (-9223372036854775808)] 3)).alloc (.cells #[.slice (some ⟨w5.heap.size, 0, none⟩) 1 1] 22)
      have G7 := grown_alloc (grown_alloc G5 (.cells #[.int .i64 (-9223372036854775808)] 3)) (.cells #[.slice (some ⟨w5.heap.size, 0, none⟩) 1 1] 22)
      have R7 := (R5.alloc (.cells #[.int .i64 (-9223372036854775808)] 3)).alloc (.cells #[.slice (some ⟨w5.heap.size, 0, none⟩) 1 1] 22)
      have hyl : ∀ k, Value.ownBlock (y) = some k → k < w5.heap.size := fun k hk => (O5.lt k hk).2
      obtain ⟨A0, A1, A2⟩ := A5.cells
      clear O5 A5 Z5 G5 R5
      go_wp2_with (at_builtin; refine wpList_append_lies _ rfl _ _ _ rfl (w.heap.size + 2) 22 i0 (.slice none 0 0) 1 24 Try.underlying33 hi hz0 hz1 hz2 rfl (by omega) (y) ls.length (fs) (by rfl) O7 ⟨w5.heap.size + 1, 0, none⟩ 1 1 [.slice (some ⟨w5.heap.size, 0, none⟩) 1 1] (by rfl) rfl (by rw [show w5.heap.size + 1 = (w5.alloc (.cells #[.int .i64 (-9223372036854775808)] 3)).heap.size by simp]; exact World.news_of_block (heap_alloc_new _ _)) (by simp [Value.oneCell']) (by omega) (by unfold maxLen; omega) (by omega) (by simp; omega) _ rfl ?_)
      intro b8 cap8 w8 own8 hg8 hat8 hlt8
      have hrow := own_row_ge O7
      have A8 := A7.growNew hg8 hrow (by omega)
      have Z8 := Z7.growNew hg8 hrow (by omega)
      have G8 := grown_new G7 hg8 (fun j hj => by have := hrow j hj; omega)
      have R8 := R7.growNew hr hg8 (fun j hj => by have := hrow j hj; omega)
      have L8 := L7.kept hg8 (.inr (fun e => by have := hyl _ e.symm; simp at this))
      clear A0 A1 A2 A7 Z7 G7 R7 L7 O7 hg8 hrow hat8 hlt8 hyl
      obtain ⟨n9, hn9⟩ : ∃ n, n = ls.length + 1 := ⟨_, rfl⟩
      rw [← hn9] at own8 ⊢
      have HN := Lib.hid hn9
      have HO := Lib.hid own8
      have HL := Lib.hid L8
      clear hn9 own8 L8
      obtain ⟨A80, A81, A82⟩ := A8.cells
      obtain ⟨B80, B81⟩ := A8.frozen
      obtain ⟨Z80, Z81, Z82⟩ := Z8.cells
      obtain ⟨Y80, Y81⟩ := Z8.frozen
      go_wp2_with fail
      obtain ⟨k1, k2, k3⟩ := bent_end (l := [(-9223372036854775808)]) (F := F) m hgB hB hr G8 R8 HN.out HO.out HLEN.out HF.out HL.out
      have Zf := ((Z8.set_other (p := ⟨w.heap.size, 1, none⟩) (z := .slice (some ⟨b8, 0, none⟩) n9 cap8) (by simp)).set0 (.int .i64 m)).set1 (.slice (some ⟨b8, 0, none⟩) n9 cap8)
      obtain ⟨r0, r1, _⟩ := Zf.cells
      exact bodyPost_ret (v := .agg #[.int .i64 m, .slice (some ⟨b8, 0, none⟩) n9 cap8]) (by simp [results, Try.results65, go_sem, r0, r1]) rfl ⟨_, _, _, rfl, k1, ⟨⟨m0, m1⟩, by simp, HW.out.snoc (intsWf_mem (by simp [I64]))⟩, k2, k3.le (by omega)⟩
    by_cases c5 : p = 5
    · subst c5
      have O7 := (O5.alloc (.cells #[.int .i64 2, .int .i64 1] 3)).alloc (.cells #[.slice (some ⟨w5.heap.size, 0, none⟩) 2 2] 22)
      have L7 := (World.ownsRow_lit (base := w.heap.size + 2) (e := 3) (size := 1) w5 #[.int .i64 2, .int .i64 1] 2 hs4 (by simp [maxLen]) rfl).alloc (.cells #[.slice (some ⟨w5.heap.size, 0, none⟩) 2 2] 22)
      have A7 := (A5.alloc (.cells #[.int .i64 2, .int .i64 1] 3)).alloc (.cells #[.slice (some ⟨w5.heap.size, 0, none⟩) 2 2] 22)
      have Z7 := (Z5.alloc (.cells #[.int .i64 2, .int .i64 1] 3)).alloc (.cells #[.slice (some ⟨w5.heap.size, 0, none⟩) 2 2] 22)
      have G7 := grown_alloc (grown_alloc G5 (.cells #[.int .i64 2, .int .i64 1] 3)) (.cells #[.slice (some ⟨w5.heap.size, 0, none⟩) 2 2] 22)
      have R7 := (R5.alloc (.cells #[.int .i64 2, .int .i64 1] 3)).alloc (.cells #[.slice (some ⟨w5.heap.size, 0, none⟩) 2 2] 22)
      have hyl : ∀ k, Value.ownBlock (y) = some k → k < w5.heap.size := fun k hk => (O5.lt k hk).2
      obtain ⟨A0, A1, A2⟩ := A5.cells
      clear O5 A5 Z5 G5 R5
      go_wp2_with (at_builtin; refine wpList_append_lies _ rfl _ _ _ rfl (w.heap.size + 2) 22 i0 (.slice none 0 0) 1 24 Try.underlying33 hi hz0 hz1 hz2 rfl (by omega) (y) ls.length (fs) (by rfl) O7 ⟨w5.heap.size + 1, 0, none⟩ 1 1 [.slice (some ⟨w5.heap.size, 0, none⟩) 2 2] (by rfl) rfl (by rw [show w5.heap.size + 1 = (w5.alloc (.cells #[.int .i64 2, .int .i64 1] 3)).heap.size by simp]; exact World.news_of_block (heap_alloc_new _ _)) (by simp [Value.oneCell']) (by omega) (by unfold maxLen; omega) (by omega) (by simp; omega) _ rfl ?_)
      intro b8 cap8 w8 own8 hg8 hat8 hlt8
      have hrow := own_row_ge O7
      have A8 := A7.growNew hg8 hrow (by omega)
      have Z8 := Z7.growNew hg8 hrow (by omega)
      have G8 := grown_new G7 hg8 (fun j hj => by have := hrow j hj; omega)
      have R8 := R7.growNew hr hg8 (fun j hj => by have := hrow j hj; omega)
      have L8 := L7.kept hg8 (.inr (fun e => by have := hyl _ e.symm; simp at this))
      clear A0 A1 A2 A7 Z7 G7 R7 L7 O7 hg8 hrow hat8 hlt8 hyl
      obtain ⟨n9, hn9⟩ : ∃ n, n = ls.length + 1 := ⟨_, rfl⟩
      rw [← hn9] at own8 ⊢
      have HN := Lib.hid hn9
      have HO := Lib.hid own8
      have HL := Lib.hid L8
      clear hn9 own8 L8
      obtain ⟨A80, A81, A82⟩ := A8.cells
      obtain ⟨B80, B81⟩ := A8.frozen
      obtain ⟨Z80, Z81, Z82⟩ := Z8.cells
      obtain ⟨Y80, Y81⟩ := Z8.frozen
      go_wp2_with fail
      obtain ⟨k1, k2, k3⟩ := bent_end (l := [2, 1]) (F := F) m hgB hB hr G8 R8 HN.out HO.out HLEN.out HF.out HL.out
      have Zf := ((Z8.set_other (p := ⟨w.heap.size, 1, none⟩) (z := .slice (some ⟨b8, 0, none⟩) n9 cap8) (by simp)).set0 (.int .i64 m)).set1 (.slice (some ⟨b8, 0, none⟩) n9 cap8)
      obtain ⟨r0, r1, _⟩ := Zf.cells
      exact bodyPost_ret (v := .agg #[.int .i64 m, .slice (some ⟨b8, 0, none⟩) n9 cap8]) (by simp [results, Try.results65, go_sem, r0, r1]) rfl ⟨_, _, _, rfl, k1, ⟨⟨m0, m1⟩, by simp, HW.out.snoc (intsWf_mem (by simp [I64]))⟩, k2, k3.le (by omega)⟩
    by_cases c3 : p = 3
    · subst c3
      by_cases hmx : m ≤ 9223372036854775804
      · have hmx2 : m + 3 ≤ 9223372036854775807 := by omega
        have A7 := A5.alloc (.cells #[.int .i64 (-1), .int .i64 0, .int .i64 701, .int .i64 9223372036854775807, .int .i64 (m + 3)] 3)
        have Z7 := Z5.alloc (.cells #[.int .i64 (-1), .int .i64 0, .int .i64 701, .int .i64 9223372036854775807, .int .i64 (m + 3)] 3)
        have G7 := grown_alloc G5 (.cells #[.int .i64 (-1), .int .i64 0, .int .i64 701, .int .i64 9223372036854775807, .int .i64 (m + 3)] 3)
        have R7 := R5.alloc (.cells #[.int .i64 (-1), .int .i64 0, .int .i64 701, .int .i64 9223372036854775807, .int .i64 (m + 3)] 3)
        obtain ⟨A50, A51, A52⟩ := A5.cells
        clear O5 G5 Z5
        go_wp2_with fail
        refine (num_in I64 g _ v w5.heap.size 5 5 _ R7 (by omega) (by omega) (by omega) (by omega) (new_ints_in w5 I64 [-1, 0, 701, 9223372036854775807, (m + 3)] 3 (by simp [I64]; omega))).mono ?_
        rintro e w6 ⟨_, rfl, ⟨t, rfl, t0, t1⟩, hg6, R6⟩
        have A6 := A7.keepG hg6 hne
        have Z6 := Z7.keepG hg6 hne1
        have G6 := grown_two G7 hg6
        clear hg6 A7 Z7 G7 R7 A5 R5 A50 A51 A52
        obtain ⟨A60, A61, A62⟩ := A6.cells
        obtain ⟨B60, B61⟩ := A6.frozen
        obtain ⟨Z60, Z61, Z62⟩ := Z6.cells
        obtain ⟨Y60, Y61⟩ := Z6.frozen
        go_wp2_with fail
        have G6' := grown_set G6 (p := ⟨w.heap.size, 0, none⟩) (Nat.le_refl _) (.int .i64 t)
        have R6' := R6.setNew (q := ⟨w.heap.size, 0, none⟩) (x := .int .i64 t) hr (Nat.le_refl _)
        obtain ⟨k2, k3⟩ := plain_end (.slice (some ⟨b, 0, none⟩) ls.length cap) t hr G6' R6'
        have Zf := ((Z6.set_other (p := ⟨w.heap.size, 0, none⟩) (z := .int .i64 t) (by simp)).set0 (.int .i64 t)).set1 (.slice (some ⟨b, 0, none⟩) ls.length cap)
        obtain ⟨r0, r1, _⟩ := Zf.cells
        exact bodyPost_ret (v := .agg #[.int .i64 t, .slice (some ⟨b, 0, none⟩) ls.length cap]) (by simp [results, Try.results65, go_sem, r0, r1]) rfl ⟨_, _, _, rfl, HK.out.on (kept_grown k2 hgB), ⟨⟨t0, t1⟩, Nat.le_succ _, HW.out⟩, k2, k3.le (by omega)⟩
      · have h3 : m = 9223372036854775805 ∨ m = 9223372036854775806 ∨ m = 9223372036854775807 := by omega
        rcases h3 with rfl | rfl | rfl
        · clear hmx
          have A7 := A5.alloc (.cells #[.int .i64 (-1), .int .i64 0, .int .i64 701, .int .i64 9223372036854775807, .int .i64 (wrap64 9223372036854775808)] 3)
          have Z7 := Z5.alloc (.cells #[.int .i64 (-1), .int .i64 0, .int .i64 701, .int .i64 9223372036854775807, .int .i64 (wrap64 9223372036854775808)] 3)
          have G7 := grown_alloc G5 (.cells #[.int .i64 (-1), .int .i64 0, .int .i64 701, .int .i64 9223372036854775807, .int .i64 (wrap64 9223372036854775808)] 3)
          have R7 := R5.alloc (.cells #[.int .i64 (-1), .int .i64 0, .int .i64 701, .int .i64 9223372036854775807, .int .i64 (wrap64 9223372036854775808)] 3)
          obtain ⟨A50, A51, A52⟩ := A5.cells
          clear O5 G5 Z5
          go_wp2_with fail
          refine (num_in I64 g _ v w5.heap.size 5 5 _ R7 (by omega) (by omega) (by omega) (by omega) (new_ints_in w5 I64 [-1, 0, 701, 9223372036854775807, (wrap64 9223372036854775808)] 3 (by simp [I64, wrap64]))).mono ?_
          rintro e w6 ⟨_, rfl, ⟨t, rfl, t0, t1⟩, hg6, R6⟩
          have A6 := A7.keepG hg6 hne
          have Z6 := Z7.keepG hg6 hne1
          have G6 := grown_two G7 hg6
          clear hg6 A7 Z7 G7 R7 A5 R5 A50 A51 A52
          obtain ⟨A60, A61, A62⟩ := A6.cells
          obtain ⟨B60, B61⟩ := A6.frozen
          obtain ⟨Z60, Z61, Z62⟩ := Z6.cells
          obtain ⟨Y60, Y61⟩ := Z6.frozen
          go_wp2_with fail
          have G6' := grown_set G6 (p := ⟨w.heap.size, 0, none⟩) (Nat.le_refl _) (.int .i64 t)
          have R6' := R6.setNew (q := ⟨w.heap.size, 0, none⟩) (x := .int .i64 t) hr (Nat.le_refl _)
          obtain ⟨k2, k3⟩ := plain_end (.slice (some ⟨b, 0, none⟩) ls.length cap) t hr G6' R6'
          have Zf := ((Z6.set_other (p := ⟨w.heap.size, 0, none⟩) (z := .int .i64 t) (by simp)).set0 (.int .i64 t)).set1 (.slice (some ⟨b, 0, none⟩) ls.length cap)
          obtain ⟨r0, r1, _⟩ := Zf.cells
          exact bodyPost_ret (v := .agg #[.int .i64 t, .slice (some ⟨b, 0, none⟩) ls.length cap]) (by simp [results, Try.results65, go_sem, r0, r1]) rfl ⟨_, _, _, rfl, HK.out.on (kept_grown k2 hgB), ⟨⟨t0, t1⟩, Nat.le_succ _, HW.out⟩, k2, k3.le (by omega)⟩
        · clear hmx
          have A7 := A5.alloc (.cells #[.int .i64 (-1), .int .i64 0, .int .i64 701, .int .i64 9223372036854775807, .int .i64 (wrap64 9223372036854775809)] 3)
          have Z7 := Z5.alloc (.cells #[.int .i64 (-1), .int .i64 0, .int .i64 701, .int .i64 9223372036854775807, .int .i64 (wrap64 9223372036854775809)] 3)
          have G7 := grown_alloc G5 (.cells #[.int .i64 (-1), .int .i64 0, .int .i64 701, .int .i64 9223372036854775807, .int .i64 (wrap64 9223372036854775809)] 3)
          have R7 := R5.alloc (.cells #[.int .i64 (-1), .int .i64 0, .int .i64 701, .int .i64 9223372036854775807, .int .i64 (wrap64 9223372036854775809)] 3)
          obtain ⟨A50, A51, A52⟩ := A5.cells
          clear O5 G5 Z5
          go_wp2_with fail
          refine (num_in I64 g _ v w5.heap.size 5 5 _ R7 (by omega) (by omega) (by omega) (by omega) (new_ints_in w5 I64 [-1, 0, 701, 9223372036854775807, (wrap64 9223372036854775809)] 3 (by simp [I64, wrap64]))).mono ?_
          rintro e w6 ⟨_, rfl, ⟨t, rfl, t0, t1⟩, hg6, R6⟩
          have A6 := A7.keepG hg6 hne
          have Z6 := Z7.keepG hg6 hne1
          have G6 := grown_two G7 hg6
          clear hg6 A7 Z7 G7 R7 A5 R5 A50 A51 A52
          obtain ⟨A60, A61, A62⟩ := A6.cells
          obtain ⟨B60, B61⟩ := A6.frozen
          obtain ⟨Z60, Z61, Z62⟩ := Z6.cells
          obtain ⟨Y60, Y61⟩ := Z6.frozen
          go_wp2_with fail
          have G6' := grown_set G6 (p := ⟨w.heap.size, 0, none⟩) (Nat.le_refl _) (.int .i64 t)
          have R6' := R6.setNew (q := ⟨w.heap.size, 0, none⟩) (x := .int .i64 t) hr (Nat.le_refl _)
          obtain ⟨k2, k3⟩ := plain_end (.slice (some ⟨b, 0, none⟩) ls.length cap) t hr G6' R6'
          have Zf := ((Z6.set_other (p := ⟨w.heap.size, 0, none⟩) (z := .int .i64 t) (by simp)).set0 (.int .i64 t)).set1 (.slice (some ⟨b, 0, none⟩) ls.length cap)
          obtain ⟨r0, r1, _⟩ := Zf.cells
          exact bodyPost_ret (v := .agg #[.int .i64 t, .slice (some ⟨b, 0, none⟩) ls.length cap]) (by simp [results, Try.results65, go_sem, r0, r1]) rfl ⟨_, _, _, rfl, HK.out.on (kept_grown k2 hgB), ⟨⟨t0, t1⟩, Nat.le_succ _, HW.out⟩, k2, k3.le (by omega)⟩
        · clear hmx
          have A7 := A5.alloc (.cells #[.int .i64 (-1), .int .i64 0, .int .i64 701, .int .i64 9223372036854775807, .int .i64 (wrap64 9223372036854775810)] 3)
          have Z7 := Z5.alloc (.cells #[.int .i64 (-1), .int .i64 0, .int .i64 701, .int .i64 9223372036854775807, .int .i64 (wrap64 9223372036854775810)] 3)
          have G7 := grown_alloc G5 (.cells #[.int .i64 (-1), .int .i64 0, .int .i64 701, .int .i64 9223372036854775807, .int .i64 (wrap64 9223372036854775810)] 3)
          have R7 := R5.alloc (.cells #[.int .i64 (-1), .int .i64 0, .int .i64 701, .int .i64 9223372036854775807, .int .i64 (wrap64 9223372036854775810)] 3)
          obtain ⟨A50, A51, A52⟩ := A5.cells
          clear O5 G5 Z5
          go_wp2_with fail
          refine (num_in I64 g _ v w5.heap.size 5 5 _ R7 (by omega) (by omega) (by omega) (by omega) (new_ints_in w5 I64 [-1, 0, 701, 9223372036854775807, (wrap64 9223372036854775810)] 3 (by simp [I64, wrap64]))).mono ?_
          rintro e w6 ⟨_, rfl, ⟨t, rfl, t0, t1⟩, hg6, R6⟩
          have A6 := A7.keepG hg6 hne
          have Z6 := Z7.keepG hg6 hne1
          have G6 := grown_two G7 hg6
          clear hg6 A7 Z7 G7 R7 A5 R5 A50 A51 A52
          obtain ⟨A60, A61, A62⟩ := A6.cells
          obtain ⟨B60, B61⟩ := A6.frozen
          obtain ⟨Z60, Z61, Z62⟩ := Z6.cells
          obtain ⟨Y60, Y61⟩ := Z6.frozen
          go_wp2_with fail
          have G6' := grown_set G6 (p := ⟨w.heap.size, 0, none⟩) (Nat.le_refl _) (.int .i64 t)
          have R6' := R6.setNew (q := ⟨w.heap.size, 0, none⟩) (x := .int .i64 t) hr (Nat.le_refl _)
          obtain ⟨k2, k3⟩ := plain_end (.slice (some ⟨b, 0, none⟩) ls.length cap) t hr G6' R6'
          have Zf := ((Z6.set_other (p := ⟨w.heap.size, 0, none⟩) (z := .int .i64 t) (by simp)).set0 (.int .i64 t)).set1 (.slice (some ⟨b, 0, none⟩) ls.length cap)
          obtain ⟨r0, r1, _⟩ := Zf.cells
          exact bodyPost_ret (v := .agg #[.int .i64 t, .slice (some ⟨b, 0, none⟩) ls.length cap]) (by simp [results, Try.results65, go_sem, r0, r1]) rfl ⟨_, _, _, rfl, HK.out.on (kept_grown k2 hgB), ⟨⟨t0, t1⟩, Nat.le_succ _, HW.out⟩, k2, k3.le (by omega)⟩
    · have d0 : (p == 0) = false := by simpa using c0
      have d1 : (p == 1) = false := by simpa using c1
      have d2 : (p == 2) = false := by simpa using c2
      have d3 : (p == 3) = false := by simpa using c3
      have d4 : (p == 4) = false := by simpa using c4
      have d5 : (p == 5) = false := by simpa using c5
      clear c0 c1 c2 c3 c4 c5 O5
      obtain ⟨A50, A51, A52⟩ := A5.cells
      obtain ⟨Z50, Z51, Z52⟩ := Z5.cells
      obtain ⟨Y50, Y51⟩ := Z5.frozen
      go_wp2_with fail
      obtain ⟨k2, k3⟩ := plain_end (.slice (some ⟨b, 0, none⟩) ls.length cap) m hr G5 R5
      have Zf := (Z5.set0 (.int .i64 m)).set1 (.slice (some ⟨b, 0, none⟩) ls.length cap)
      obtain ⟨r0, r1, _⟩ := Zf.cells
      exact bodyPost_ret (v := .agg #[.int .i64 m, .slice (some ⟨b, 0, none⟩) ls.length cap]) (by simp [results, Try.results65, go_sem, r0, r1]) rfl ⟨_, _, _, rfl, HK.out.on (kept_grown k2 hgB), ⟨⟨m0, m1⟩, Nat.le_succ _, HW.out⟩, k2, k3.le (by omega)⟩
end Go.Proofs.Ytjobbokjebhjgaa
