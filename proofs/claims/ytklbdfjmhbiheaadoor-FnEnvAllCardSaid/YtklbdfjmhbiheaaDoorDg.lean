/- l2Env of the reference, and DrawEnvOk. The conditions stand in each statement. -/
import Derived.Test.YtklbdfjmhbiheaaDoorDf
import Derived.Test.YtklbdfjmhbiheaaDoorTv
import Derived.Test.YtklbdfjmhbiheaaDoorSj
namespace Go.Proofs.YtklbdfjmhbiheaaDoor
open Go.RowKit

set_option maxHeartbeats 400000 in
theorem l1Max_of (a b : Int) (w : World) : Calls Tryd.prog 59 #[.int .i64 a, .int .i64 b] w fun e w' => e = .returned (.int .i64 (max a b)) ∧ w = w' := by
  by_cases h : a > b
  · rw [show max a b = a by omega]
    go_enter Tryd.func59, Tryd.ntmps59
    go_wp2
    go_ret
    exact ⟨rfl, rfl⟩
  · rw [show max a b = b by omega]
    go_enter Tryd.func59, Tryd.ntmps59
    go_wp2
    go_ret
    exact ⟨rfl, rfl⟩

theorem getElem?_lt_some {α : Type} {l : List α} {i : Nat} (h : i < l.length) : ∃ x, l[i]? = some x := ⟨l[i], List.getElem?_eq_getElem h⟩
def GaveI (g : Nat) (v : Value) (P n : Nat) (w : World) (e : Ending) (w' : World) : Prop :=
  ∃ (b cap : Nat) (l : List Int), e = .returned (.slice (some ⟨b, 0, none⟩) l.length cap) ∧ w'.ownsRow w.heap.size 3 1 (.slice (some ⟨b, 0, none⟩) l.length cap) l.length (l.map (.int .i64)) ∧ l.length ≤ n ∧ w.grownBy w' (some g) ∧ RdOk w' g v P

set_option maxRecDepth 100000 in
set_option maxHeartbeats 4000000 in
theorem l2Env_any (g P : Nat) (v s : Value) (ds : List Dc) (w : World) (hr : RdOk w g v P) (hP : P ≤ 900000) (h : ∀ w', w.grownBy w' (some g) → Decls w' s ds) (h4 : ds.length ≤ 6) :
    Calls Tryd.prog 42 #[.pointer (some ⟨g, 0, none⟩), s] w (GaveI g v (P + 10) (ds.length + 1) w) := by
  have gl := hr.lt
  obtain ⟨i0, hi, hz0, hz1, hz2⟩ := info_parts infoInt
  obtain ⟨a, cap0, rfl, _⟩ := h w (World.grownBy.refl _ _)
  have HD : Hid (∀ w', w.grownBy w' (some g) → RowS w' a ds.length cap0 2 (dcell ds)) := fun w' hg => by
    obtain ⟨a', cap', e, hrow, _⟩ := h w' hg
    cases e
    exact hrow
  clear h
  have S0 : (w.alloc (.cells #[] 3)).ownsRow w.heap.size 3 1 (.slice (some ⟨w.heap.size, 0, none⟩) 0 0) 0 [] := World.ownsRow_lit (e := 3) (size := 1) w #[] 0 (Nat.le_refl _) (Nat.zero_le _) rfl
  have G0 : w.grownBy (w.alloc (.cells #[] 3)) (some g) := World.grownBy_alloc _ _ _
  have R0 : RdOk (w.alloc (.cells #[] 3)) g v P := hr.alloc _
  go_enter Tryd.func42, Tryd.ntmps42
  go_wp2_with fail
  go_loopw [6, 5] (fun i o wr => ∃ (b cap : Nat) (l : List Int), l.length ≤ ds.length ∧ i = .int .i64 l.length ∧ o = .slice (some ⟨b, 0, none⟩) l.length cap ∧ wr.ownsRow w.heap.size 3 1 (.slice (some ⟨b, 0, none⟩) l.length cap) l.length (l.map (.int .i64)) ∧ w.grownBy wr (some g) ∧ RdOk wr g v (P + l.length)) (fun i _ _ => ds.length - (intOf i).toNat)
  case atStart => exact ⟨_, _, [], Nat.zero_le _, rfl, rfl, S0, G0, R0⟩
  case round =>
    clear S0 G0 R0
    obtain ⟨b, cap, l, hk, rfl, rfl, own, G, R⟩ := hrel
    by_cases hlt : l.length < ds.length
    · obtain ⟨bb, off, rfl, _, c0, c1⟩ := (HD.out _ G).duo hlt
      have hlt2 : (l.length : Int) < (ds.length : Int) := by omega
      generalize ds.getD l.length dz = x at *
      go_wp2_with fail
      refine (l1Min_of _ _ _).mono ?_; rintro e w1 ⟨rfl, rfl⟩
      go_wp2_with fail
      refine (l1Max_of _ _ _).mono ?_; rintro e w1 ⟨rfl, rfl⟩
      obtain ⟨y, hy⟩ : ∃ y, y = max 0 (min x.2 4) := ⟨_, rfl⟩
      have y0 : 0 ≤ y := by omega
      have y4 : y ≤ 4 := by omega
      rw [← hy]
      clear hy
      go_wp2_with fail
      refine (l1Two_any y _ (by omega)).mono ?_; rintro e w1 ⟨rfl, rfl⟩
      generalize two y.toNat = t
      go_wp2_with fail
      refine (pick_any g (P + l.length) v t _ R (by omega)).mono ?_
      rintro e w2 ⟨p, rfl, p0, _, _, hg2, R2⟩
      replace G := grown_two G hg2
      replace own := own_grown own hg2 gl
      clear R hg2 c0 c1
      have hsz := G.size
      have own' := own.alloc (.cells #[.int .i64 p] 3)
      have G' := grown_alloc G (.cells #[.int .i64 p] 3)
      have R' := R2.alloc (.cells #[.int .i64 p] 3)
      clear own G R2
      go_wp2_with (at_builtin; refine wpList_append_lies _ rfl _ _ _ rfl w.heap.size 3 i0 (.int .i64 0) 1 8 Tryd.underlying30 hi hz0 hz1 hz2 rfl (by omega) _ l.length (l.map (.int .i64)) rfl own' ⟨w2.heap.size, 0, none⟩ 1 1 [.int .i64 p] rfl rfl (World.news_of_block (heap_alloc_new w2 _)) (by simp [Value.oneCell']) (by omega) (by unfold maxLen; omega) (by omega) (by simp; omega) _ rfl ?_; intro b2 cap2 w3 own3 hg3 hat hlt3)
      have G3 := grown_new G' hg3 (own_row_ge own')
      have R3 := R'.growNew hr hg3 (own_row_ge own')
      exact ⟨⟨b2, cap2, l ++ [p], by simp; omega, by simp, by simp, by simpa using own3, G3, R3.le (by simp; omega)⟩, by simp [intOf]; omega⟩
    · have hle : l.length = ds.length := by omega
      have HLE := Lib.hid hle
      clear hle
      have l6 : l.length ≤ 6 := by omega
      go_wp2_with fail
      refine (pick_any g (P + l.length) v 24 _ R (by omega)).mono ?_
      rintro e w2 ⟨c, rfl, c0, _, _, hg2, R2⟩
      replace G := grown_two G hg2
      replace own := own_grown own hg2 gl
      clear R hg2
      by_cases h0 : c = 0
      · subst h0
        have hsz := G.size
        have own' := own.alloc (.cells #[.int .i64 0] 3)
        have G' := grown_alloc G (.cells #[.int .i64 0] 3)
        have R' := R2.alloc (.cells #[.int .i64 0] 3)
        clear own G R2
        go_wp2_with (at_builtin; refine wpList_append_lies _ rfl _ _ _ rfl w.heap.size 3 i0 (.int .i64 0) 1 8 Tryd.underlying30 hi hz0 hz1 hz2 rfl (by omega) _ l.length (l.map (.int .i64)) rfl own' ⟨w2.heap.size, 0, none⟩ 1 1 [.int .i64 0] rfl rfl (World.news_of_block (heap_alloc_new w2 _)) (by simp [Value.oneCell']) (by omega) (by unfold maxLen; omega) (by omega) (by simp; omega) _ rfl ?_; intro b2 cap2 w3 own3 hg3 hat hlt3)
        have G3 := grown_new G' hg3 (own_row_ge own')
        have R3 := R'.growNew hr hg3 (own_row_ge own')
        go_wp2_with fail
        go_ret
        exact ⟨b2, cap2, l ++ [0], by simp, by simpa using own3, by simp; omega, G3, R3.le (by omega)⟩
      · have h0' : (c == 0) = false := by simpa using h0
        by_cases h1 : c = 1
        · subst h1
          by_cases hz : l.length = 0
          · have hz' : ¬ ((0 : Int) < (l.length : Int)) := by omega
            have F : GaveI g v (P + 10) (ds.length + 1) w (.returned (.slice (some ⟨b, 0, none⟩) l.length cap)) w2 := ⟨b, cap, l, rfl, own, by omega, G, R2.le (by omega)⟩
            have F2 := Lib.hid F
            have hzd : decide ((0 : Int) < (l.length : Int)) = false := by simpa using hz'
            clear F own G R2 hz
            go_wp2_with fail
            go_ret
            exact F2.out
          · have hz' : (0 : Int) < (l.length : Int) := by omega
            have R4 := R2.alloc (.cells #[.int .i64 (-1), .int .i64 16, .int .i64 9223372036854775807] 3)
            have G4 := grown_alloc G (.cells #[.int .i64 (-1), .int .i64 16, .int .i64 9223372036854775807] 3)
            have own4 := own.alloc (.cells #[.int .i64 (-1), .int .i64 16, .int .i64 9223372036854775807] 3)
            have D := Lib.hid (num_any g (P + l.length + 1) v w2.heap.size 3 3 _ R4 (by omega) (by omega) (by omega) (by have := R2.lt; omega) (new_ints w2 [-1, 16, 9223372036854775807] 3))
            clear R2 R4 own G
            go_wp2_with fail
            refine D.out.mono ?_; rintro e w5 ⟨x, rfl, ⟨y, rfl⟩, hg5, R5⟩
            clear D
            replace G4 := grown_two G4 hg5
            replace own4 := own_grown own4 hg5 gl
            clear hg5
            have cc : ∃ u, w5.cell? ⟨b, 0, none⟩ = some u := by
              have := own4.cellAt 0 (by omega)
              obtain ⟨u, hu⟩ := getElem?_lt_some (l := l.map (Value.int .i64)) (i := 0) (by simp; omega)
              exact ⟨u, this.trans hu⟩
            obtain ⟨u, cc⟩ := cc
            have ff : w5.frozen? ⟨b, 0, none⟩ = false := own4.frozenAt _
            obtain ⟨own6, hg6⟩ := own4.stored 0 (.int .i64 y)
            have own7 : (w5.setCell ⟨b, 0, none⟩ (.int .i64 y)).ownsRow w.heap.size 3 1 (.slice (some ⟨b, 0, none⟩) (l.set 0 y).length cap) (l.set 0 y).length ((l.set 0 y).map (.int .i64)) := by
              rw [List.map_set, List.length_set]
              exact own6
            have G7 := grown_new G4 hg6 (fun q hq => by cases hq; exact (own4.lt b rfl).1)
            have R7 := R5.growNew hr hg6 (fun q hq => by cases hq; exact (own4.lt b rfl).1)
            have F : GaveI g v (P + 10) (ds.length + 1) w (.returned (.slice (some ⟨b, 0, none⟩) l.length cap)) (w5.setCell ⟨b, 0, none⟩ (.int .i64 y)) := ⟨b, cap, l.set 0 y, by simp, own7, by simp; omega, G7, R7.le (by omega)⟩
            have F2 := Lib.hid F
            clear F own4 own6 own7 hg6 R5 G4 G7 R7 hz
            go_wp2_with fail
            go_ret
            exact F2.out
        · have h1' : (c == 1) = false := by simpa using h1
          have F : GaveI g v (P + 10) (ds.length + 1) w (.returned (.slice (some ⟨b, 0, none⟩) l.length cap)) w2 := ⟨b, cap, l, rfl, own, by omega, G, R2.le (by omega)⟩
          have F2 := Lib.hid F
          clear F own G R2
          go_wp2_with fail
          go_ret
          exact F2.out
/-- declarations and numbers, drawn -/
def IsDI (w : World) (x : Value) : Prop := ∃ (s t : Value) (ds : List Dc) (env : List Int), x = .tuple #[s, t] ∧ Decls w s ds ∧ Ints w t env ∧ ds.length ≤ 6 ∧ env.length ≤ 7
def GaveIn (Q : World → Value → Prop) (w : World) (e : Ending) (w' : World) : Prop := ∃ x, e = .returned x ∧ Q w' x ∧ Below w.heap.size w w'

set_option maxHeartbeats 2000000 in
theorem drawEnvOk_any (v : Value) (w : World) (h : BytesIn w v) :
    Calls Tryd.prog 20 #[v] w (GaveIn IsDI w) := by
  go_enter Tryd.func20, Tryd.ntmps20
  go_wp2_with fail
  refine (l12Open_any v w h).mono ?_
  rintro e w1 ⟨g, rv, rfl, hg, hB, R0⟩
  have g1 := R0.lt
  go_wp2_with fail
  refine (l2Decls_any g 0 rv w1 R0 (by omega)).mono ?_
  rintro e w2 ⟨b, cap, ds, rfl, own, hd, hg2, R2⟩
  have g2 := R2.lt
  have D2 := own.decls hd.named
  have B2 := below_of_grown hB hg2 hg
  obtain ⟨d1, d4, _⟩ := hd
  clear R0 own hg2 hB
  go_wp2_with fail
  refine (l2Spoil_any g (0 + 16) rv _ ds w2 R2 (by omega) D2 d1 d4).mono ?_
  rintro e w3 ⟨b', cap', ds', rfl, own', N', l6, hg3, R3⟩
  have B3 := below_of_grown B2 hg3 hg
  clear R2 D2 hg3 B2
  go_wp2_with fail
  refine (l2Env_any g (0 + 16 + 3) rv _ ds' w3 R3 (by omega) (fun w' hg' => OwnD.decls (own_grown own' hg' g2) N') l6).mono ?_
  rintro e w4 ⟨b2, cap2, l, rfl, ownl, ll, hg4, R4⟩
  have B4 := below_of_grown B3 hg4 hg
  have DD : Decls w4 (.slice (some ⟨b', 0, none⟩) ds'.length cap') ds' := OwnD.decls (own_grown own' hg4 g2) N'
  have LL : Ints w4 (.slice (some ⟨b2, 0, none⟩) l.length cap2) l := Ints.of_own ownl
  clear R3 own' ownl hg4 R4 B3
  go_wp2_with fail
  exact bodyPost_ret (v := .tuple #[.slice (some ⟨b', 0, none⟩) ds'.length cap', .slice (some ⟨b2, 0, none⟩) l.length cap2]) (by simp [results, Tryd.results20, go_sem]) rfl ⟨_, rfl, ⟨_, _, ds', l, rfl, DD, LL, l6, by omega⟩, B4⟩
end Go.Proofs.YtklbdfjmhbiheaaDoor
