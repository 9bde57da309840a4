/- A net that is drawn: l6Net. The conditions stand in each statement. -/
import Derived.Test.YteeaafdgkepaeaaHb
namespace Go.Proofs.Yteeaafdgkepaeaa
open Go.RowKit

def DrewNet (g : Nat) (u : Value) (P : Nat) (w : World) (e : Ending) (w' : World) : Prop :=
  ∃ (k : Int) (gs : List Gt) (a : Option Addr) (c : Nat), e = .returned (.agg #[.int .i64 k, .slice a gs.length c]) ∧ 0 ≤ k ∧ k ≤ 4 ∧ OwnG w' w.heap.size (.slice a gs.length c) gs ∧ GB gs ∧ gs.length ≤ 12 ∧ w.grownBy w' (some g) ∧ RdOk w' g u P

set_option linter.unusedVariables false in
set_option maxRecDepth 100000 in
set_option maxHeartbeats 8000000 in
theorem l6Net_any (g P : Nat) (u : Value) (most : Int) (w : World) (hr : RdOk w g u P) (hP : P ≤ 800000) (b0 : 1 ≤ most) (b1 : most ≤ 12) :
    Calls Try.prog 52 #[.pointer (some ⟨g, 0, none⟩), .int .i64 most] w (DrewNet g u (P + 80) w) := by
  have gl := hr.lt
  have ZN := blk_new w (.int .i64 0) (.slice none 0 0) 39
  have G := World.grownBy_alloc w (.cells #[.int .i64 0, .slice none 0 0] 39) (some g)
  have R := hr.alloc (.cells #[.int .i64 0, .slice none 0 0] 39)
  go_enter Try.func52, Try.ntmps52
  go_wp2_with fail
  refine (pick_any g P u 5 _ R (by omega)).mono ?_
  rintro e w2 ⟨k, rfl, k0, k1, _, hg2, R2⟩
  have k4 := k1 (by decide)
  have A4 := ZN.keepG hg2 (by omega)
  replace G := grown_two G hg2
  have hs2 : w.heap.size < w2.heap.size := A4.lt
  clear ZN R hg2 k1
  have A5 := blk_new w2 (.int .i64 k) (.slice none 0 0) 39
  replace A4 := A4.alloc (.cells #[.int .i64 k, .slice none 0 0] 39)
  replace G := grown_alloc G (.cells #[.int .i64 k, .slice none 0 0] 39)
  have R3 := R2.alloc (.cells #[.int .i64 k, .slice none 0 0] 39)
  clear R2
  go_wp2_with fail
  refine (pick_any g _ u most _ R3 (by omega)).mono ?_
  rintro e w3 ⟨q, rfl, q0, q1, _, hg3, R⟩
  have q2 := q1 b0
  replace A4 := A4.keepG hg3 (by omega)
  replace A5 := A5.keepG hg3 (by omega)
  replace G := grown_two G hg3
  clear hg3 q1 R3
  obtain ⟨n, rfl⟩ := Int.eq_ofNat_of_zero_le q0
  have own : OwnG w3 (w2.heap.size + 1) (.slice none 0 0) [] := World.ownsRow_nil _ _ _ _
  have hn : n ≤ 11 := by omega
  go_wp2_with fail
  go_loopw [6] (fun i wr => ∃ (n : Nat) (gs : List Gt) (a : Option Addr) (c : Nat), i = .int .i64 n ∧ n + gs.length ≤ 11 ∧ Blk wr w2.heap.size (.int .i64 k) (.slice a gs.length c) 39 ∧ Blk wr w.heap.size (.int .i64 0) (.slice none 0 0) 39 ∧ OwnG wr (w2.heap.size + 1) (.slice a gs.length c) gs ∧ GB gs ∧ w.grownBy wr (some g) ∧ RdOk wr g u (P + 2 + 6 * (11 - n))) (fun i _ => (intOf i).toNat)
  case atStart => exact ⟨n, [], none, 0, rfl, by simp; omega, A5, A4, own, gb_nil, G, R.le (by omega)⟩
  case round =>
    clear A4 A5 own G R hn q0 q2
    obtain ⟨n, gs, a, c, rfl, hn, A5, A4, own, gb, G, R⟩ := hrel
    have hw : w2.heap.size < wr.heap.size := A5.lt
    by_cases hz : 0 < n
    · have hz1 : (0 : Int) < (n : Int) := by omega
      obtain ⟨C0, C1, _⟩ := A5.cells
      have hgt := own.gates
      go_wp2_with fail
      refine (l6Lit_any g _ u k _ gs wr R (by omega) hgt (by omega) (by omega) (by omega)).mono ?_
      rintro e w4 ⟨_, rfl, ⟨x, rfl, x0, x1⟩, hg4, R4⟩
      clear hgt C0 C1
      replace A5 := A5.keepG hg4 (by omega); replace A4 := A4.keepG hg4 (by omega); replace own := own_grown own hg4 (by omega); replace G := grown_two G hg4
      clear hg4 R hw
      obtain ⟨C0, C1, _⟩ := A5.cells
      go_wp2_with fail
      refine (pick_any g _ u 3 w4 R4 (by omega)).mono ?_
      rintro e w5 ⟨p, rfl, p0, p1, _, hg5, R5⟩
      clear C0 C1
      replace A5 := A5.keepG hg5 (by omega); replace A4 := A4.keepG hg5 (by omega); replace own := own_grown own hg5 (by omega); replace G := grown_two G hg5
      clear hg5 R4 p1
      replace gb := Lib.hid gb
      by_cases hp : p = 0
      · subst hp
        go_upto_region 7 with fail
        replace A5 := A5.drew; replace A4 := A4.drew; replace own := ownsRow_drew own; replace G := grown_drew G; replace R5 := R5.drew
        refine wp_region_noPanic ?_
        refine wp_regionS 9 (fun wx : World => wx.cell? ⟨w2.heap.size, 0, none⟩ = some (.int .i64 k) ∧ wx.cell? ⟨w2.heap.size, 1, none⟩ = some (.slice a gs.length c)) (by kernel_rfl) (⟨A5.cells.1, A5.cells.2.1⟩) (fun hHeld => ?_)
        refine anyS_take (i := 0) (oi := { dst := some 25, op := Go.Op.load 39 (Go.Operand.tmp 5), type := 39, pos := _, after := #[], guard := none }) (v := ?_) rfl (by kernel_rfl) (by kernel_rfl) (by kernel_rfl) (by kernel_rfl) (by kernel_rfl) (fun _ _ _ h => h) (Or.inl ⟨by rfl, ?_⟩) hHeld ?_
        rotate_left
        · (intro wq hSw; (try dsimp only at hSw); (try go_simp); (try with_reducible rfl))
        try simp only [Act.put, List.setIfInBounds_toArray, List.set_cons_zero, List.set_cons_succ]
        refine anyS_take (i := 1) (oi := { dst := some 26, op := Go.Op.move (Go.Operand.tmp 7), type := 3, pos := _, after := #[], guard := none }) (v := ?_) rfl (by kernel_rfl) (by kernel_rfl) (by kernel_rfl) (by kernel_rfl) (by kernel_rfl) (fun _ _ _ h => h) (Or.inl ⟨by rfl, ?_⟩) hHeld ?_
        rotate_left
        · (intro wq hSw; (try dsimp only at hSw); (try go_simp); (try with_reducible rfl))
        try simp only [Act.put, List.setIfInBounds_toArray, List.set_cons_zero, List.set_cons_succ]
        refine anyS_take (i := 2) (oi := { dst := some 27, op := Go.Op.move (Go.Operand.tmp 0), type := 63, pos := _, after := #[], guard := none }) (v := ?_) rfl (by kernel_rfl) (by kernel_rfl) (by kernel_rfl) (by kernel_rfl) (by kernel_rfl) (fun _ _ _ h => h) (Or.inl ⟨by rfl, ?_⟩) hHeld ?_
        rotate_left
        · (intro wq hSw; (try dsimp only at hSw); (try go_simp); (try with_reducible rfl))
        try simp only [Act.put, List.setIfInBounds_toArray, List.set_cons_zero, List.set_cons_succ]
        refine anyS_take (i := 3) (oi := { dst := some 28, op := Go.Op.load 39 (Go.Operand.tmp 5), type := 39, pos := _, after := #[], guard := none }) (v := ?_) rfl (by kernel_rfl) (by kernel_rfl) (by kernel_rfl) (by kernel_rfl) (by kernel_rfl) (fun _ _ _ h => h) (Or.inl ⟨by rfl, ?_⟩) hHeld ?_
        rotate_left
        · (intro wq hSw; (try dsimp only at hSw); (try go_simp); (try with_reducible rfl))
        try simp only [Act.put, List.setIfInBounds_toArray, List.set_cons_zero, List.set_cons_succ]
        refine anyS_ready (rs := [4]) (by kernel_rfl) (by simp) ?_
        refine readyS_cons (o := { dst := some 29, op := Go.Op.call { callee := Go.Callee.value (Go.Operand.func 70), args := #[Go.Operand.tmp 27, Go.Operand.tmp 28], argTypes := #[63, 39] }, type := 3, pos := _, after := #[{ on := 2, ground := Go.Ground.data }, { on := 3, ground := Go.Ground.data }], guard := none }) rfl (fun KK hKK => ?_) (readyS_nil)
        go_simp
        go_at_call 70
        refine (l6Lit_any g _ u k _ gs _ R5 (by omega) (OwnG.gates (gs := gs) (B := w2.heap.size + 1) own) (by omega) (by omega) (by omega)).mono ?_
        rintro e w6 ⟨_, rfl, ⟨y, rfl, y0, y1⟩, hg6, R6⟩
        have A56 := A5.keepG hg6 (by omega); have A46 := A4.keepG hg6 (by omega); have own6 := own_grown own hg6 (by omega); have G6 := grown_two G hg6
        have hw6 : w2.heap.size < w6.heap.size := A56.lt
        clear hg6 A5 A4 own G R5
        try go_simp
        refine hKK.out _ _ (⟨A56.cells.1, A56.cells.2.1⟩) (fun hHeld => ?_)
        clear hKK KK
        try simp only [Act.put, List.setIfInBounds_toArray, List.set_cons_zero, List.set_cons_succ]
        refine anyS_ready (rs := [5]) (by kernel_rfl) (by simp) ?_
        refine readyS_cons (o := { dst := some 30, op := Go.Op.call { callee := Go.Callee.value (Go.Operand.func 71), args := #[Go.Operand.tmp 25, Go.Operand.tmp 26, Go.Operand.tmp 29], argTypes := #[39, 3, 3] }, type := 97, pos := _, after := #[{ on := 0, ground := Go.Ground.data }, { on := 1, ground := Go.Ground.data }, { on := 4, ground := Go.Ground.data }, { on := 4, ground := Go.Ground.chain }], guard := none }) rfl (fun KK hKK => ?_) (readyS_nil)
        go_simp
        go_at_call 71
        refine (l6Xor_any (w2.heap.size + 1) k _ gs x y _ own6 (by omega) k0 (by omega) (by omega) x0 x1 y0 y1 gb.out).mono ?_
        rintro e w7 ⟨gs7, a7, c7, mk, rfl, own7, hl7, gb7, hb7⟩
        have A57 := A56.keep hb7; have A47 := A46.keep hb7; have G7 := grown_below G6 hb7; have R7 := R6.below hb7
        replace gb7 := Lib.hid gb7
        clear hb7 A56 A46 own6 G6 R6 hw6
        obtain ⟨C0, C1, _⟩ := A57.cells; obtain ⟨F0, F1⟩ := A57.frozen
        try go_simp
        refine hKK.out _ _ (⟨A57.cells.1, A57.cells.2.1⟩) (fun hHeld => ?_)
        clear hKK KK
        try simp only [Act.put, List.setIfInBounds_toArray, List.set_cons_zero, List.set_cons_succ]
        refine anyS_take (i := 6) (oi := { dst := some 24, op := Go.Op.move (Go.Operand.tmp 30), type := 97, pos := _, after := #[{ on := 5, ground := Go.Ground.data }], guard := none }) (v := ?_) rfl (by kernel_rfl) (by kernel_rfl) (by kernel_rfl) (by kernel_rfl) (by kernel_rfl) (fun _ _ _ h => h) (Or.inl ⟨by rfl, ?_⟩) hHeld ?_
        rotate_left
        · (intro wq hSw; (try dsimp only at hSw); (try go_simp); (try with_reducible rfl))
        try simp only [Act.put, List.setIfInBounds_toArray, List.set_cons_zero, List.set_cons_succ]
        refine anyS_take (i := 7) (oi := { dst := some 31, op := Go.Op.extract (Go.Operand.tmp 24) 0, type := 39, pos := _, after := #[{ on := 6, ground := Go.Ground.data }], guard := none }) (v := ?_) rfl (by kernel_rfl) (by kernel_rfl) (by kernel_rfl) (by kernel_rfl) (by kernel_rfl) (fun _ _ _ h => h) (Or.inl ⟨by rfl, ?_⟩) hHeld ?_
        rotate_left
        · (intro wq hSw; (try dsimp only at hSw); (try go_simp); (try with_reducible rfl))
        try simp only [Act.put, List.setIfInBounds_toArray, List.set_cons_zero, List.set_cons_succ]
        refine anyS_takeP (i := 8) (oi := { dst := some 32, op := Go.Op.extract (Go.Operand.tmp 24) 1, type := 3, pos := _, after := #[{ on := 6, ground := Go.Ground.data }, { on := 9, ground := Go.Ground.gcOnly Go.Departure.lateStores }], guard := none }) (v := ?_) rfl (by kernel_rfl) (by kernel_rfl) (by kernel_rfl) (by kernel_rfl) (fun _ _ _ h => h) (Or.inl ⟨by rfl, ?_⟩) (fun _ => hHeld) ?_
        rotate_left
        · (intro wq hSw; (try go_simp); (try with_reducible rfl))
        try simp only [Act.put, List.setIfInBounds_toArray, List.set_cons_zero, List.set_cons_succ]
        refine anyS_ready (rs := [9]) (by kernel_rfl) (by simp) ?_
        refine readyS_last (o := { dst := none, op := Go.Op.store 39 (Go.Operand.tmp 5) (Go.Operand.tmp 31), type := 0, pos := _, after := #[{ on := 7, ground := Go.Ground.data }, { on := 5, ground := Go.Ground.chain }, { on := 0, ground := Go.Ground.phase }, { on := 1, ground := Go.Ground.phase }, { on := 2, ground := Go.Ground.phase }, { on := 3, ground := Go.Ground.phase }, { on := 4, ground := Go.Ground.phase }, { on := 5, ground := Go.Ground.phase }, { on := 6, ground := Go.Ground.phase }, { on := 7, ground := Go.Ground.phase }, { on := 8, ground := Go.Ground.textOnly Go.Departure.lateStores }], guard := none }) rfl (by kernel_rfl) (fun KK hKK => ?_) (readyS_nil)
        go_simp
        refine hKK.out _ _ ?_
        clear hKK KK hHeld
        have hHeld := trivial
        try simp only [Act.put, List.setIfInBounds_toArray, List.set_cons_zero, List.set_cons_succ]
        refine anyS_done (by kernel_rfl) ?_ _
        refine NoPanic.normal ?_
        clear C0 C1 F0 F1 hHeld
        have A58 := (A57.set0 (.int .i64 k)).set1 (.slice a7 gs7.length c7)
        have A48 := (A47.set_other (p := ⟨w2.heap.size, 0, none⟩) (z := .int .i64 k) (by show w.heap.size ≠ w2.heap.size; omega)).set_other (p := ⟨w2.heap.size, 1, none⟩) (z := .slice a7 gs7.length c7) (by show w.heap.size ≠ w2.heap.size; omega)
        have own8 := Go.RowKit.ownsRow_setCell_below (Go.RowKit.ownsRow_setCell_below own7 (a := ⟨w2.heap.size, 0, none⟩) (Nat.lt_succ_self _) (.int .i64 k)) (a := ⟨w2.heap.size, 1, none⟩) (Nat.lt_succ_self _) (.slice a7 gs7.length c7)
        have G8 := grown_set (grown_set G7 (p := ⟨w2.heap.size, 0, none⟩) (Nat.le_of_lt hs2) (.int .i64 k)) (p := ⟨w2.heap.size, 1, none⟩) (Nat.le_of_lt hs2) (.slice a7 gs7.length c7)
        have R8 := (R7.setNew (q := ⟨w2.heap.size, 0, none⟩) (x := .int .i64 k) hr (Nat.le_of_lt hs2)).setNew (q := ⟨w2.heap.size, 1, none⟩) (x := .slice a7 gs7.length c7) hr (Nat.le_of_lt hs2)
        clear A57 A47 own7 G7 R7
        go_wp2_with fail
        exact ⟨⟨n - 1, gs7, a7, c7, by rw [show ((n - 1 : Nat) : Int) = (n : Int) - 1 by omega], by omega, A58, A48, own8, gb7.out, G8, R8.le (by omega)⟩, by simp [intOf]; omega⟩
      · have dp : (p == 0) = false := by simpa using hp
        go_upto_region 8 with fail
        replace A5 := A5.drew; replace A4 := A4.drew; replace own := ownsRow_drew own; replace G := grown_drew G; replace R5 := R5.drew
        refine wp_region_noPanic ?_
        refine wp_regionS 9 (fun wx : World => wx.cell? ⟨w2.heap.size, 0, none⟩ = some (.int .i64 k) ∧ wx.cell? ⟨w2.heap.size, 1, none⟩ = some (.slice a gs.length c)) (by kernel_rfl) (⟨A5.cells.1, A5.cells.2.1⟩) (fun hHeld => ?_)
        refine anyS_take (i := 0) (oi := { dst := some 34, op := Go.Op.load 39 (Go.Operand.tmp 5), type := 39, pos := _, after := #[], guard := none }) (v := ?_) rfl (by kernel_rfl) (by kernel_rfl) (by kernel_rfl) (by kernel_rfl) (by kernel_rfl) (fun _ _ _ h => h) (Or.inl ⟨by rfl, ?_⟩) hHeld ?_
        rotate_left
        · (intro wq hSw; (try dsimp only at hSw); (try go_simp); (try with_reducible rfl))
        try simp only [Act.put, List.setIfInBounds_toArray, List.set_cons_zero, List.set_cons_succ]
        refine anyS_take (i := 1) (oi := { dst := some 35, op := Go.Op.move (Go.Operand.tmp 7), type := 3, pos := _, after := #[], guard := none }) (v := ?_) rfl (by kernel_rfl) (by kernel_rfl) (by kernel_rfl) (by kernel_rfl) (by kernel_rfl) (fun _ _ _ h => h) (Or.inl ⟨by rfl, ?_⟩) hHeld ?_
        rotate_left
        · (intro wq hSw; (try dsimp only at hSw); (try go_simp); (try with_reducible rfl))
        try simp only [Act.put, List.setIfInBounds_toArray, List.set_cons_zero, List.set_cons_succ]
        refine anyS_take (i := 2) (oi := { dst := some 36, op := Go.Op.move (Go.Operand.tmp 0), type := 63, pos := _, after := #[], guard := none }) (v := ?_) rfl (by kernel_rfl) (by kernel_rfl) (by kernel_rfl) (by kernel_rfl) (by kernel_rfl) (fun _ _ _ h => h) (Or.inl ⟨by rfl, ?_⟩) hHeld ?_
        rotate_left
        · (intro wq hSw; (try dsimp only at hSw); (try go_simp); (try with_reducible rfl))
        try simp only [Act.put, List.setIfInBounds_toArray, List.set_cons_zero, List.set_cons_succ]
        refine anyS_take (i := 3) (oi := { dst := some 37, op := Go.Op.load 39 (Go.Operand.tmp 5), type := 39, pos := _, after := #[], guard := none }) (v := ?_) rfl (by kernel_rfl) (by kernel_rfl) (by kernel_rfl) (by kernel_rfl) (by kernel_rfl) (fun _ _ _ h => h) (Or.inl ⟨by rfl, ?_⟩) hHeld ?_
        rotate_left
        · (intro wq hSw; (try dsimp only at hSw); (try go_simp); (try with_reducible rfl))
        try simp only [Act.put, List.setIfInBounds_toArray, List.set_cons_zero, List.set_cons_succ]
        refine anyS_ready (rs := [4]) (by kernel_rfl) (by simp) ?_
        refine readyS_cons (o := { dst := some 38, op := Go.Op.call { callee := Go.Callee.value (Go.Operand.func 70), args := #[Go.Operand.tmp 36, Go.Operand.tmp 37], argTypes := #[63, 39] }, type := 3, pos := _, after := #[{ on := 2, ground := Go.Ground.data }, { on := 3, ground := Go.Ground.data }], guard := none }) rfl (fun KK hKK => ?_) (readyS_nil)
        go_simp
        go_at_call 70
        refine (l6Lit_any g _ u k _ gs _ R5 (by omega) (OwnG.gates (gs := gs) (B := w2.heap.size + 1) own) (by omega) (by omega) (by omega)).mono ?_
        rintro e w6 ⟨_, rfl, ⟨y, rfl, y0, y1⟩, hg6, R6⟩
        have A56 := A5.keepG hg6 (by omega); have A46 := A4.keepG hg6 (by omega); have own6 := own_grown own hg6 (by omega); have G6 := grown_two G hg6
        have hw6 : w2.heap.size < w6.heap.size := A56.lt
        clear hg6 A5 A4 own G R5
        try go_simp
        refine hKK.out _ _ (⟨A56.cells.1, A56.cells.2.1⟩) (fun hHeld => ?_)
        clear hKK KK
        try simp only [Act.put, List.setIfInBounds_toArray, List.set_cons_zero, List.set_cons_succ]
        refine anyS_ready (rs := [5]) (by kernel_rfl) (by simp) ?_
        refine readyS_cons (o := { dst := some 39, op := Go.Op.call { callee := Go.Callee.value (Go.Operand.func 72), args := #[Go.Operand.tmp 34, Go.Operand.tmp 35, Go.Operand.tmp 38], argTypes := #[39, 3, 3] }, type := 97, pos := _, after := #[{ on := 0, ground := Go.Ground.data }, { on := 1, ground := Go.Ground.data }, { on := 4, ground := Go.Ground.data }, { on := 4, ground := Go.Ground.chain }], guard := none }) rfl (fun KK hKK => ?_) (readyS_nil)
        go_simp
        go_at_call 72
        refine (l6And_any (w2.heap.size + 1) k _ gs x y _ own6 (by omega) k0 (by omega) (by omega) x0 x1 y0 y1 gb.out).mono ?_
        rintro e w7 ⟨gs7, a7, c7, mk, rfl, own7, hl7, gb7, hb7⟩
        have A57 := A56.keep hb7; have A47 := A46.keep hb7; have G7 := grown_below G6 hb7; have R7 := R6.below hb7
        replace gb7 := Lib.hid gb7
        clear hb7 A56 A46 own6 G6 R6 hw6
        obtain ⟨C0, C1, _⟩ := A57.cells; obtain ⟨F0, F1⟩ := A57.frozen
        try go_simp
        refine hKK.out _ _ (⟨A57.cells.1, A57.cells.2.1⟩) (fun hHeld => ?_)
        clear hKK KK
        try simp only [Act.put, List.setIfInBounds_toArray, List.set_cons_zero, List.set_cons_succ]
        refine anyS_take (i := 6) (oi := { dst := some 33, op := Go.Op.move (Go.Operand.tmp 39), type := 97, pos := _, after := #[{ on := 5, ground := Go.Ground.data }], guard := none }) (v := ?_) rfl (by kernel_rfl) (by kernel_rfl) (by kernel_rfl) (by kernel_rfl) (by kernel_rfl) (fun _ _ _ h => h) (Or.inl ⟨by rfl, ?_⟩) hHeld ?_
        rotate_left
        · (intro wq hSw; (try dsimp only at hSw); (try go_simp); (try with_reducible rfl))
        try simp only [Act.put, List.setIfInBounds_toArray, List.set_cons_zero, List.set_cons_succ]
        refine anyS_take (i := 7) (oi := { dst := some 40, op := Go.Op.extract (Go.Operand.tmp 33) 0, type := 39, pos := _, after := #[{ on := 6, ground := Go.Ground.data }], guard := none }) (v := ?_) rfl (by kernel_rfl) (by kernel_rfl) (by kernel_rfl) (by kernel_rfl) (by kernel_rfl) (fun _ _ _ h => h) (Or.inl ⟨by rfl, ?_⟩) hHeld ?_
        rotate_left
        · (intro wq hSw; (try dsimp only at hSw); (try go_simp); (try with_reducible rfl))
        try simp only [Act.put, List.setIfInBounds_toArray, List.set_cons_zero, List.set_cons_succ]
        refine anyS_takeP (i := 8) (oi := { dst := some 41, op := Go.Op.extract (Go.Operand.tmp 33) 1, type := 3, pos := _, after := #[{ on := 6, ground := Go.Ground.data }, { on := 9, ground := Go.Ground.gcOnly Go.Departure.lateStores }], guard := none }) (v := ?_) rfl (by kernel_rfl) (by kernel_rfl) (by kernel_rfl) (by kernel_rfl) (fun _ _ _ h => h) (Or.inl ⟨by rfl, ?_⟩) (fun _ => hHeld) ?_
        rotate_left
        · (intro wq hSw; (try go_simp); (try with_reducible rfl))
        try simp only [Act.put, List.setIfInBounds_toArray, List.set_cons_zero, List.set_cons_succ]
        refine anyS_ready (rs := [9]) (by kernel_rfl) (by simp) ?_
        refine readyS_last (o := { dst := none, op := Go.Op.store 39 (Go.Operand.tmp 5) (Go.Operand.tmp 40), type := 0, pos := _, after := #[{ on := 7, ground := Go.Ground.data }, { on := 5, ground := Go.Ground.chain }, { on := 0, ground := Go.Ground.phase }, { on := 1, ground := Go.Ground.phase }, { on := 2, ground := Go.Ground.phase }, { on := 3, ground := Go.Ground.phase }, { on := 4, ground := Go.Ground.phase }, { on := 5, ground := Go.Ground.phase }, { on := 6, ground := Go.Ground.phase }, { on := 7, ground := Go.Ground.phase }, { on := 8, ground := Go.Ground.textOnly Go.Departure.lateStores }], guard := none }) rfl (by kernel_rfl) (fun KK hKK => ?_) (readyS_nil)
        go_simp
        refine hKK.out _ _ ?_
        clear hKK KK hHeld
        have hHeld := trivial
        try simp only [Act.put, List.setIfInBounds_toArray, List.set_cons_zero, List.set_cons_succ]
        refine anyS_done (by kernel_rfl) ?_ _
        refine NoPanic.normal ?_
        clear C0 C1 F0 F1 hHeld
        have A58 := (A57.set0 (.int .i64 k)).set1 (.slice a7 gs7.length c7)
        have A48 := (A47.set_other (p := ⟨w2.heap.size, 0, none⟩) (z := .int .i64 k) (by show w.heap.size ≠ w2.heap.size; omega)).set_other (p := ⟨w2.heap.size, 1, none⟩) (z := .slice a7 gs7.length c7) (by show w.heap.size ≠ w2.heap.size; omega)
        have own8 := Go.RowKit.ownsRow_setCell_below (Go.RowKit.ownsRow_setCell_below own7 (a := ⟨w2.heap.size, 0, none⟩) (Nat.lt_succ_self _) (.int .i64 k)) (a := ⟨w2.heap.size, 1, none⟩) (Nat.lt_succ_self _) (.slice a7 gs7.length c7)
        have G8 := grown_set (grown_set G7 (p := ⟨w2.heap.size, 0, none⟩) (Nat.le_of_lt hs2) (.int .i64 k)) (p := ⟨w2.heap.size, 1, none⟩) (Nat.le_of_lt hs2) (.slice a7 gs7.length c7)
        have R8 := (R7.setNew (q := ⟨w2.heap.size, 0, none⟩) (x := .int .i64 k) hr (Nat.le_of_lt hs2)).setNew (q := ⟨w2.heap.size, 1, none⟩) (x := .slice a7 gs7.length c7) hr (Nat.le_of_lt hs2)
        clear A57 A47 own7 G7 R7
        go_wp2_with fail
        exact ⟨⟨n - 1, gs7, a7, c7, by rw [show ((n - 1 : Nat) : Int) = (n : Int) - 1 by omega], by omega, A58, A48, own8, gb7.out, G8, R8.le (by omega)⟩, by simp [intOf]; omega⟩
    · obtain rfl : n = 0 := by omega
      obtain ⟨C0, C1, _⟩ := A5.cells; obtain ⟨E0, E1, _⟩ := A4.cells; obtain ⟨F0, F1⟩ := A4.frozen
      have Af := (A4.set0 (.int .i64 k)).set1 (.slice a gs.length c)
      obtain ⟨r0, r1, _⟩ := Af.cells
      have own8 := Go.RowKit.ownsRow_setCell_below (Go.RowKit.ownsRow_setCell_below own (a := ⟨w.heap.size, 0, none⟩) (by show w.heap.size < _; omega) (.int .i64 k)) (a := ⟨w.heap.size, 1, none⟩) (by show w.heap.size < _; omega) (.slice a gs.length c)
      have G8 := grown_set (grown_set G (p := ⟨w.heap.size, 0, none⟩) (Nat.le_refl _) (.int .i64 k)) (p := ⟨w.heap.size, 1, none⟩) (Nat.le_refl _) (.slice a gs.length c)
      have R8 := (R.setNew (q := ⟨w.heap.size, 0, none⟩) (x := .int .i64 k) hr (Nat.le_refl _)).setNew (q := ⟨w.heap.size, 1, none⟩) (x := .slice a gs.length c) hr (Nat.le_refl _)
      replace own8 := Lib.hid own8; replace G8 := Lib.hid G8; replace R8 := Lib.hid R8; replace gb := Lib.hid gb
      clear Af
      go_wp2_with fail
      exact bodyPost_ret (v := .agg #[.int .i64 k, .slice a gs.length c]) (by simp [results, Try.results52, go_sem, r0, r1]) rfl ⟨k, gs, a, c, rfl, k0, by omega, Go.Joins.ownsRow_le own8.out (by omega), gb.out, by omega, G8.out, R8.out.le (by omega)⟩
end Go.Proofs.Yteeaafdgkepaeaa
