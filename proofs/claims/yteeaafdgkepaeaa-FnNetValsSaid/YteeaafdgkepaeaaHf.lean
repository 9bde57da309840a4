/- A net and what comes in, drawn: DrawNetVals. The conditions stand in each statement. -/
import Derived.Test.YteeaafdgkepaeaaHe
import Derived.Test.YteeaafdgkepaeaaLv
import Derived.Test.YteeaafdgkepaeaaBy
namespace Go.Proofs.Yteeaafdgkepaeaa
open Go.RowKit

theorem gb_wf {gs : List Gt} (h : GB gs) : WfG gs := fun i hi => by
  obtain ⟨a, b, c, d⟩ := h i hi
  exact ⟨wf_in ⟨by omega, by omega⟩, wf_in ⟨by omega, by omega⟩⟩
theorem l4Max_of (a b : Int) (w : World) : Calls Try.prog 61 #[.int .i64 a, .int .i64 b] w fun e w' => e = .returned (.int .i64 (max a b)) ∧ w = w' := by
  go_enter Try.func61, Try.ntmps61
  by_cases h : b < a
  · go_wp2_with fail
    go_ret
    exact ⟨by rw [Int.max_eq_left (by omega)]; rfl, rfl⟩
  · have d : decide (b < a) = false := by simpa using h
    go_wp2_with fail
    go_ret
    exact ⟨by rw [Int.max_eq_right (by omega)]; rfl, rfl⟩
def DrewNB (w : World) (e : Ending) (w' : World) : Prop :=
  ∃ (m : Int) (gs : List Gt) (a : Option Addr) (c : Nat) (ua : Option Addr) (uc : Nat) (l : List Bool), e = .returned (.tuple #[.agg #[.int .i64 m, .slice a gs.length c], .slice ua l.length uc]) ∧ -1 ≤ m ∧ m ≤ 9 ∧ OwnG w' w.heap.size (.slice a gs.length c) gs ∧ WfG gs ∧ gs.length ≤ 13 ∧
    w'.ownsRow w.heap.size 4 1 (.slice ua l.length uc) l.length (l.map .bool) ∧ l.length ≤ 9 ∧ Below w.heap.size w w'

set_option linter.unusedVariables false in
set_option maxRecDepth 100000 in
set_option maxHeartbeats 8000000 in
theorem drawNetVals_any (v : Value) (w : World) (h : BytesIn w v) : Calls Try.prog 35 #[v] w (DrewNB w) := by
  obtain ⟨a0, len, cp, rfl⟩ : ∃ a len cap, v = .slice a len cap := by
    rcases h with ⟨a, c, rfl⟩ | ⟨b, off, len, cap, rfl, _⟩ <;> exact ⟨_, _, _, rfl⟩
  have A := blk_new w (.int .i64 0) (.slice none 0 0) 39
  have B := below_self_alloc w (.cells #[.int .i64 0, .slice none 0 0] 39)
  replace h := h.alloc (.cells #[.int .i64 0, .slice none 0 0] 39)
  go_enter Try.func35, Try.ntmps35
  go_wp2_with fail
  refine (l12Open_any _ _ h).mono ?_
  rintro e w1 ⟨g, u, rfl, hg, hb, hr⟩
  have hgh : w.heap.size < g := by simp at hg; omega
  replace A := A.keep hb
  replace B := below_two B hb
  have gl := hr.lt
  have hA := A.lt
  clear hb h hg
  go_wp2_with fail
  refine (l6Net_any g 0 u 12 w1 hr (by omega) (by decide) (by decide)).mono ?_
  rintro e w2 ⟨k, gs, a, c, rfl, k0, k4, own, gb, hl, hg2, R2⟩
  replace A := A.keepG hg2 (by omega); replace B := below_of_grown B hg2 (by omega)
  have hs2 := hg2.size
  clear hr hg2
  go_wp2_with fail
  refine (l6Bent_any g _ u k _ gs w2 R2 (by omega) own.gates (nilOrB_own own) (by omega) (by omega) (by omega) (gb_wf gb)).mono ?_
  rintro e w3 ⟨m, gs3, a3, c3, rfl, m0, m9, own3, wf3, hl3, hg3, R3⟩
  replace A := A.keepG hg3 (by omega); replace B := below_of_grown B hg3 (by omega)
  have hs3 := hg3.size
  clear R2 hg3 own gb
  have m9' : m ≤ 9 := by omega
  have A5 := blk_new w3 (.int .i64 m) (.slice a3 gs3.length c3) 39
  replace A := A.alloc (.cells #[.int .i64 m, .slice a3 gs3.length c3] 39)
  replace B := below_step B (.cells #[.int .i64 m, .slice a3 gs3.length c3] 39)
  have R := R3.alloc (.cells #[.int .i64 m, .slice a3 gs3.length c3] 39)
  have own4 : OwnG (w3.alloc (.cells #[.int .i64 m, .slice a3 gs3.length c3] 39)) w2.heap.size (.slice a3 gs3.length c3) gs3 := World.ownsRow.alloc own3 _
  have hg3 : g < w3.heap.size := R3.lt
  clear R3 own3
  go_wp2_with fail
  refine (pick_any g _ u 16 _ R (by omega)).mono ?_
  rintro e w4 ⟨q, rfl, q0, q1, _, hg4, R4⟩
  replace A := A.keepG hg4 (by omega); replace A5 := A5.keepG hg4 (by omega); replace B := below_of_grown B hg4 (by omega)
  replace own4 : OwnG w4 w2.heap.size (.slice a3 gs3.length c3) gs3 := own_grown own4 hg4 (by omega)
  replace wf3 := Lib.hid wf3
  clear hg4 R q1
  by_cases hq : q = 0
  · subst hq
    go_wp2_with fail
    refine (pick_any g _ u 9 _ R4 (by omega)).mono ?_
    rintro e w5 ⟨q, rfl, q0, q1, _, hg5, R5⟩
    have q2 := q1 (by decide)
    replace A := A.keepG hg5 (by omega); replace A5 := A5.keepG hg5 (by omega); replace B := below_of_grown B hg5 (by omega)
    replace own4 : OwnG w5 w2.heap.size (.slice a3 gs3.length c3) gs3 := own_grown own4 hg5 (by omega)
    clear hg5 R4 q1
    have R4 := R5
    clear R5
    go_upto_region 6 with fail
    replace A := A.drew; replace A5 := A5.drew; replace B := B.drew; have own5 := ownsRow_drew own4; have R5 := R4.drew
    clear own4
    refine wp_region_noPanic ?_
    refine wp_region_held_drew (S := fun wx : World => wx.cell? ⟨w3.heap.size, 0, none⟩ = some (.int .i64 m) ∧ wx.cell? ⟨w3.heap.size, 1, none⟩ = some (.slice a3 gs3.length c3)) (by kernel_rfl) (⟨A5.cells.1, A5.cells.2.1⟩) (fun hHeld => ?_)
    refine wpAnyH_take (i := 0) (oi := { dst := some 20, op := Go.Op.load 39 (Go.Operand.tmp 5), type := 39, pos := _, after := #[], guard := none }) (v := ?_) rfl (by kernel_rfl) (by kernel_rfl) (by kernel_rfl) (fun _ _ _ h => h) (Or.inl ⟨by rfl, ?_⟩) hHeld ?_
    rotate_left
    · (intro wq hSw; (try dsimp only at hSw); (try go_simp); (try with_reducible rfl))
    try simp only [Act.put, List.setIfInBounds_toArray, List.set_cons_zero, List.set_cons_succ]
    refine wpAnyH_take (i := 1) (oi := { dst := some 21, op := Go.Op.move (Go.Operand.tmp 6), type := 3, pos := _, after := #[], guard := none }) (v := ?_) rfl (by kernel_rfl) (by kernel_rfl) (by kernel_rfl) (fun _ _ _ h => h) (Or.inl ⟨by rfl, ?_⟩) hHeld ?_
    rotate_left
    · (intro wq hSw; (try dsimp only at hSw); (try go_simp); (try with_reducible rfl))
    try simp only [Act.put, List.setIfInBounds_toArray, List.set_cons_zero, List.set_cons_succ]
    refine wpAnyH_take (i := 3) (oi := { dst := some 23, op := Go.Op.move (Go.Operand.tmp 4), type := 63, pos := _, after := #[], guard := none }) (v := ?_) rfl (by kernel_rfl) (by kernel_rfl) (by kernel_rfl) (fun _ _ _ h => h) (Or.inl ⟨by rfl, ?_⟩) hHeld ?_
    rotate_left
    · (intro wq hSw; (try dsimp only at hSw); (try go_simp); (try with_reducible rfl))
    try simp only [Act.put, List.setIfInBounds_toArray, List.set_cons_zero, List.set_cons_succ]
    refine wpAnyH_ready (rs := [2]) (by kernel_rfl) (by simp) ?_
    refine AllReadyH.cons (o := { dst := some 22, op := Go.Op.call { callee := Go.Callee.value (Go.Operand.func 61), args := #[Go.Operand.const (Go.Value.int Go.IntKind.i64 0), Go.Operand.tmp 21], argTypes := #[3, 3] }, type := 3, pos := _, after := #[{ on := 1, ground := Go.Ground.data }], guard := none }) rfl (fun KK hKK => ?_) AllReadyH.nil
    go_simp
    go_at_call 61
    refine (l4Max_of 0 (q) _).mono ?_
    rintro e _ ⟨rfl, rfl⟩
    obtain ⟨n, hn⟩ : ∃ n : Nat, max 0 (q) = n := Int.eq_ofNat_of_zero_le (Int.le_max_left _ _)
    have hn9 : n ≤ 9 := by omega
    rw [hn]
    have sS := And.intro A5.cells.1 A5.cells.2.1
    try go_simp
    refine hKK.out _ _ sS (fun hHeld => ?_)
    clear hKK KK
    try simp only [Act.put, List.setIfInBounds_toArray, List.set_cons_zero, List.set_cons_succ]
    refine wpAnyH_ready (rs := [4]) (by kernel_rfl) (by simp) ?_
    refine AllReadyH.cons (o := { dst := some 24, op := Go.Op.call { callee := Go.Callee.value (Go.Operand.func 40), args := #[Go.Operand.tmp 23, Go.Operand.const (Go.Value.int Go.IntKind.i64 256)], argTypes := #[63, 3] }, type := 3, pos := _, after := #[{ on := 3, ground := Go.Ground.data }, { on := 2, ground := Go.Ground.chain }], guard := none }) rfl (fun KK hKK => ?_) AllReadyH.nil
    go_simp
    go_at_call 40
    refine (pick_any g _ u 256 _ R5 (by omega)).mono ?_
    rintro e w6 ⟨z, rfl, z0, z1, _, hg6, R6⟩
    have z2 := z1 (by decide)
    obtain ⟨z, rfl⟩ := Int.eq_ofNat_of_zero_le z0
    have A6 := A.keepG hg6 (by omega); have A56 := A5.keepG hg6 (by omega); have B6 := below_of_grown B hg6 (by omega); have own6 := own_grown own5 hg6 (by omega)
    clear sS hg6 R5 A A5 B own5 z1
    have sS := And.intro A56.cells.1 A56.cells.2.1
    try go_simp
    refine hKK.out _ _ sS (fun hHeld => ?_)
    clear hKK KK
    try simp only [Act.put, List.setIfInBounds_toArray, List.set_cons_zero, List.set_cons_succ]
    refine wpAnyH_ready (rs := [5]) (by kernel_rfl) (by simp) ?_
    refine AllReadyH.cons (o := { dst := some 25, op := Go.Op.call { callee := Go.Callee.value (Go.Operand.func 42), args := #[Go.Operand.tmp 22, Go.Operand.tmp 24], argTypes := #[3, 3] }, type := 22, pos := _, after := #[{ on := 2, ground := Go.Ground.data }, { on := 4, ground := Go.Ground.data }, { on := 4, ground := Go.Ground.chain }], guard := none }) rfl (fun KK hKK => ?_) AllReadyH.nil
    go_simp
    go_at_call 42
    refine (l4Vals_any n z _ (by omega) (by omega)).mono ?_
    rintro e w7 ⟨y, rfl, o7, hb7⟩
    have hlv := l4v_len n z
    obtain ⟨lv, hlv2⟩ : ∃ lv, lv = l4v n z := ⟨_, rfl⟩
    rw [← hlv2] at o7 hlv
    clear hlv2
    subst hlv
    have A7 := A6.keep hb7; have A57 := A56.keep hb7; have B7 := below_two B6 hb7; have own7 : OwnG w7 w2.heap.size (.slice a3 gs3.length c3) gs3 := OwnG.below own6 hb7
    obtain ⟨ua, uc, hu, _⟩ := Bools.of_own o7
    subst hu
    have hs7 : w.heap.size < w6.heap.size := A6.lt
    have o8 := Go.Joins.ownsRow_le o7 (show w.heap.size + 1 ≤ w6.heap.size by omega)
    clear sS hb7 A6 A56 B6 own6 o7
    obtain ⟨E0, E1, _⟩ := A7.cells; obtain ⟨F0, F1⟩ := A7.frozen
    have A5s := (A57.set_other (p := ⟨w.heap.size, 0, none⟩) (z := .int .i64 m) (by show w3.heap.size ≠ w.heap.size; omega)).set_other (p := ⟨w.heap.size, 1, none⟩) (z := .slice a3 gs3.length c3) (by show w3.heap.size ≠ w.heap.size; omega)
    have sS := And.intro A57.cells.1 A57.cells.2.1
    try go_simp
    refine hKK.out _ _ sS (fun hHeld => ?_)
    clear hKK KK
    try simp only [Act.put, List.setIfInBounds_toArray, List.set_cons_zero, List.set_cons_succ]
    refine wpAnyH_ready (rs := [6]) (by kernel_rfl) (by simp) ?_
    refine AllReadyH.cons (o := { dst := none, op := Go.Op.store 39 (Go.Operand.tmp 2) (Go.Operand.tmp 20), type := 0, pos := _, after := #[{ on := 0, ground := Go.Ground.data }, { on := 5, ground := Go.Ground.chain }, { on := 0, ground := Go.Ground.phase }, { on := 1, ground := Go.Ground.textOnly Go.Departure.lateStores }, { on := 2, ground := Go.Ground.textOnly Go.Departure.lateStoresUnsure }, { on := 3, ground := Go.Ground.textOnly Go.Departure.lateStores }, { on := 4, ground := Go.Ground.textOnly Go.Departure.lateStoresUnsure }, { on := 5, ground := Go.Ground.textOnly Go.Departure.lateStoresUnsure }], guard := none }) rfl (fun KK hKK => ?_) AllReadyH.nil
    go_simp
    refine hKK.out _ _ (⟨A5s.cells.1, A5s.cells.2.1⟩) (fun hHeld => ?_)
    clear hKK KK
    try simp only [Act.put, List.setIfInBounds_toArray, List.set_cons_zero, List.set_cons_succ]
    refine wpAnyH_take (i := 7) (oi := { dst := some 3, op := Go.Op.assign (Go.Operand.tmp 25), type := 22, pos := _, after := #[{ on := 5, ground := Go.Ground.data }, { on := 6, ground := Go.Ground.chain }, { on := 0, ground := Go.Ground.phase }, { on := 1, ground := Go.Ground.phase }, { on := 2, ground := Go.Ground.phase }, { on := 3, ground := Go.Ground.phase }, { on := 4, ground := Go.Ground.phase }, { on := 5, ground := Go.Ground.phase }, { on := 6, ground := Go.Ground.phase }], guard := none }) (v := ?_) rfl (by kernel_rfl) (by kernel_rfl) (by kernel_rfl) (fun _ _ _ h => h) (Or.inl ⟨by rfl, ?_⟩) hHeld ?_
    rotate_left
    · (intro wq hSw; (try dsimp only at hSw); (try go_simp); (try with_reducible rfl))
    try simp only [Act.put, List.setIfInBounds_toArray, List.set_cons_zero, List.set_cons_succ]
    refine wpAnyH_done (by kernel_rfl) ?_ _
    refine NoPanic.normal ?_
    clear E0 E1 F0 F1 sS hHeld A5s
    have Af := (A7.set0 (.int .i64 m)).set1 (.slice a3 gs3.length c3)
    obtain ⟨r0, r1, _⟩ := Af.cells
    have OF := Go.RowKit.ownsRow_setCell_below (Go.RowKit.ownsRow_setCell_below own7 (a := ⟨w.heap.size, 0, none⟩) (by show w.heap.size < _; omega) (.int .i64 m)) (a := ⟨w.heap.size, 1, none⟩) (by show w.heap.size < _; omega) (.slice a3 gs3.length c3)
    have OB := Go.RowKit.ownsRow_setCell_below (Go.RowKit.ownsRow_setCell_below o8 (a := ⟨w.heap.size, 0, none⟩) (Nat.lt_succ_self _) (.int .i64 m)) (a := ⟨w.heap.size, 1, none⟩) (Nat.lt_succ_self _) (.slice a3 gs3.length c3)
    have BF := (B7.setCell (p := ⟨w.heap.size, 0, none⟩) (Nat.le_refl _) (.int .i64 m)).setCell (p := ⟨w.heap.size, 1, none⟩) (Nat.le_refl _) (.slice a3 gs3.length c3)
    replace OF := Lib.hid OF; replace OB := Lib.hid OB
    go_wp2_with fail
    exact bodyPost_ret (v := .tuple #[.agg #[.int .i64 m, .slice a3 gs3.length c3], .slice ua lv.length uc]) (by simp [results, Try.results35, go_sem, r0, r1]) rfl ⟨m, gs3, _, _, _, _, lv, rfl, m0, m9', Go.Joins.ownsRow_le OF.out (by omega), wf3.out, by omega, Go.Joins.ownsRow_le OB.out (by omega), by omega, BF⟩
  · have dq : (q == 0) = false := by simpa using hq
    obtain ⟨C0, C1, _⟩ := A5.cells
    go_upto_region 6 with fail
    replace A := A.drew; replace A5 := A5.drew; replace B := B.drew; have own5 := ownsRow_drew own4; have R5 := R4.drew
    clear own4
    refine wp_region_noPanic ?_
    refine wp_region_held_drew (S := fun wx : World => wx.cell? ⟨w3.heap.size, 0, none⟩ = some (.int .i64 m) ∧ wx.cell? ⟨w3.heap.size, 1, none⟩ = some (.slice a3 gs3.length c3)) (by kernel_rfl) (⟨A5.cells.1, A5.cells.2.1⟩) (fun hHeld => ?_)
    refine wpAnyH_take (i := 0) (oi := { dst := some 20, op := Go.Op.load 39 (Go.Operand.tmp 5), type := 39, pos := _, after := #[], guard := none }) (v := ?_) rfl (by kernel_rfl) (by kernel_rfl) (by kernel_rfl) (fun _ _ _ h => h) (Or.inl ⟨by rfl, ?_⟩) hHeld ?_
    rotate_left
    · (intro wq hSw; (try dsimp only at hSw); (try go_simp); (try with_reducible rfl))
    try simp only [Act.put, List.setIfInBounds_toArray, List.set_cons_zero, List.set_cons_succ]
    refine wpAnyH_take (i := 1) (oi := { dst := some 21, op := Go.Op.move (Go.Operand.tmp 6), type := 3, pos := _, after := #[], guard := none }) (v := ?_) rfl (by kernel_rfl) (by kernel_rfl) (by kernel_rfl) (fun _ _ _ h => h) (Or.inl ⟨by rfl, ?_⟩) hHeld ?_
    rotate_left
    · (intro wq hSw; (try dsimp only at hSw); (try go_simp); (try with_reducible rfl))
    try simp only [Act.put, List.setIfInBounds_toArray, List.set_cons_zero, List.set_cons_succ]
    refine wpAnyH_take (i := 3) (oi := { dst := some 23, op := Go.Op.move (Go.Operand.tmp 4), type := 63, pos := _, after := #[], guard := none }) (v := ?_) rfl (by kernel_rfl) (by kernel_rfl) (by kernel_rfl) (fun _ _ _ h => h) (Or.inl ⟨by rfl, ?_⟩) hHeld ?_
    rotate_left
    · (intro wq hSw; (try dsimp only at hSw); (try go_simp); (try with_reducible rfl))
    try simp only [Act.put, List.setIfInBounds_toArray, List.set_cons_zero, List.set_cons_succ]
    refine wpAnyH_ready (rs := [2]) (by kernel_rfl) (by simp) ?_
    refine AllReadyH.cons (o := { dst := some 22, op := Go.Op.call { callee := Go.Callee.value (Go.Operand.func 61), args := #[Go.Operand.const (Go.Value.int Go.IntKind.i64 0), Go.Operand.tmp 21], argTypes := #[3, 3] }, type := 3, pos := _, after := #[{ on := 1, ground := Go.Ground.data }], guard := none }) rfl (fun KK hKK => ?_) AllReadyH.nil
    go_simp
    go_at_call 61
    refine (l4Max_of 0 (m) _).mono ?_
    rintro e _ ⟨rfl, rfl⟩
    obtain ⟨n, hn⟩ : ∃ n : Nat, max 0 (m) = n := Int.eq_ofNat_of_zero_le (Int.le_max_left _ _)
    have hn9 : n ≤ 9 := by omega
    rw [hn]
    have sS := And.intro A5.cells.1 A5.cells.2.1
    try go_simp
    refine hKK.out _ _ sS (fun hHeld => ?_)
    clear hKK KK
    try simp only [Act.put, List.setIfInBounds_toArray, List.set_cons_zero, List.set_cons_succ]
    refine wpAnyH_ready (rs := [4]) (by kernel_rfl) (by simp) ?_
    refine AllReadyH.cons (o := { dst := some 24, op := Go.Op.call { callee := Go.Callee.value (Go.Operand.func 40), args := #[Go.Operand.tmp 23, Go.Operand.const (Go.Value.int Go.IntKind.i64 256)], argTypes := #[63, 3] }, type := 3, pos := _, after := #[{ on := 3, ground := Go.Ground.data }, { on := 2, ground := Go.Ground.chain }], guard := none }) rfl (fun KK hKK => ?_) AllReadyH.nil
    go_simp
    go_at_call 40
    refine (pick_any g _ u 256 _ R5 (by omega)).mono ?_
    rintro e w6 ⟨z, rfl, z0, z1, _, hg6, R6⟩
    have z2 := z1 (by decide)
    obtain ⟨z, rfl⟩ := Int.eq_ofNat_of_zero_le z0
    have A6 := A.keepG hg6 (by omega); have A56 := A5.keepG hg6 (by omega); have B6 := below_of_grown B hg6 (by omega); have own6 := own_grown own5 hg6 (by omega)
    clear sS hg6 R5 A A5 B own5 z1
    have sS := And.intro A56.cells.1 A56.cells.2.1
    try go_simp
    refine hKK.out _ _ sS (fun hHeld => ?_)
    clear hKK KK
    try simp only [Act.put, List.setIfInBounds_toArray, List.set_cons_zero, List.set_cons_succ]
    refine wpAnyH_ready (rs := [5]) (by kernel_rfl) (by simp) ?_
    refine AllReadyH.cons (o := { dst := some 25, op := Go.Op.call { callee := Go.Callee.value (Go.Operand.func 42), args := #[Go.Operand.tmp 22, Go.Operand.tmp 24], argTypes := #[3, 3] }, type := 22, pos := _, after := #[{ on := 2, ground := Go.Ground.data }, { on := 4, ground := Go.Ground.data }, { on := 4, ground := Go.Ground.chain }], guard := none }) rfl (fun KK hKK => ?_) AllReadyH.nil
    go_simp
    go_at_call 42
    refine (l4Vals_any n z _ (by omega) (by omega)).mono ?_
    rintro e w7 ⟨y, rfl, o7, hb7⟩
    have hlv := l4v_len n z
    obtain ⟨lv, hlv2⟩ : ∃ lv, lv = l4v n z := ⟨_, rfl⟩
    rw [← hlv2] at o7 hlv
    clear hlv2
    subst hlv
    have A7 := A6.keep hb7; have A57 := A56.keep hb7; have B7 := below_two B6 hb7; have own7 : OwnG w7 w2.heap.size (.slice a3 gs3.length c3) gs3 := OwnG.below own6 hb7
    obtain ⟨ua, uc, hu, _⟩ := Bools.of_own o7
    subst hu
    have hs7 : w.heap.size < w6.heap.size := A6.lt
    have o8 := Go.Joins.ownsRow_le o7 (show w.heap.size + 1 ≤ w6.heap.size by omega)
    clear sS hb7 A6 A56 B6 own6 o7
    obtain ⟨E0, E1, _⟩ := A7.cells; obtain ⟨F0, F1⟩ := A7.frozen
    have A5s := (A57.set_other (p := ⟨w.heap.size, 0, none⟩) (z := .int .i64 m) (by show w3.heap.size ≠ w.heap.size; omega)).set_other (p := ⟨w.heap.size, 1, none⟩) (z := .slice a3 gs3.length c3) (by show w3.heap.size ≠ w.heap.size; omega)
    have sS := And.intro A57.cells.1 A57.cells.2.1
    try go_simp
    refine hKK.out _ _ sS (fun hHeld => ?_)
    clear hKK KK
    try simp only [Act.put, List.setIfInBounds_toArray, List.set_cons_zero, List.set_cons_succ]
    refine wpAnyH_ready (rs := [6]) (by kernel_rfl) (by simp) ?_
    refine AllReadyH.cons (o := { dst := none, op := Go.Op.store 39 (Go.Operand.tmp 2) (Go.Operand.tmp 20), type := 0, pos := _, after := #[{ on := 0, ground := Go.Ground.data }, { on := 5, ground := Go.Ground.chain }, { on := 0, ground := Go.Ground.phase }, { on := 1, ground := Go.Ground.textOnly Go.Departure.lateStores }, { on := 2, ground := Go.Ground.textOnly Go.Departure.lateStoresUnsure }, { on := 3, ground := Go.Ground.textOnly Go.Departure.lateStores }, { on := 4, ground := Go.Ground.textOnly Go.Departure.lateStoresUnsure }, { on := 5, ground := Go.Ground.textOnly Go.Departure.lateStoresUnsure }], guard := none }) rfl (fun KK hKK => ?_) AllReadyH.nil
    go_simp
    refine hKK.out _ _ (⟨A5s.cells.1, A5s.cells.2.1⟩) (fun hHeld => ?_)
    clear hKK KK
    try simp only [Act.put, List.setIfInBounds_toArray, List.set_cons_zero, List.set_cons_succ]
    refine wpAnyH_take (i := 7) (oi := { dst := some 3, op := Go.Op.assign (Go.Operand.tmp 25), type := 22, pos := _, after := #[{ on := 5, ground := Go.Ground.data }, { on := 6, ground := Go.Ground.chain }, { on := 0, ground := Go.Ground.phase }, { on := 1, ground := Go.Ground.phase }, { on := 2, ground := Go.Ground.phase }, { on := 3, ground := Go.Ground.phase }, { on := 4, ground := Go.Ground.phase }, { on := 5, ground := Go.Ground.phase }, { on := 6, ground := Go.Ground.phase }], guard := none }) (v := ?_) rfl (by kernel_rfl) (by kernel_rfl) (by kernel_rfl) (fun _ _ _ h => h) (Or.inl ⟨by rfl, ?_⟩) hHeld ?_
    rotate_left
    · (intro wq hSw; (try dsimp only at hSw); (try go_simp); (try with_reducible rfl))
    try simp only [Act.put, List.setIfInBounds_toArray, List.set_cons_zero, List.set_cons_succ]
    refine wpAnyH_done (by kernel_rfl) ?_ _
    refine NoPanic.normal ?_
    clear E0 E1 F0 F1 sS hHeld A5s
    have Af := (A7.set0 (.int .i64 m)).set1 (.slice a3 gs3.length c3)
    obtain ⟨r0, r1, _⟩ := Af.cells
    have OF := Go.RowKit.ownsRow_setCell_below (Go.RowKit.ownsRow_setCell_below own7 (a := ⟨w.heap.size, 0, none⟩) (by show w.heap.size < _; omega) (.int .i64 m)) (a := ⟨w.heap.size, 1, none⟩) (by show w.heap.size < _; omega) (.slice a3 gs3.length c3)
    have OB := Go.RowKit.ownsRow_setCell_below (Go.RowKit.ownsRow_setCell_below o8 (a := ⟨w.heap.size, 0, none⟩) (Nat.lt_succ_self _) (.int .i64 m)) (a := ⟨w.heap.size, 1, none⟩) (Nat.lt_succ_self _) (.slice a3 gs3.length c3)
    have BF := (B7.setCell (p := ⟨w.heap.size, 0, none⟩) (Nat.le_refl _) (.int .i64 m)).setCell (p := ⟨w.heap.size, 1, none⟩) (Nat.le_refl _) (.slice a3 gs3.length c3)
    replace OF := Lib.hid OF; replace OB := Lib.hid OB
    go_wp2_with fail
    exact bodyPost_ret (v := .tuple #[.agg #[.int .i64 m, .slice a3 gs3.length c3], .slice ua lv.length uc]) (by simp [results, Try.results35, go_sem, r0, r1]) rfl ⟨m, gs3, _, _, _, _, lv, rfl, m0, m9', Go.Joins.ownsRow_le OF.out (by omega), wf3.out, by omega, Go.Joins.ownsRow_le OB.out (by omega), by omega, BF⟩
end Go.Proofs.Yteeaafdgkepaeaa
