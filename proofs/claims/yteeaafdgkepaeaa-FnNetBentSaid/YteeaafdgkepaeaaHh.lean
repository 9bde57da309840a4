/- Two nets, drawn: DrawNetSame. The conditions stand in each statement. -/
import Derived.Test.YteeaafdgkepaeaaHe
import Derived.Test.YteeaafdgkepaeaaBy
namespace Go.Proofs.Yteeaafdgkepaeaa
open Go.RowKit

theorem gb_wf {gs : List Gt} (h : GB gs) : WfG gs := fun i hi => by
  obtain ⟨a, b, c, d⟩ := h i hi
  exact ⟨wf_in ⟨by omega, by omega⟩, wf_in ⟨by omega, by omega⟩⟩
def DrewNN (w : World) (e : Ending) (w' : World) : Prop :=
  ∃ (m : Int) (gs : List Gt) (a : Option Addr) (c : Nat) (m' : Int) (gs' : List Gt) (a' : Option Addr) (c' : Nat), e = .returned (.tuple #[.agg #[.int .i64 m, .slice a gs.length c], .agg #[.int .i64 m', .slice a' gs'.length c']]) ∧ 0 ≤ m ∧ m ≤ 4 ∧ OwnG w' w.heap.size (.slice a gs.length c) gs ∧ GB gs ∧ gs.length ≤ 12 ∧
    -1 ≤ m' ∧ m' ≤ 20 ∧ OwnG w' w.heap.size (.slice a' gs'.length c') gs' ∧ WfG gs' ∧ gs'.length ≤ 15 ∧ Below w.heap.size w w'

set_option linter.unusedVariables false in
set_option maxRecDepth 100000 in
set_option maxHeartbeats 8000000 in
theorem drawNetSame_any (v : Value) (w : World) (h : BytesIn w v) : Calls Try.prog 24 #[v] w (DrewNN w) := by
  obtain ⟨a0, len, cp, rfl⟩ : ∃ a len cap, v = .slice a len cap := by
    rcases h with ⟨a, c, rfl⟩ | ⟨b, off, len, cap, rfl, _⟩ <;> exact ⟨_, _, _, rfl⟩
  have A2 : Blk ((w.alloc (.cells #[.int .i64 0, .slice none 0 0] 39)).alloc (.cells #[.int .i64 0, .slice none 0 0] 39)) w.heap.size (.int .i64 0) (.slice none 0 0) 39 := (blk_new w (.int .i64 0) (.slice none 0 0) 39).alloc (.cells #[.int .i64 0, .slice none 0 0] 39)
  have A3 : Blk ((w.alloc (.cells #[.int .i64 0, .slice none 0 0] 39)).alloc (.cells #[.int .i64 0, .slice none 0 0] 39)) (w.heap.size + 1) (.int .i64 0) (.slice none 0 0) 39 := blk_new1 w _ _ _ _
  have B := below_step (below_self_alloc w (.cells #[.int .i64 0, .slice none 0 0] 39)) (.cells #[.int .i64 0, .slice none 0 0] 39)
  replace h := (h.alloc (.cells #[.int .i64 0, .slice none 0 0] 39)).alloc (.cells #[.int .i64 0, .slice none 0 0] 39)
  go_enter Try.func24, Try.ntmps24
  go_wp2_with fail
  refine (l12Open_any _ _ h).mono ?_
  rintro e w1 ⟨g, u, rfl, hg, hb, hr⟩
  have hgh : w.heap.size + 1 < g := by simp at hg; omega
  replace A2 := A2.keep hb; replace A3 := A3.keep hb
  replace B := below_two B hb
  have gl := hr.lt
  have hA := A3.lt
  clear hb h hg
  go_wp2_with fail
  refine (l6Net_any g 0 u 10 w1 hr (by omega) (by decide) (by decide)).mono ?_
  rintro e w2 ⟨m, gs, a, c, rfl, m0, m4, own0, gb, hl, hg2, R2⟩
  replace A2 := A2.keepG hg2 (by omega); replace A3 := A3.keepG hg2 (by omega); replace B := below_of_grown B hg2 (by omega)
  have hs2 := hg2.size
  clear hr hg2
  have A5 := blk_new w2 (.int .i64 m) (.slice a gs.length c) 39
  replace A2 := A2.alloc (.cells #[.int .i64 m, .slice a gs.length c] 39); replace A3 := A3.alloc (.cells #[.int .i64 m, .slice a gs.length c] 39)
  replace B := below_step B (.cells #[.int .i64 m, .slice a gs.length c] 39)
  have R := R2.alloc (.cells #[.int .i64 m, .slice a gs.length c] 39)
  have own : OwnG (w2.alloc (.cells #[.int .i64 m, .slice a gs.length c] 39)) w1.heap.size (.slice a gs.length c) gs := World.ownsRow.alloc own0 _
  have gl2 : g < w2.heap.size := R2.lt
  clear R2 own0
  go_upto_region 3 with fail
  replace A2 := A2.drew; replace A3 := A3.drew; replace A5 := A5.drew; replace B := B.drew; replace R := R.drew; replace own := ownsRow_drew own
  replace gb := Lib.hid gb
  refine wp_region_noPanic ?_
  refine wp_region_held_drew (S := fun wx : World => wx.cell? ⟨w2.heap.size, 0, none⟩ = some (.int .i64 m) ∧ wx.cell? ⟨w2.heap.size, 1, none⟩ = some (.slice a gs.length c)) (by kernel_rfl) (⟨A5.cells.1, A5.cells.2.1⟩) (fun hHeld => ?_)
  refine wpAnyH_take (i := 0) (oi := { dst := some 10, op := Go.Op.load 39 (Go.Operand.tmp 5), type := 39, pos := _, after := #[], guard := none }) (v := ?_) rfl (by kernel_rfl) (by kernel_rfl) (by kernel_rfl) (fun _ _ _ h => h) (Or.inl ⟨by rfl, ?_⟩) hHeld ?_
  rotate_left
  · (intro wq hSw; (try dsimp only at hSw); (try go_simp); (try with_reducible rfl))
  try simp only [Act.put, List.setIfInBounds_toArray, List.set_cons_zero, List.set_cons_succ]
  refine wpAnyH_take (i := 1) (oi := { dst := some 11, op := Go.Op.move (Go.Operand.tmp 4), type := 63, pos := _, after := #[], guard := none }) (v := ?_) rfl (by kernel_rfl) (by kernel_rfl) (by kernel_rfl) (fun _ _ _ h => h) (Or.inl ⟨by rfl, ?_⟩) hHeld ?_
  rotate_left
  · (intro wq hSw; (try dsimp only at hSw); (try go_simp); (try with_reducible rfl))
  try simp only [Act.put, List.setIfInBounds_toArray, List.set_cons_zero, List.set_cons_succ]
  refine wpAnyH_take (i := 2) (oi := { dst := some 12, op := Go.Op.move (Go.Operand.tmp 4), type := 63, pos := _, after := #[], guard := none }) (v := ?_) rfl (by kernel_rfl) (by kernel_rfl) (by kernel_rfl) (fun _ _ _ h => h) (Or.inl ⟨by rfl, ?_⟩) hHeld ?_
  rotate_left
  · (intro wq hSw; (try dsimp only at hSw); (try go_simp); (try with_reducible rfl))
  try simp only [Act.put, List.setIfInBounds_toArray, List.set_cons_zero, List.set_cons_succ]
  refine wpAnyH_take (i := 3) (oi := { dst := some 13, op := Go.Op.move (Go.Operand.tmp 4), type := 63, pos := _, after := #[], guard := none }) (v := ?_) rfl (by kernel_rfl) (by kernel_rfl) (by kernel_rfl) (fun _ _ _ h => h) (Or.inl ⟨by rfl, ?_⟩) hHeld ?_
  rotate_left
  · (intro wq hSw; (try dsimp only at hSw); (try go_simp); (try with_reducible rfl))
  try simp only [Act.put, List.setIfInBounds_toArray, List.set_cons_zero, List.set_cons_succ]
  refine wpAnyH_take (i := 4) (oi := { dst := some 14, op := Go.Op.load 39 (Go.Operand.tmp 5), type := 39, pos := _, after := #[], guard := none }) (v := ?_) rfl (by kernel_rfl) (by kernel_rfl) (by kernel_rfl) (fun _ _ _ h => h) (Or.inl ⟨by rfl, ?_⟩) hHeld ?_
  rotate_left
  · (intro wq hSw; (try dsimp only at hSw); (try go_simp); (try with_reducible rfl))
  try simp only [Act.put, List.setIfInBounds_toArray, List.set_cons_zero, List.set_cons_succ]
  refine wpAnyH_ready (rs := [5]) (by kernel_rfl) (by simp) ?_
  refine AllReadyH.cons (o := { dst := some 15, op := Go.Op.call { callee := Go.Callee.value (Go.Operand.func 53), args := #[Go.Operand.tmp 13, Go.Operand.tmp 14], argTypes := #[63, 39] }, type := 39, pos := _, after := #[{ on := 3, ground := Go.Ground.data }, { on := 4, ground := Go.Ground.data }], guard := none }) rfl (fun KK hKK => ?_) AllReadyH.nil
  go_simp
  go_at_call 53
  refine (l6Bent_any g _ u m _ gs _ R (by omega) (OwnG.gates (gs := gs) (B := w1.heap.size) own) (nilOrB_own own) (by omega) (by omega) (by omega) (gb_wf gb.out)).mono ?_
  rintro e w3a ⟨ma, gsa, aa, ca, rfl, ma0, ma1, owna, wfa, hla, hg, Rn⟩
  replace A2 := A2.keepG hg (by omega); replace A3 := A3.keepG hg (by omega); replace A5 := A5.keepG hg (by omega); replace B := below_of_grown B hg (by omega)
  replace own : OwnG w3a w1.heap.size (.slice a gs.length c) gs := own_grown own hg (by omega)
  have hza : w1.heap.size < w3a.heap.size := by have := A5.lt; omega
  clear hg R
  have R := Rn
  clear Rn
  replace wfa := Lib.hid wfa
  have sS := And.intro A5.cells.1 A5.cells.2.1
  try go_simp
  refine hKK.out _ _ sS (fun hHeld => ?_)
  clear hKK KK
  try simp only [Act.put, List.setIfInBounds_toArray, List.set_cons_zero, List.set_cons_succ]
  refine wpAnyH_ready (rs := [6]) (by kernel_rfl) (by simp) ?_
  refine AllReadyH.cons (o := { dst := some 16, op := Go.Op.call { callee := Go.Callee.value (Go.Operand.func 53), args := #[Go.Operand.tmp 12, Go.Operand.tmp 15], argTypes := #[63, 39] }, type := 39, pos := _, after := #[{ on := 2, ground := Go.Ground.data }, { on := 5, ground := Go.Ground.data }, { on := 5, ground := Go.Ground.chain }], guard := none }) rfl (fun KK hKK => ?_) AllReadyH.nil
  go_simp
  clear sS
  go_at_call 53
  refine (l6Bent_any g _ u ma _ gsa _ R (by omega) (OwnG.gates (gs := gsa) (B := _) owna) (nilOrB_own owna) (by omega) (by omega) (by omega) wfa.out).mono ?_
  rintro e w3b ⟨mb, gsb, ab, cb, rfl, mb0, mb1, ownb, wfb, hlb, hg, Rn⟩
  replace A2 := A2.keepG hg (by omega); replace A3 := A3.keepG hg (by omega); replace A5 := A5.keepG hg (by omega); replace B := below_of_grown B hg (by omega)
  replace own : OwnG w3b w1.heap.size (.slice a gs.length c) gs := own_grown own hg (by omega)
  have hzb : w1.heap.size < w3b.heap.size := by have := A5.lt; omega
  clear hg R
  clear owna
  have R := Rn
  clear Rn
  replace wfb := Lib.hid wfb
  have sS := And.intro A5.cells.1 A5.cells.2.1
  try go_simp
  refine hKK.out _ _ sS (fun hHeld => ?_)
  clear hKK KK
  try simp only [Act.put, List.setIfInBounds_toArray, List.set_cons_zero, List.set_cons_succ]
  refine wpAnyH_ready (rs := [7]) (by kernel_rfl) (by simp) ?_
  refine AllReadyH.cons (o := { dst := some 17, op := Go.Op.call { callee := Go.Callee.value (Go.Operand.func 53), args := #[Go.Operand.tmp 11, Go.Operand.tmp 16], argTypes := #[63, 39] }, type := 39, pos := _, after := #[{ on := 1, ground := Go.Ground.data }, { on := 6, ground := Go.Ground.data }, { on := 6, ground := Go.Ground.chain }], guard := none }) rfl (fun KK hKK => ?_) AllReadyH.nil
  go_simp
  clear sS
  go_at_call 53
  refine (l6Bent_any g _ u mb _ gsb _ R (by omega) (OwnG.gates (gs := gsb) (B := _) ownb) (nilOrB_own ownb) (by omega) (by omega) (by omega) wfb.out).mono ?_
  rintro e w3c ⟨mc, gsc, ac, cc, rfl, mc0, mc1, ownc, wfc, hlc, hg, Rn⟩
  replace A2 := A2.keepG hg (by omega); replace A3 := A3.keepG hg (by omega); replace A5 := A5.keepG hg (by omega); replace B := below_of_grown B hg (by omega)
  replace own : OwnG w3c w1.heap.size (.slice a gs.length c) gs := own_grown own hg (by omega)
  have hzc : w1.heap.size < w3c.heap.size := by have := A5.lt; omega
  clear hg R
  clear ownb
  have R := Rn
  clear Rn
  replace wfc := Lib.hid wfc
  have sS := And.intro A5.cells.1 A5.cells.2.1
  obtain ⟨E0, E1, _⟩ := A2.cells; obtain ⟨F0, F1⟩ := A2.frozen; obtain ⟨I0, I1, _⟩ := A3.cells; obtain ⟨J0, J1⟩ := A3.frozen
  have A5s := (A5.set_other (p := ⟨w.heap.size, 0, none⟩) (z := .int .i64 m) (by show w2.heap.size ≠ w.heap.size; omega)).set_other (p := ⟨w.heap.size, 1, none⟩) (z := .slice a gs.length c) (by show w2.heap.size ≠ w.heap.size; omega)
  have A3s := (A3.set_other (p := ⟨w.heap.size, 0, none⟩) (z := .int .i64 m) (by simp)).set_other (p := ⟨w.heap.size, 1, none⟩) (z := .slice a gs.length c) (by simp)
  have A5t := (A5s.set_other (p := ⟨w.heap.size + 1, 0, none⟩) (z := .int .i64 mc) (by show w2.heap.size ≠ w.heap.size + 1; omega)).set_other (p := ⟨w.heap.size + 1, 1, none⟩) (z := .slice ac gsc.length cc) (by show w2.heap.size ≠ w.heap.size + 1; omega)
  try go_simp
  refine hKK.out _ _ sS (fun hHeld => ?_)
  clear hKK KK
  try simp only [Act.put, List.setIfInBounds_toArray, List.set_cons_zero, List.set_cons_succ]
  refine wpAnyH_ready (rs := [8]) (by kernel_rfl) (by simp) ?_
  refine AllReadyH.cons (o := { dst := none, op := Go.Op.store 39 (Go.Operand.tmp 2) (Go.Operand.tmp 10), type := 0, pos := _, after := #[{ on := 0, ground := Go.Ground.data }, { on := 7, ground := Go.Ground.chain }, { on := 0, ground := Go.Ground.phase }, { on := 1, ground := Go.Ground.textOnly Go.Departure.lateStores }, { on := 2, ground := Go.Ground.textOnly Go.Departure.lateStores }, { on := 3, ground := Go.Ground.textOnly Go.Departure.lateStores }, { on := 4, ground := Go.Ground.textOnly Go.Departure.lateStores }, { on := 5, ground := Go.Ground.textOnly Go.Departure.lateStoresUnsure }, { on := 6, ground := Go.Ground.textOnly Go.Departure.lateStoresUnsure }, { on := 7, ground := Go.Ground.textOnly Go.Departure.lateStoresUnsure }], guard := none }) rfl (fun KK hKK => ?_) AllReadyH.nil
  go_simp
  refine hKK.out _ _ (⟨A5s.cells.1, A5s.cells.2.1⟩) (fun hHeld => ?_)
  clear hKK KK
  try simp only [Act.put, List.setIfInBounds_toArray, List.set_cons_zero, List.set_cons_succ]
  refine wpAnyH_ready (rs := [9]) (by kernel_rfl) (by simp) ?_
  refine AllReadyH.cons (o := { dst := none, op := Go.Op.store 39 (Go.Operand.tmp 3) (Go.Operand.tmp 17), type := 0, pos := _, after := #[{ on := 7, ground := Go.Ground.data }, { on := 8, ground := Go.Ground.chain }, { on := 0, ground := Go.Ground.phase }, { on := 1, ground := Go.Ground.phase }, { on := 2, ground := Go.Ground.phase }, { on := 3, ground := Go.Ground.phase }, { on := 4, ground := Go.Ground.phase }, { on := 5, ground := Go.Ground.phase }, { on := 6, ground := Go.Ground.phase }, { on := 7, ground := Go.Ground.phase }, { on := 8, ground := Go.Ground.phase }], guard := none }) rfl (fun KK hKK => ?_) AllReadyH.nil
  go_simp
  refine hKK.out _ _ (⟨A5t.cells.1, A5t.cells.2.1⟩) (fun hHeld => ?_)
  clear hKK KK
  try simp only [Act.put, List.setIfInBounds_toArray, List.set_cons_zero, List.set_cons_succ]
  refine wpAnyH_done (by kernel_rfl) ?_ _
  refine NoPanic.normal ?_
  clear E0 E1 F0 F1 I0 I1 J0 J1 sS hHeld A5s A5t A3s
  have Af := (((A2.set0 (.int .i64 m)).set1 (.slice a gs.length c)).set_other (p := ⟨w.heap.size + 1, 0, none⟩) (z := .int .i64 mc) (by simp)).set_other (p := ⟨w.heap.size + 1, 1, none⟩) (z := .slice ac gsc.length cc) (by simp)
  obtain ⟨r0, r1, _⟩ := Af.cells
  have Ag := (((A3.set_other (p := ⟨w.heap.size, 0, none⟩) (z := .int .i64 m) (by simp)).set_other (p := ⟨w.heap.size, 1, none⟩) (z := .slice a gs.length c) (by simp)).set0 (.int .i64 mc)).set1 (.slice ac gsc.length cc)
  obtain ⟨r2, r3, _⟩ := Ag.cells
  have OF := Go.RowKit.ownsRow_setCell_below (Go.RowKit.ownsRow_setCell_below (Go.RowKit.ownsRow_setCell_below (Go.RowKit.ownsRow_setCell_below own (a := ⟨w.heap.size, 0, none⟩) (by show w.heap.size < _; omega) (.int .i64 m)) (a := ⟨w.heap.size, 1, none⟩) (by show w.heap.size < _; omega) (.slice a gs.length c)) (a := ⟨w.heap.size + 1, 0, none⟩) (by show w.heap.size + 1 < _; omega) (.int .i64 mc)) (a := ⟨w.heap.size + 1, 1, none⟩) (by show w.heap.size + 1 < _; omega) (.slice ac gsc.length cc)
  have OC := Go.RowKit.ownsRow_setCell_below (Go.RowKit.ownsRow_setCell_below (Go.RowKit.ownsRow_setCell_below (Go.RowKit.ownsRow_setCell_below ownc (a := ⟨w.heap.size, 0, none⟩) (by show w.heap.size < _; omega) (.int .i64 m)) (a := ⟨w.heap.size, 1, none⟩) (by show w.heap.size < _; omega) (.slice a gs.length c)) (a := ⟨w.heap.size + 1, 0, none⟩) (by show w.heap.size + 1 < _; omega) (.int .i64 mc)) (a := ⟨w.heap.size + 1, 1, none⟩) (by show w.heap.size + 1 < _; omega) (.slice ac gsc.length cc)
  have BF := (((B.setCell (p := ⟨w.heap.size, 0, none⟩) (Nat.le_refl _) (.int .i64 m)).setCell (p := ⟨w.heap.size, 1, none⟩) (Nat.le_refl _) (.slice a gs.length c)).setCell (p := ⟨w.heap.size + 1, 0, none⟩) (Nat.le_succ _) (.int .i64 mc)).setCell (p := ⟨w.heap.size + 1, 1, none⟩) (Nat.le_succ _) (.slice ac gsc.length cc)
  replace OF := Lib.hid OF; replace OC := Lib.hid OC
  go_wp2_with fail
  exact bodyPost_ret (v := .tuple #[.agg #[.int .i64 m, .slice a gs.length c], .agg #[.int .i64 mc, .slice ac gsc.length cc]]) (by simp [results, Try.results24, go_sem, r0, r1, r2, r3]) rfl ⟨m, gs, _, _, mc, gsc, _, _, rfl, m0, m4, Go.Joins.ownsRow_le OF.out (by omega), gb.out, hl, mc0, by omega, Go.Joins.ownsRow_le OC.out (by omega), wfc.out, by omega, BF⟩
end Go.Proofs.Yteeaafdgkepaeaa
