/- Draws of nets: a copy; a net that is bent a little. The conditions stand in each statement. -/
import Derived.Test.YteeaafdgkepaeaaHc
namespace Go.Proofs.Yteeaafdgkepaeaa
open Go.RowKit

def FreshG (m : Int) (gs : List Gt) (w : World) (e : Ending) (w' : World) : Prop :=
  ∃ (a : Option Addr) (c : Nat), e = .returned (.agg #[.int .i64 m, .slice a gs.length c]) ∧ OwnG w' w.heap.size (.slice a gs.length c) gs ∧ Below w.heap.size w w'
theorem OwnG.le {w : World} {B B' : Nat} {v : Value} {gs : List Gt} (h : OwnG w B v gs) (hb : B' ≤ B) : OwnG w B' v gs := Go.Joins.ownsRow_le h hb

set_option linter.unusedVariables false in
set_option maxRecDepth 100000 in
set_option maxHeartbeats 4000000 in
theorem l6Fresh_any (m : Int) (v : Value) (gs : List Gt) (w : World) (h : Gates w v gs) (hv : NilOrB v) (hl : gs.length ≤ 1000) :
    Calls Try.prog 73 #[.agg #[.int .i64 m, v]] w (FreshG m gs w) := by
  obtain ⟨i0, hi, hz0, hz1, hz2⟩ := info_parts infoGate
  obtain ⟨a, cap, rfl⟩ := h.form
  go_enter Try.func73, Try.ntmps73
  go_upto_region 1 with fail
  have A1 : Blk ((w.alloc (.cells #[.int .i64 m, .slice a gs.length cap] 39)).alloc (.cells #[.int .i64 0, .slice none 0 0] 39)).drew w.heap.size (.int .i64 m) (.slice a gs.length cap) 39 := ((blk_new w _ _ _).alloc _).drew
  have A2 : Blk ((w.alloc (.cells #[.int .i64 m, .slice a gs.length cap] 39)).alloc (.cells #[.int .i64 0, .slice none 0 0] 39)).drew (w.heap.size + 1) (.int .i64 0) (.slice none 0 0) 39 := (blk_new1 w _ _ _ _).drew
  have BW : Below w.heap.size w ((w.alloc (.cells #[.int .i64 m, .slice a gs.length cap] 39)).alloc (.cells #[.int .i64 0, .slice none 0 0] 39)).drew := (below_step (below_self_alloc w _) _).drew
  replace h := h.below BW
  rcases hv with e1 | ⟨bb, len1, cap1, e1⟩
  · simp only [Value.slice.injEq] at e1
    obtain ⟨rfl, e2, rfl⟩ := e1
    obtain rfl : gs = [] := List.length_eq_zero_iff.1 e2
    rw [List.length_nil] at *
    refine wp_region_noPanic ?_
    refine wp_region_held_drew (S := fun wx : World => wx.cell? ⟨w.heap.size, 0, none⟩ = some (.int .i64 m) ∧ wx.cell? ⟨w.heap.size, 1, none⟩ = some (.slice none 0 0)) (by kernel_rfl) (⟨A1.cells.1, A1.cells.2.1⟩) (fun hHeld => ?_)
    obtain ⟨V, hV⟩ : ∃ V, V = ((w.alloc (.cells #[.int .i64 m, .slice none 0 0] 39)).alloc (.cells #[.int .i64 0, .slice none 0 0] 39)).drew := ⟨_, rfl⟩
    rw [← hV] at hHeld A1 A2 BW h ⊢
    have hs : w.heap.size + 2 ≤ V.heap.size := by rw [hV]; simp
    clear hV
    refine wpAnyH_take (i := 0) (oi := { dst := some 3, op := Go.Op.fieldAddr 39 (Go.Operand.tmp 1) 0, type := 0, pos := _, after := #[], guard := none }) (v := ?_) rfl (by kernel_rfl) (by kernel_rfl) (by kernel_rfl) (fun _ _ _ h => h) (Or.inl ⟨by rfl, ?_⟩) hHeld ?_
    rotate_left
    · (intro wq hSw; (try dsimp only at hSw); (try go_simp); (try with_reducible rfl))
    try simp only [Act.put, List.setIfInBounds_toArray, List.set_cons_zero, List.set_cons_succ]
    refine wpAnyH_take (i := 1) (oi := { dst := some 4, op := Go.Op.load 3 (Go.Operand.tmp 3), type := 3, pos := _, after := #[{ on := 0, ground := Go.Ground.data }], guard := none }) (v := ?_) rfl (by kernel_rfl) (by kernel_rfl) (by kernel_rfl) (fun _ _ _ h => h) (Or.inl ⟨by rfl, ?_⟩) hHeld ?_
    rotate_left
    · (intro wq hSw; (try dsimp only at hSw); (try go_simp); (try with_reducible rfl))
    try simp only [Act.put, List.setIfInBounds_toArray, List.set_cons_zero, List.set_cons_succ]
    refine wpAnyH_take (i := 3) (oi := { dst := some 6, op := Go.Op.fieldAddr 39 (Go.Operand.tmp 1) 1, type := 0, pos := _, after := #[], guard := none }) (v := ?_) rfl (by kernel_rfl) (by kernel_rfl) (by kernel_rfl) (fun _ _ _ h => h) (Or.inl ⟨by rfl, ?_⟩) hHeld ?_
    rotate_left
    · (intro wq hSw; (try dsimp only at hSw); (try go_simp); (try with_reducible rfl))
    try simp only [Act.put, List.setIfInBounds_toArray, List.set_cons_zero, List.set_cons_succ]
    refine wpAnyH_take (i := 4) (oi := { dst := some 7, op := Go.Op.load 37 (Go.Operand.tmp 6), type := 37, pos := _, after := #[{ on := 3, ground := Go.Ground.data }], guard := none }) (v := ?_) rfl (by kernel_rfl) (by kernel_rfl) (by kernel_rfl) (fun _ _ _ h => h) (Or.inl ⟨by rfl, ?_⟩) hHeld ?_
    rotate_left
    · (intro wq hSw; (try dsimp only at hSw); (try go_simp); (try with_reducible rfl))
    try simp only [Act.put, List.setIfInBounds_toArray, List.set_cons_zero, List.set_cons_succ]
    have own0 : (V.alloc (.cells #[] 47)).ownsRow V.heap.size 47 3 (.slice (some ⟨V.heap.size, 0, none⟩) 0 0) 0 [] := World.ownsRow_lit (e := 47) (size := 3) V #[] 0 (Nat.le_refl _) (Nat.zero_le _) rfl
    have A1a := A1.alloc (.cells #[] 47); have A2a := A2.alloc (.cells #[] 47); have Ba := below_step BW (.cells #[] 47); have ha := h.below (below_self_alloc V (.cells #[] 47))
    clear A1 A2 BW h
    refine wpAnyH_ready (rs := [2]) (by kernel_rfl) (by simp) ?_
    refine AllReadyH.cons (o := { dst := some 5, op := Go.Op.buildSlice 37 0 #[], type := 37, pos := _, after := #[], guard := none }) rfl (fun KK hKK => ?_) AllReadyH.nil
    go_simp
    refine hKK.out _ _ (⟨A1a.cells.1, A1a.cells.2.1⟩) (fun hHeld => ?_)
    clear hKK KK
    try simp only [Act.put, List.setIfInBounds_toArray, List.set_cons_zero, List.set_cons_succ]
    refine wpAnyH_ready (rs := [5]) (by kernel_rfl) (by simp) ?_
    refine AllReadyH.cons (o := { dst := some 8, op := Go.Op.call { callee := Go.Callee.builtin Go.Builtin.append, args := #[Go.Operand.tmp 5, Go.Operand.tmp 7], argTypes := #[37, 37] }, type := 37, pos := _, after := #[{ on := 2, ground := Go.Ground.data }, { on := 4, ground := Go.Ground.data }], guard := none }) rfl (fun KK hKK => ?_) AllReadyH.nil
    refine step_append_none _ rfl (.tmp 5) (.tmp 7) _ rfl V.heap.size 47 i0 3 Try.underlying37 hi (.slice (some ⟨V.heap.size, 0, none⟩) 0 0) 0 [] (by rfl) own0 (by rfl) ?_
    obtain ⟨w5, hw5⟩ : ∃ w5, w5 = V.alloc (.cells #[] 47) := ⟨_, rfl⟩
    rw [← hw5] at A1a A2a Ba own0 ⊢
    have A15 := A1a; have A25 := A2a; have B5 := Ba
    have ownf : OwnG w5 V.heap.size (.slice (some ⟨V.heap.size, 0, none⟩) 0 0) [] := own0
    clear hw5 own0 A1a A2a Ba
    obtain ⟨E0, E1, _⟩ := A25.cells; obtain ⟨F0, F1⟩ := A25.frozen
    have A1s := (A15.set_other (p := ⟨w.heap.size + 1, 0, none⟩) (z := .int .i64 m) (by simp)).set_other (p := ⟨w.heap.size + 1, 1, none⟩) (z := .slice (some ⟨V.heap.size, 0, none⟩) 0 0) (by simp)
    obtain ⟨c0, c1, _⟩ := A1s.cells
    try go_simp
    refine hKK.out _ _ (⟨A15.cells.1, A15.cells.2.1⟩) (fun hHeld => ?_)
    clear hKK KK
    try simp only [Act.put, List.setIfInBounds_toArray, List.set_cons_zero, List.set_cons_succ]
    refine wpAnyH_take (i := 6) (oi := { dst := some 9, op := Go.Op.build 39 #[(0, Go.Operand.tmp 4), (1, Go.Operand.tmp 8)], type := 39, pos := _, after := #[{ on := 1, ground := Go.Ground.data }, { on := 5, ground := Go.Ground.data }], guard := none }) (v := ?_) rfl (by kernel_rfl) (by kernel_rfl) (by kernel_rfl) (fun _ _ _ h => h) (Or.inl ⟨by rfl, ?_⟩) hHeld ?_
    rotate_left
    · (intro wq hSw; (try dsimp only at hSw); (try go_simp); (try with_reducible rfl))
    try simp only [Act.put, List.setIfInBounds_toArray, List.set_cons_zero, List.set_cons_succ]
    refine wpAnyH_ready (rs := [7]) (by kernel_rfl) (by simp) ?_
    refine AllReadyH.cons (o := { dst := none, op := Go.Op.store 39 (Go.Operand.tmp 2) (Go.Operand.tmp 9), type := 0, pos := _, after := #[{ on := 6, ground := Go.Ground.data }, { on := 5, ground := Go.Ground.chain }, { on := 0, ground := Go.Ground.phase }, { on := 1, ground := Go.Ground.phase }, { on := 2, ground := Go.Ground.phase }, { on := 3, ground := Go.Ground.phase }, { on := 4, ground := Go.Ground.phase }, { on := 5, ground := Go.Ground.phase }, { on := 6, ground := Go.Ground.phase }], guard := none }) rfl (fun KK hKK => ?_) AllReadyH.nil
    go_simp
    refine hKK.out _ _ (⟨c0, c1⟩) (fun hHeld => ?_)
    clear hKK KK
    try simp only [Act.put, List.setIfInBounds_toArray, List.set_cons_zero, List.set_cons_succ]
    refine wpAnyH_done (by kernel_rfl) ?_ _
    refine NoPanic.normal ?_
    clear E0 E1 F0 F1 c0 c1 A1s hHeld
    have Af := (A25.set0 (.int .i64 m)).set1 (.slice (some ⟨V.heap.size, 0, none⟩) 0 0)
    obtain ⟨r0, r1, _⟩ := Af.cells
    have OF := Go.RowKit.ownsRow_setCell_below (Go.RowKit.ownsRow_setCell_below ownf (a := ⟨w.heap.size + 1, 0, none⟩) (by show w.heap.size + 1 < _; omega) (.int .i64 m)) (a := ⟨w.heap.size + 1, 1, none⟩) (by show w.heap.size + 1 < _; omega) (.slice (some ⟨V.heap.size, 0, none⟩) 0 0)
    have BF := (B5.setCell (p := ⟨w.heap.size + 1, 0, none⟩) (Nat.le_succ _) (.int .i64 m)).setCell (p := ⟨w.heap.size + 1, 1, none⟩) (Nat.le_succ _) (.slice (some ⟨V.heap.size, 0, none⟩) 0 0)
    go_wp2_with fail
    exact bodyPost_ret (v := .agg #[.int .i64 m, .slice (some ⟨V.heap.size, 0, none⟩) 0 0]) (by simp [results, Try.results73, go_sem, r0, r1]) rfl ⟨_, _, rfl, Go.Joins.ownsRow_le OF (by omega), BF⟩
  · simp only [Value.slice.injEq] at e1
    obtain ⟨rfl, rfl, rfl⟩ := e1
    refine wp_region_noPanic ?_
    refine wp_region_held_drew (S := fun wx : World => wx.cell? ⟨w.heap.size, 0, none⟩ = some (.int .i64 m) ∧ wx.cell? ⟨w.heap.size, 1, none⟩ = some (.slice (some ⟨bb, 0, none⟩) gs.length cap)) (by kernel_rfl) (⟨A1.cells.1, A1.cells.2.1⟩) (fun hHeld => ?_)
    obtain ⟨V, hV⟩ : ∃ V, V = ((w.alloc (.cells #[.int .i64 m, .slice (some ⟨bb, 0, none⟩) gs.length cap] 39)).alloc (.cells #[.int .i64 0, .slice none 0 0] 39)).drew := ⟨_, rfl⟩
    rw [← hV] at hHeld A1 A2 BW h ⊢
    have hs : w.heap.size + 2 ≤ V.heap.size := by rw [hV]; simp
    clear hV
    refine wpAnyH_take (i := 0) (oi := { dst := some 3, op := Go.Op.fieldAddr 39 (Go.Operand.tmp 1) 0, type := 0, pos := _, after := #[], guard := none }) (v := ?_) rfl (by kernel_rfl) (by kernel_rfl) (by kernel_rfl) (fun _ _ _ h => h) (Or.inl ⟨by rfl, ?_⟩) hHeld ?_
    rotate_left
    · (intro wq hSw; (try dsimp only at hSw); (try go_simp); (try with_reducible rfl))
    try simp only [Act.put, List.setIfInBounds_toArray, List.set_cons_zero, List.set_cons_succ]
    refine wpAnyH_take (i := 1) (oi := { dst := some 4, op := Go.Op.load 3 (Go.Operand.tmp 3), type := 3, pos := _, after := #[{ on := 0, ground := Go.Ground.data }], guard := none }) (v := ?_) rfl (by kernel_rfl) (by kernel_rfl) (by kernel_rfl) (fun _ _ _ h => h) (Or.inl ⟨by rfl, ?_⟩) hHeld ?_
    rotate_left
    · (intro wq hSw; (try dsimp only at hSw); (try go_simp); (try with_reducible rfl))
    try simp only [Act.put, List.setIfInBounds_toArray, List.set_cons_zero, List.set_cons_succ]
    refine wpAnyH_take (i := 3) (oi := { dst := some 6, op := Go.Op.fieldAddr 39 (Go.Operand.tmp 1) 1, type := 0, pos := _, after := #[], guard := none }) (v := ?_) rfl (by kernel_rfl) (by kernel_rfl) (by kernel_rfl) (fun _ _ _ h => h) (Or.inl ⟨by rfl, ?_⟩) hHeld ?_
    rotate_left
    · (intro wq hSw; (try dsimp only at hSw); (try go_simp); (try with_reducible rfl))
    try simp only [Act.put, List.setIfInBounds_toArray, List.set_cons_zero, List.set_cons_succ]
    refine wpAnyH_take (i := 4) (oi := { dst := some 7, op := Go.Op.load 37 (Go.Operand.tmp 6), type := 37, pos := _, after := #[{ on := 3, ground := Go.Ground.data }], guard := none }) (v := ?_) rfl (by kernel_rfl) (by kernel_rfl) (by kernel_rfl) (fun _ _ _ h => h) (Or.inl ⟨by rfl, ?_⟩) hHeld ?_
    rotate_left
    · (intro wq hSw; (try dsimp only at hSw); (try go_simp); (try with_reducible rfl))
    try simp only [Act.put, List.setIfInBounds_toArray, List.set_cons_zero, List.set_cons_succ]
    have own0 : (V.alloc (.cells #[] 47)).ownsRow V.heap.size 47 3 (.slice (some ⟨V.heap.size, 0, none⟩) 0 0) 0 [] := World.ownsRow_lit (e := 47) (size := 3) V #[] 0 (Nat.le_refl _) (Nat.zero_le _) rfl
    have A1a := A1.alloc (.cells #[] 47); have A2a := A2.alloc (.cells #[] 47); have Ba := below_step BW (.cells #[] 47); have ha := h.below (below_self_alloc V (.cells #[] 47))
    clear A1 A2 BW h
    have hnew := Lib.hid (RowS.news3 ha.row)
    have hone := Lib.hid (gflat_one gs)
    have hlen := gflat_len gs
    clear ha
    refine wpAnyH_ready (rs := [2]) (by kernel_rfl) (by simp) ?_
    refine AllReadyH.cons (o := { dst := some 5, op := Go.Op.buildSlice 37 0 #[], type := 37, pos := _, after := #[], guard := none }) rfl (fun KK hKK => ?_) AllReadyH.nil
    go_simp
    refine hKK.out _ _ (⟨A1a.cells.1, A1a.cells.2.1⟩) (fun hHeld => ?_)
    clear hKK KK
    try simp only [Act.put, List.setIfInBounds_toArray, List.set_cons_zero, List.set_cons_succ]
    refine wpAnyH_ready (rs := [5]) (by kernel_rfl) (by simp) ?_
    refine AllReadyH.cons (o := { dst := some 8, op := Go.Op.call { callee := Go.Callee.builtin Go.Builtin.append, args := #[Go.Operand.tmp 5, Go.Operand.tmp 7], argTypes := #[37, 37] }, type := 37, pos := _, after := #[{ on := 2, ground := Go.Ground.data }, { on := 4, ground := Go.Ground.data }], guard := none }) rfl (fun KK hKK => ?_) AllReadyH.nil
    refine step_append_at _ rfl (.tmp 5) (.tmp 7) _ rfl V.heap.size 47 i0 (.agg #[.bool false, .int .i64 0, .int .i64 0]) 3 24 Try.underlying37 hi hz0 hz1 hz2 rfl (by omega) (.slice (some ⟨V.heap.size, 0, none⟩) 0 0) 0 [] (by rfl) own0 ⟨bb, 0, none⟩ gs.length cap (gflat gs) (by rfl) hlen hnew.out hone.out (by unfold maxLen; omega) (by omega) (by simp) ?_
    intro v5 w5 own5 hg5 hat5
    have A15 := blk_row A1a hg5 (fun e => by have e2 : V.heap.size = w.heap.size := Option.some.inj e; omega)
    have A25 := blk_row A2a hg5 (fun e => by have e2 : V.heap.size = w.heap.size + 1 := Option.some.inj e; omega)
    have B5 := below_grows Ba hg5 (fun q e => by have e2 : V.heap.size = q := Option.some.inj e; omega)
    have ownf : OwnG w5 V.heap.size v5 gs := by unfold OwnG; simpa using own5
    obtain ⟨a5, c5, rfl⟩ := ownf.gates.form
    clear own5 hg5 hat5 own0 A1a A2a Ba hnew hone
    obtain ⟨E0, E1, _⟩ := A25.cells; obtain ⟨F0, F1⟩ := A25.frozen
    have A1s := (A15.set_other (p := ⟨w.heap.size + 1, 0, none⟩) (z := .int .i64 m) (by simp)).set_other (p := ⟨w.heap.size + 1, 1, none⟩) (z := .slice a5 gs.length c5) (by simp)
    obtain ⟨c0, c1, _⟩ := A1s.cells
    try go_simp
    refine hKK.out _ _ (⟨A15.cells.1, A15.cells.2.1⟩) (fun hHeld => ?_)
    clear hKK KK
    try simp only [Act.put, List.setIfInBounds_toArray, List.set_cons_zero, List.set_cons_succ]
    refine wpAnyH_take (i := 6) (oi := { dst := some 9, op := Go.Op.build 39 #[(0, Go.Operand.tmp 4), (1, Go.Operand.tmp 8)], type := 39, pos := _, after := #[{ on := 1, ground := Go.Ground.data }, { on := 5, ground := Go.Ground.data }], guard := none }) (v := ?_) rfl (by kernel_rfl) (by kernel_rfl) (by kernel_rfl) (fun _ _ _ h => h) (Or.inl ⟨by rfl, ?_⟩) hHeld ?_
    rotate_left
    · (intro wq hSw; (try dsimp only at hSw); (try go_simp); (try with_reducible rfl))
    try simp only [Act.put, List.setIfInBounds_toArray, List.set_cons_zero, List.set_cons_succ]
    refine wpAnyH_ready (rs := [7]) (by kernel_rfl) (by simp) ?_
    refine AllReadyH.cons (o := { dst := none, op := Go.Op.store 39 (Go.Operand.tmp 2) (Go.Operand.tmp 9), type := 0, pos := _, after := #[{ on := 6, ground := Go.Ground.data }, { on := 5, ground := Go.Ground.chain }, { on := 0, ground := Go.Ground.phase }, { on := 1, ground := Go.Ground.phase }, { on := 2, ground := Go.Ground.phase }, { on := 3, ground := Go.Ground.phase }, { on := 4, ground := Go.Ground.phase }, { on := 5, ground := Go.Ground.phase }, { on := 6, ground := Go.Ground.phase }], guard := none }) rfl (fun KK hKK => ?_) AllReadyH.nil
    go_simp
    refine hKK.out _ _ (⟨c0, c1⟩) (fun hHeld => ?_)
    clear hKK KK
    try simp only [Act.put, List.setIfInBounds_toArray, List.set_cons_zero, List.set_cons_succ]
    refine wpAnyH_done (by kernel_rfl) ?_ _
    refine NoPanic.normal ?_
    clear E0 E1 F0 F1 c0 c1 A1s hHeld
    have Af := (A25.set0 (.int .i64 m)).set1 (.slice a5 gs.length c5)
    obtain ⟨r0, r1, _⟩ := Af.cells
    have OF := Go.RowKit.ownsRow_setCell_below (Go.RowKit.ownsRow_setCell_below ownf (a := ⟨w.heap.size + 1, 0, none⟩) (by show w.heap.size + 1 < _; omega) (.int .i64 m)) (a := ⟨w.heap.size + 1, 1, none⟩) (by show w.heap.size + 1 < _; omega) (.slice a5 gs.length c5)
    have BF := (B5.setCell (p := ⟨w.heap.size + 1, 0, none⟩) (Nat.le_succ _) (.int .i64 m)).setCell (p := ⟨w.heap.size + 1, 1, none⟩) (Nat.le_succ _) (.slice a5 gs.length c5)
    go_wp2_with fail
    exact bodyPost_ret (v := .agg #[.int .i64 m, .slice a5 gs.length c5]) (by simp [results, Try.results73, go_sem, r0, r1]) rfl ⟨_, _, rfl, Go.Joins.ownsRow_le OF (by omega), BF⟩
end Go.Proofs.Yteeaafdgkepaeaa
