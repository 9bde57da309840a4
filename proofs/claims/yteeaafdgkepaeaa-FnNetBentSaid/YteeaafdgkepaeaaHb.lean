/- Draws of nets: and, xor. The conditions stand in each statement. -/
import Derived.Test.YteeaafdgkepaeaaHa
namespace Go.Proofs.Yteeaafdgkepaeaa
open Go.RowKit

def GaveN (B : Nat) (m : Int) (n : Nat) (w : World) (e : Ending) (w' : World) : Prop :=
  ∃ (gs' : List Gt) (a' : Option Addr) (c' : Nat) (k : Int), e = .returned (.tuple #[.agg #[.int .i64 m, .slice a' gs'.length c'], .int .i64 k]) ∧ OwnG w' B (.slice a' gs'.length c') gs' ∧ gs'.length ≤ n + 1 ∧ GB gs' ∧ Below w.heap.size w w'
theorem put_len {gs gs' : List Gt} {g : Gt} (h : gs' = gs ∨ gs' = gs ++ [g]) : gs'.length ≤ gs.length + 1 := by
  rcases h with rfl | rfl <;> simp
theorem put_gb {gs gs' : List Gt} {g : Gt} (h : gs' = gs ∨ gs' = gs ++ [g]) (hb : GB gs) (hg : GIn g) : GB gs' := by
  rcases h with rfl | rfl
  · exact hb
  · exact hb.snoc hg
theorem mabs_in {x : Int} (h0 : -1000 ≤ x) (h1 : x ≤ 1000) : 0 ≤ mabs x ∧ mabs x ≤ 1000 := by unfold mabs; split <;> omega

set_option linter.unusedVariables false in
set_option maxRecDepth 100000 in
set_option maxHeartbeats 8000000 in
theorem l6And_any (B : Nat) (m : Int) (v : Value) (gs : List Gt) (x y : Int) (w : World) (own : OwnG w B v gs) (hB : B ≤ w.heap.size) (m0 : 0 ≤ m) (m1 : m ≤ 100) (hl : gs.length ≤ 400) (x0 : -1000 ≤ x) (x1 : x ≤ 1000) (y0 : -1000 ≤ y) (y1 : y ≤ 1000) (gb : GB gs) :
    Calls Try.prog 72 #[.agg #[.int .i64 m, v], .int .i64 x, .int .i64 y] w (GaveN B m gs.length w) := by
  obtain ⟨a, cap, rfl⟩ := own.gates.form
  have OC := fun (x0 : Bool) (x1 x2 : Int) (w' : World) (o : OwnG w' B (.slice a gs.length cap) gs) (h : B ≤ w'.heap.size) => l6Put_any B m (.slice a gs.length cap) gs x0 x1 x2 w' o h m0 m1 (by omega)
  replace OC := Lib.hid OC
  go_enter Try.func72, Try.ntmps72
  go_upto_region 1 with fail
  obtain ⟨W, hW⟩ : ∃ W, W = (w.alloc (.cells #[.int .i64 m, .slice a gs.length cap] 39)).alloc (.cells #[.int .i64 0, .slice none 0 0] 39) := ⟨_, rfl⟩
  rw [← hW]
  have A3 : Blk W w.heap.size (.int .i64 m) (.slice a gs.length cap) 39 := by rw [hW]; exact (blk_new w _ _ _).alloc _
  have A6 : Blk W (w.heap.size + 1) (.int .i64 0) (.slice none 0 0) 39 := by rw [hW]; exact blk_new1 w _ _ _ _
  have BW : Below w.heap.size w W := by rw [hW]; exact below_step (below_self_alloc w _) _
  have hs : W.heap.size = w.heap.size + 2 := by rw [hW]; simp
  have hne6 : (Value.slice a gs.length cap).ownBlock ≠ some (w.heap.size + 1) := fun e => by have := (own.lt _ e).2; omega
  have hlt6 : ∀ q, (Value.slice a gs.length cap).ownBlock = some q → q < w.heap.size := fun q e => (own.lt _ e).2
  replace own := own.below BW
  clear hW
  obtain ⟨C0, C1, _⟩ := A3.cells; obtain ⟨E0, E1, _⟩ := A6.cells; obtain ⟨F0, F1⟩ := A6.frozen
  have OW := Lib.hid own
  replace hne6 := Lib.hid hne6; replace hlt6 := Lib.hid hlt6
  clear own
  have n1 : IntKind.i64.wrap (-y) = -y := IntWalk.i64_in _ (by omega)
  by_cases c1 : x = -1
  · subst c1
    go_wp2_with fail
    have Af := (A6.set0 (.int .i64 m)).set1 (.slice a gs.length cap)
    obtain ⟨r0, r1, _⟩ := Af.cells
    have OF := own_setCell (own_setCell (OW.out) (p := ⟨w.heap.size + 1, 0, none⟩) (hne6.out) (.int .i64 m)) (p := ⟨w.heap.size + 1, 1, none⟩) (hne6.out) (.slice a gs.length cap)
    have BF := (BW.setCell (p := ⟨w.heap.size + 1, 0, none⟩) (Nat.le_succ _) (.int .i64 m)).setCell (p := ⟨w.heap.size + 1, 1, none⟩) (Nat.le_succ _) (.slice a gs.length cap)
    exact bodyPost_ret (v := .tuple #[.agg #[.int .i64 m, .slice a gs.length cap], .int .i64 (-1)]) (by simp [results, Try.results72, go_sem, r0, r1]) rfl ⟨gs, _, _, _, rfl, OF, Nat.le_succ _, gb, BF⟩
  have d1 : (x == -1) = false := by simpa using c1
  by_cases c2 : y = -1
  · subst c2
    go_wp2_with fail
    have Af := (A6.set0 (.int .i64 m)).set1 (.slice a gs.length cap)
    obtain ⟨r0, r1, _⟩ := Af.cells
    have OF := own_setCell (own_setCell (OW.out) (p := ⟨w.heap.size + 1, 0, none⟩) (hne6.out) (.int .i64 m)) (p := ⟨w.heap.size + 1, 1, none⟩) (hne6.out) (.slice a gs.length cap)
    have BF := (BW.setCell (p := ⟨w.heap.size + 1, 0, none⟩) (Nat.le_succ _) (.int .i64 m)).setCell (p := ⟨w.heap.size + 1, 1, none⟩) (Nat.le_succ _) (.slice a gs.length cap)
    exact bodyPost_ret (v := .tuple #[.agg #[.int .i64 m, .slice a gs.length cap], .int .i64 (-1)]) (by simp [results, Try.results72, go_sem, r0, r1]) rfl ⟨gs, _, _, _, rfl, OF, Nat.le_succ _, gb, BF⟩
  have d2 : (y == -1) = false := by simpa using c2
  by_cases c3 : x = -y
  · have d3 : (x == -y) = true := by simpa using c3
    go_wp2_with fail
    have Af := (A6.set0 (.int .i64 m)).set1 (.slice a gs.length cap)
    obtain ⟨r0, r1, _⟩ := Af.cells
    have OF := own_setCell (own_setCell (OW.out) (p := ⟨w.heap.size + 1, 0, none⟩) (hne6.out) (.int .i64 m)) (p := ⟨w.heap.size + 1, 1, none⟩) (hne6.out) (.slice a gs.length cap)
    have BF := (BW.setCell (p := ⟨w.heap.size + 1, 0, none⟩) (Nat.le_succ _) (.int .i64 m)).setCell (p := ⟨w.heap.size + 1, 1, none⟩) (Nat.le_succ _) (.slice a gs.length cap)
    exact bodyPost_ret (v := .tuple #[.agg #[.int .i64 m, .slice a gs.length cap], .int .i64 (-1)]) (by simp [results, Try.results72, go_sem, r0, r1]) rfl ⟨gs, _, _, _, rfl, OF, Nat.le_succ _, gb, BF⟩
  have d3 : (x == -y) = false := by simpa using c3
  by_cases c4 : x = 1
  · subst c4
    go_wp2_with fail
    have Af := (A6.set0 (.int .i64 m)).set1 (.slice a gs.length cap)
    obtain ⟨r0, r1, _⟩ := Af.cells
    have OF := own_setCell (own_setCell (OW.out) (p := ⟨w.heap.size + 1, 0, none⟩) (hne6.out) (.int .i64 m)) (p := ⟨w.heap.size + 1, 1, none⟩) (hne6.out) (.slice a gs.length cap)
    have BF := (BW.setCell (p := ⟨w.heap.size + 1, 0, none⟩) (Nat.le_succ _) (.int .i64 m)).setCell (p := ⟨w.heap.size + 1, 1, none⟩) (Nat.le_succ _) (.slice a gs.length cap)
    exact bodyPost_ret (v := .tuple #[.agg #[.int .i64 m, .slice a gs.length cap], .int .i64 (y)]) (by simp [results, Try.results72, go_sem, r0, r1]) rfl ⟨gs, _, _, _, rfl, OF, Nat.le_succ _, gb, BF⟩
  have d4 : (x == 1) = false := by simpa using c4
  by_cases c5 : x = y
  · subst c5
    go_wp2_with fail
    have Af := (A6.set0 (.int .i64 m)).set1 (.slice a gs.length cap)
    obtain ⟨r0, r1, _⟩ := Af.cells
    have OF := own_setCell (own_setCell (OW.out) (p := ⟨w.heap.size + 1, 0, none⟩) (hne6.out) (.int .i64 m)) (p := ⟨w.heap.size + 1, 1, none⟩) (hne6.out) (.slice a gs.length cap)
    have BF := (BW.setCell (p := ⟨w.heap.size + 1, 0, none⟩) (Nat.le_succ _) (.int .i64 m)).setCell (p := ⟨w.heap.size + 1, 1, none⟩) (Nat.le_succ _) (.slice a gs.length cap)
    exact bodyPost_ret (v := .tuple #[.agg #[.int .i64 m, .slice a gs.length cap], .int .i64 (x)]) (by simp [results, Try.results72, go_sem, r0, r1]) rfl ⟨gs, _, _, _, rfl, OF, Nat.le_succ _, gb, BF⟩
  have d5 : (x == y) = false := by simpa using c5
  by_cases c6 : y = 1
  · subst c6
    go_wp2_with fail
    have Af := (A6.set0 (.int .i64 m)).set1 (.slice a gs.length cap)
    obtain ⟨r0, r1, _⟩ := Af.cells
    have OF := own_setCell (own_setCell (OW.out) (p := ⟨w.heap.size + 1, 0, none⟩) (hne6.out) (.int .i64 m)) (p := ⟨w.heap.size + 1, 1, none⟩) (hne6.out) (.slice a gs.length cap)
    have BF := (BW.setCell (p := ⟨w.heap.size + 1, 0, none⟩) (Nat.le_succ _) (.int .i64 m)).setCell (p := ⟨w.heap.size + 1, 1, none⟩) (Nat.le_succ _) (.slice a gs.length cap)
    exact bodyPost_ret (v := .tuple #[.agg #[.int .i64 m, .slice a gs.length cap], .int .i64 (x)]) (by simp [results, Try.results72, go_sem, r0, r1]) rfl ⟨gs, _, _, _, rfl, OF, Nat.le_succ _, gb, BF⟩
  have d6 : (y == 1) = false := by simpa using c6
  clear c1 c2 c3 c4 c5 c6
  have CX := Lib.hid (fun w' => absS_any x w' (by omega) (by omega)); have CY := Lib.hid (fun w' => absS_any y w' (by omega) (by omega))
  generalize hmx : mabs x = ax at CX
  generalize hmy : mabs y = ay at CY
  go_wp2_with fail
  refine (CX.out _).mono ?_; rintro e w2 ⟨rfl, q2, rfl⟩
  go_wp2_with fail
  refine (CY.out _).mono ?_; rintro e w3 ⟨rfl, q3, rfl⟩
  clear CX CY
  by_cases c7 : ay < ax
  · go_wp2_with fail
    refine (OC.out false y x (W.drewN (q2 + q3)) OW.out (by show B ≤ W.heap.size; omega)).mono ?_
    rintro e w5 ⟨gs', a', c', k, rfl, own5, hor, k0, k1, hap, hb5⟩
    have A65 := (A6.drewN (q2 + q3)).keep hb5
    have hne5 : (Value.slice a' gs'.length c').ownBlock ≠ some (w.heap.size + 1) := fun e => by
      rcases hap _ e with h | h
      · have := hlt6.out _ h; omega
      · have h2 : W.heap.size ≤ w.heap.size + 1 := h
        omega
    have B5 := below_two (below_drewN BW (q2 + q3)) hb5
    clear C0 C1 E0 E1 F0 F1
    obtain ⟨E0, E1, _⟩ := A65.cells; obtain ⟨F0, F1⟩ := A65.frozen
    go_wp2_with fail
    have Af := (A65.set0 (.int .i64 m)).set1 (.slice a' gs'.length c')
    obtain ⟨r0, r1, _⟩ := Af.cells
    have OF := own_setCell (own_setCell (own5) (p := ⟨w.heap.size + 1, 0, none⟩) (hne5) (.int .i64 m)) (p := ⟨w.heap.size + 1, 1, none⟩) (hne5) (.slice a' gs'.length c')
    have BF := (B5.setCell (p := ⟨w.heap.size + 1, 0, none⟩) (Nat.le_succ _) (.int .i64 m)).setCell (p := ⟨w.heap.size + 1, 1, none⟩) (Nat.le_succ _) (.slice a' gs'.length c')
    exact bodyPost_ret (v := .tuple #[.agg #[.int .i64 m, .slice a' gs'.length c'], .int .i64 (k)]) (by simp [results, Try.results72, go_sem, r0, r1]) rfl ⟨gs', _, _, _, rfl, OF, put_len hor, put_gb hor gb ⟨by omega, by omega, by omega, by omega⟩, BF⟩
  · have d7 : decide (ay < ax) = false := by simpa using c7
    go_wp2_with fail
    refine (OC.out false x y (W.drewN (q2 + q3)) OW.out (by show B ≤ W.heap.size; omega)).mono ?_
    rintro e w5 ⟨gs', a', c', k, rfl, own5, hor, k0, k1, hap, hb5⟩
    have A65 := (A6.drewN (q2 + q3)).keep hb5
    have hne5 : (Value.slice a' gs'.length c').ownBlock ≠ some (w.heap.size + 1) := fun e => by
      rcases hap _ e with h | h
      · have := hlt6.out _ h; omega
      · have h2 : W.heap.size ≤ w.heap.size + 1 := h
        omega
    have B5 := below_two (below_drewN BW (q2 + q3)) hb5
    clear C0 C1 E0 E1 F0 F1
    obtain ⟨E0, E1, _⟩ := A65.cells; obtain ⟨F0, F1⟩ := A65.frozen
    go_wp2_with fail
    have Af := (A65.set0 (.int .i64 m)).set1 (.slice a' gs'.length c')
    obtain ⟨r0, r1, _⟩ := Af.cells
    have OF := own_setCell (own_setCell (own5) (p := ⟨w.heap.size + 1, 0, none⟩) (hne5) (.int .i64 m)) (p := ⟨w.heap.size + 1, 1, none⟩) (hne5) (.slice a' gs'.length c')
    have BF := (B5.setCell (p := ⟨w.heap.size + 1, 0, none⟩) (Nat.le_succ _) (.int .i64 m)).setCell (p := ⟨w.heap.size + 1, 1, none⟩) (Nat.le_succ _) (.slice a' gs'.length c')
    exact bodyPost_ret (v := .tuple #[.agg #[.int .i64 m, .slice a' gs'.length c'], .int .i64 (k)]) (by simp [results, Try.results72, go_sem, r0, r1]) rfl ⟨gs', _, _, _, rfl, OF, put_len hor, put_gb hor gb ⟨by omega, by omega, by omega, by omega⟩, BF⟩

set_option linter.unusedVariables false in
set_option maxRecDepth 100000 in
set_option maxHeartbeats 8000000 in
theorem l6Xor_any (B : Nat) (m : Int) (v : Value) (gs : List Gt) (x y : Int) (w : World) (own : OwnG w B v gs) (hB : B ≤ w.heap.size) (m0 : 0 ≤ m) (m1 : m ≤ 100) (hl : gs.length ≤ 400) (x0 : -1000 ≤ x) (x1 : x ≤ 1000) (y0 : -1000 ≤ y) (y1 : y ≤ 1000) (gb : GB gs) :
    Calls Try.prog 71 #[.agg #[.int .i64 m, v], .int .i64 x, .int .i64 y] w (GaveN B m gs.length w) := by
  obtain ⟨a, cap, rfl⟩ := own.gates.form
  have OC := fun (x0 : Bool) (x1 x2 : Int) (w' : World) (o : OwnG w' B (.slice a gs.length cap) gs) (h : B ≤ w'.heap.size) => l6Put_any B m (.slice a gs.length cap) gs x0 x1 x2 w' o h m0 m1 (by omega)
  replace OC := Lib.hid OC
  go_enter Try.func71, Try.ntmps71
  go_upto_region 1 with fail
  obtain ⟨W, hW⟩ : ∃ W, W = (w.alloc (.cells #[.int .i64 m, .slice a gs.length cap] 39)).alloc (.cells #[.int .i64 0, .slice none 0 0] 39) := ⟨_, rfl⟩
  rw [← hW]
  have A3 : Blk W w.heap.size (.int .i64 m) (.slice a gs.length cap) 39 := by rw [hW]; exact (blk_new w _ _ _).alloc _
  have A6 : Blk W (w.heap.size + 1) (.int .i64 0) (.slice none 0 0) 39 := by rw [hW]; exact blk_new1 w _ _ _ _
  have BW : Below w.heap.size w W := by rw [hW]; exact below_step (below_self_alloc w _) _
  have hs : W.heap.size = w.heap.size + 2 := by rw [hW]; simp
  have hne6 : (Value.slice a gs.length cap).ownBlock ≠ some (w.heap.size + 1) := fun e => by have := (own.lt _ e).2; omega
  have hlt6 : ∀ q, (Value.slice a gs.length cap).ownBlock = some q → q < w.heap.size := fun q e => (own.lt _ e).2
  replace own := own.below BW
  clear hW
  obtain ⟨C0, C1, _⟩ := A3.cells; obtain ⟨E0, E1, _⟩ := A6.cells; obtain ⟨F0, F1⟩ := A6.frozen
  have OW := Lib.hid own
  replace hne6 := Lib.hid hne6; replace hlt6 := Lib.hid hlt6
  clear own
  have n1 : IntKind.i64.wrap (-y) = -y := IntWalk.i64_in _ (by omega)
  have n2 : IntKind.i64.wrap (-x) = -x := IntWalk.i64_in _ (by omega)
  have n3 : IntKind.i64.wrap x = x := IntWalk.i64_in _ (by omega)
  have n4 : IntKind.i64.wrap y = y := IntWalk.i64_in _ (by omega)
  by_cases c1 : x = 1
  · subst c1
    clear n2 n3
    go_wp2_with fail
    have Af := (A6.set0 (.int .i64 m)).set1 (.slice a gs.length cap)
    obtain ⟨r0, r1, _⟩ := Af.cells
    have OF := own_setCell (own_setCell (OW.out) (p := ⟨w.heap.size + 1, 0, none⟩) (hne6.out) (.int .i64 m)) (p := ⟨w.heap.size + 1, 1, none⟩) (hne6.out) (.slice a gs.length cap)
    have BF := (BW.setCell (p := ⟨w.heap.size + 1, 0, none⟩) (Nat.le_succ _) (.int .i64 m)).setCell (p := ⟨w.heap.size + 1, 1, none⟩) (Nat.le_succ _) (.slice a gs.length cap)
    exact bodyPost_ret (v := .tuple #[.agg #[.int .i64 m, .slice a gs.length cap], .int .i64 (-y)]) (by simp [results, Try.results71, go_sem, r0, r1]) rfl ⟨gs, _, _, _, rfl, OF, Nat.le_succ _, gb, BF⟩
  have d1 : (x == 1) = false := by simpa using c1
  by_cases c2 : x = -1
  · subst c2
    clear n2 n3 d1
    go_wp2_with fail
    have Af := (A6.set0 (.int .i64 m)).set1 (.slice a gs.length cap)
    obtain ⟨r0, r1, _⟩ := Af.cells
    have OF := own_setCell (own_setCell (OW.out) (p := ⟨w.heap.size + 1, 0, none⟩) (hne6.out) (.int .i64 m)) (p := ⟨w.heap.size + 1, 1, none⟩) (hne6.out) (.slice a gs.length cap)
    have BF := (BW.setCell (p := ⟨w.heap.size + 1, 0, none⟩) (Nat.le_succ _) (.int .i64 m)).setCell (p := ⟨w.heap.size + 1, 1, none⟩) (Nat.le_succ _) (.slice a gs.length cap)
    exact bodyPost_ret (v := .tuple #[.agg #[.int .i64 m, .slice a gs.length cap], .int .i64 (y)]) (by simp [results, Try.results71, go_sem, r0, r1]) rfl ⟨gs, _, _, _, rfl, OF, Nat.le_succ _, gb, BF⟩
  have d2 : (x == -1) = false := by simpa using c2
  by_cases c3 : y = 1
  · subst c3
    clear n1 n4
    go_wp2_with fail
    have Af := (A6.set0 (.int .i64 m)).set1 (.slice a gs.length cap)
    obtain ⟨r0, r1, _⟩ := Af.cells
    have OF := own_setCell (own_setCell (OW.out) (p := ⟨w.heap.size + 1, 0, none⟩) (hne6.out) (.int .i64 m)) (p := ⟨w.heap.size + 1, 1, none⟩) (hne6.out) (.slice a gs.length cap)
    have BF := (BW.setCell (p := ⟨w.heap.size + 1, 0, none⟩) (Nat.le_succ _) (.int .i64 m)).setCell (p := ⟨w.heap.size + 1, 1, none⟩) (Nat.le_succ _) (.slice a gs.length cap)
    exact bodyPost_ret (v := .tuple #[.agg #[.int .i64 m, .slice a gs.length cap], .int .i64 (-x)]) (by simp [results, Try.results71, go_sem, r0, r1]) rfl ⟨gs, _, _, _, rfl, OF, Nat.le_succ _, gb, BF⟩
  have d3 : (y == 1) = false := by simpa using c3
  by_cases c4 : y = -1
  · subst c4
    clear n1 n4 d3
    go_wp2_with fail
    have Af := (A6.set0 (.int .i64 m)).set1 (.slice a gs.length cap)
    obtain ⟨r0, r1, _⟩ := Af.cells
    have OF := own_setCell (own_setCell (OW.out) (p := ⟨w.heap.size + 1, 0, none⟩) (hne6.out) (.int .i64 m)) (p := ⟨w.heap.size + 1, 1, none⟩) (hne6.out) (.slice a gs.length cap)
    have BF := (BW.setCell (p := ⟨w.heap.size + 1, 0, none⟩) (Nat.le_succ _) (.int .i64 m)).setCell (p := ⟨w.heap.size + 1, 1, none⟩) (Nat.le_succ _) (.slice a gs.length cap)
    exact bodyPost_ret (v := .tuple #[.agg #[.int .i64 m, .slice a gs.length cap], .int .i64 (x)]) (by simp [results, Try.results71, go_sem, r0, r1]) rfl ⟨gs, _, _, _, rfl, OF, Nat.le_succ _, gb, BF⟩
  have d4 : (y == -1) = false := by simpa using c4
  by_cases c5 : x = y
  · subst c5
    go_wp2_with fail
    have Af := (A6.set0 (.int .i64 m)).set1 (.slice a gs.length cap)
    obtain ⟨r0, r1, _⟩ := Af.cells
    have OF := own_setCell (own_setCell (OW.out) (p := ⟨w.heap.size + 1, 0, none⟩) (hne6.out) (.int .i64 m)) (p := ⟨w.heap.size + 1, 1, none⟩) (hne6.out) (.slice a gs.length cap)
    have BF := (BW.setCell (p := ⟨w.heap.size + 1, 0, none⟩) (Nat.le_succ _) (.int .i64 m)).setCell (p := ⟨w.heap.size + 1, 1, none⟩) (Nat.le_succ _) (.slice a gs.length cap)
    exact bodyPost_ret (v := .tuple #[.agg #[.int .i64 m, .slice a gs.length cap], .int .i64 (-1)]) (by simp [results, Try.results71, go_sem, r0, r1]) rfl ⟨gs, _, _, _, rfl, OF, Nat.le_succ _, gb, BF⟩
  have d5 : (x == y) = false := by simpa using c5
  by_cases c6 : x = -y
  · have d6 : (x == -y) = true := by simpa using c6
    clear c6
    go_wp2_with fail
    have Af := (A6.set0 (.int .i64 m)).set1 (.slice a gs.length cap)
    obtain ⟨r0, r1, _⟩ := Af.cells
    have OF := own_setCell (own_setCell (OW.out) (p := ⟨w.heap.size + 1, 0, none⟩) (hne6.out) (.int .i64 m)) (p := ⟨w.heap.size + 1, 1, none⟩) (hne6.out) (.slice a gs.length cap)
    have BF := (BW.setCell (p := ⟨w.heap.size + 1, 0, none⟩) (Nat.le_succ _) (.int .i64 m)).setCell (p := ⟨w.heap.size + 1, 1, none⟩) (Nat.le_succ _) (.slice a gs.length cap)
    exact bodyPost_ret (v := .tuple #[.agg #[.int .i64 m, .slice a gs.length cap], .int .i64 (1)]) (by simp [results, Try.results71, go_sem, r0, r1]) rfl ⟨gs, _, _, _, rfl, OF, Nat.le_succ _, gb, BF⟩
  have d6 : (x == -y) = false := by simpa using c6
  clear c1 c2 c3 c4 c5 c6
  have CX := Lib.hid (fun w' => absS_any x w' (by omega) (by omega)); have CY := Lib.hid (fun w' => absS_any y w' (by omega) (by omega))
  have bx := Lib.hid (mabs_in x0 x1); have by' := Lib.hid (mabs_in y0 y1)
  generalize mabs x = ax at *
  generalize mabs y = ay at *
  by_cases e1 : x < 0
  · by_cases e2 : y < 0
    · go_wp2_with fail
      refine (CX.out _).mono ?_; rintro e w2 ⟨rfl, q2, rfl⟩
      go_wp2_with fail
      refine (CY.out _).mono ?_; rintro e w3 ⟨rfl, q3, rfl⟩
      by_cases c7 : ay < ax
      · go_wp2_with fail
        refine (CY.out _).mono ?_; rintro e w4 ⟨rfl, q4, rfl⟩
        go_wp2_with fail
        refine (CX.out _).mono ?_; rintro e w41 ⟨rfl, q41, rfl⟩
        clear CX CY
        go_wp2_with fail
        refine (OC.out true ay ax (W.drewN (q2 + q3 + q4 + q41)) OW.out (by show B ≤ W.heap.size; omega)).mono ?_
        rintro e w5 ⟨gs', a', c', k, rfl, own5, hor, k0, k1, hap, hb5⟩
        have A65 := (A6.drewN (q2 + q3 + q4 + q41)).keep hb5
        have hne5 : (Value.slice a' gs'.length c').ownBlock ≠ some (w.heap.size + 1) := fun e => by
          rcases hap _ e with h | h
          · have := hlt6.out _ h; omega
          · have h2 : W.heap.size ≤ w.heap.size + 1 := h
            omega
        have B5 := below_two (below_drewN BW (q2 + q3 + q4 + q41)) hb5
        have A66 := A65.alloc (.cells #[.int .i64 m, .slice a' gs'.length c'] 39)
        have own6 := own5.alloc (.cells #[.int .i64 m, .slice a' gs'.length c'] 39)
        have B6 := below_step B5 (.cells #[.int .i64 m, .slice a' gs'.length c'] 39)
        clear C0 C1 E0 E1 F0 F1
        obtain ⟨E0, E1, _⟩ := A66.cells; obtain ⟨F0, F1⟩ := A66.frozen
        have m1 : IntKind.i64.wrap (-k) = -k := IntWalk.i64_in _ (by omega)
        have m2 : IntKind.i64.wrap k = k := IntWalk.i64_in _ (by omega)
        have hne66 : ¬ w.heap.size + 1 = w5.heap.size := by have := A65.lt; omega
        go_wp2_with fail
        have Af := (A66.set0 (.int .i64 m)).set1 (.slice a' gs'.length c')
        obtain ⟨r0, r1, _⟩ := Af.cells
        have OF := own_setCell (own_setCell (own6) (p := ⟨w.heap.size + 1, 0, none⟩) (hne5) (.int .i64 m)) (p := ⟨w.heap.size + 1, 1, none⟩) (hne5) (.slice a' gs'.length c')
        have BF := (B6.setCell (p := ⟨w.heap.size + 1, 0, none⟩) (Nat.le_succ _) (.int .i64 m)).setCell (p := ⟨w.heap.size + 1, 1, none⟩) (Nat.le_succ _) (.slice a' gs'.length c')
        exact bodyPost_ret (v := .tuple #[.agg #[.int .i64 m, .slice a' gs'.length c'], .int .i64 (k)]) (by simp [results, Try.results71, go_sem, r0, r1]) rfl ⟨gs', _, _, _, rfl, OF, put_len hor, put_gb hor gb ⟨by have := by'.out.1; dsimp only; omega, by have := by'.out.2; exact this, by have := bx.out.1; dsimp only; omega, by have := bx.out.2; exact this⟩, BF⟩
      · have d7 : decide (ay < ax) = false := by simpa using c7
        clear CX CY
        go_wp2_with fail
        refine (OC.out true ax ay (W.drewN (q2 + q3)) OW.out (by show B ≤ W.heap.size; omega)).mono ?_
        rintro e w5 ⟨gs', a', c', k, rfl, own5, hor, k0, k1, hap, hb5⟩
        have A65 := (A6.drewN (q2 + q3)).keep hb5
        have hne5 : (Value.slice a' gs'.length c').ownBlock ≠ some (w.heap.size + 1) := fun e => by
          rcases hap _ e with h | h
          · have := hlt6.out _ h; omega
          · have h2 : W.heap.size ≤ w.heap.size + 1 := h
            omega
        have B5 := below_two (below_drewN BW (q2 + q3)) hb5
        have A66 := A65.alloc (.cells #[.int .i64 m, .slice a' gs'.length c'] 39)
        have own6 := own5.alloc (.cells #[.int .i64 m, .slice a' gs'.length c'] 39)
        have B6 := below_step B5 (.cells #[.int .i64 m, .slice a' gs'.length c'] 39)
        clear C0 C1 E0 E1 F0 F1
        obtain ⟨E0, E1, _⟩ := A66.cells; obtain ⟨F0, F1⟩ := A66.frozen
        have m1 : IntKind.i64.wrap (-k) = -k := IntWalk.i64_in _ (by omega)
        have m2 : IntKind.i64.wrap k = k := IntWalk.i64_in _ (by omega)
        have hne66 : ¬ w.heap.size + 1 = w5.heap.size := by have := A65.lt; omega
        go_wp2_with fail
        have Af := (A66.set0 (.int .i64 m)).set1 (.slice a' gs'.length c')
        obtain ⟨r0, r1, _⟩ := Af.cells
        have OF := own_setCell (own_setCell (own6) (p := ⟨w.heap.size + 1, 0, none⟩) (hne5) (.int .i64 m)) (p := ⟨w.heap.size + 1, 1, none⟩) (hne5) (.slice a' gs'.length c')
        have BF := (B6.setCell (p := ⟨w.heap.size + 1, 0, none⟩) (Nat.le_succ _) (.int .i64 m)).setCell (p := ⟨w.heap.size + 1, 1, none⟩) (Nat.le_succ _) (.slice a' gs'.length c')
        exact bodyPost_ret (v := .tuple #[.agg #[.int .i64 m, .slice a' gs'.length c'], .int .i64 (k)]) (by simp [results, Try.results71, go_sem, r0, r1]) rfl ⟨gs', _, _, _, rfl, OF, put_len hor, put_gb hor gb ⟨by have := bx.out.1; dsimp only; omega, by have := bx.out.2; exact this, by have := by'.out.1; dsimp only; omega, by have := by'.out.2; exact this⟩, BF⟩
    · have g2 : decide (y < 0) = false := by simpa using e2
      go_wp2_with fail
      refine (CX.out _).mono ?_; rintro e w2 ⟨rfl, q2, rfl⟩
      go_wp2_with fail
      refine (CY.out _).mono ?_; rintro e w3 ⟨rfl, q3, rfl⟩
      by_cases c7 : ay < ax
      · go_wp2_with fail
        refine (CY.out _).mono ?_; rintro e w4 ⟨rfl, q4, rfl⟩
        go_wp2_with fail
        refine (CX.out _).mono ?_; rintro e w41 ⟨rfl, q41, rfl⟩
        clear CX CY
        go_wp2_with fail
        refine (OC.out true ay ax (W.drewN (q2 + q3 + q4 + q41)) OW.out (by show B ≤ W.heap.size; omega)).mono ?_
        rintro e w5 ⟨gs', a', c', k, rfl, own5, hor, k0, k1, hap, hb5⟩
        have A65 := (A6.drewN (q2 + q3 + q4 + q41)).keep hb5
        have hne5 : (Value.slice a' gs'.length c').ownBlock ≠ some (w.heap.size + 1) := fun e => by
          rcases hap _ e with h | h
          · have := hlt6.out _ h; omega
          · have h2 : W.heap.size ≤ w.heap.size + 1 := h
            omega
        have B5 := below_two (below_drewN BW (q2 + q3 + q4 + q41)) hb5
        have A66 := A65.alloc (.cells #[.int .i64 m, .slice a' gs'.length c'] 39)
        have own6 := own5.alloc (.cells #[.int .i64 m, .slice a' gs'.length c'] 39)
        have B6 := below_step B5 (.cells #[.int .i64 m, .slice a' gs'.length c'] 39)
        clear C0 C1 E0 E1 F0 F1
        obtain ⟨E0, E1, _⟩ := A66.cells; obtain ⟨F0, F1⟩ := A66.frozen
        have m1 : IntKind.i64.wrap (-k) = -k := IntWalk.i64_in _ (by omega)
        have m2 : IntKind.i64.wrap k = k := IntWalk.i64_in _ (by omega)
        have hne66 : ¬ w.heap.size + 1 = w5.heap.size := by have := A65.lt; omega
        go_wp2_with fail
        have Af := (A66.set0 (.int .i64 m)).set1 (.slice a' gs'.length c')
        obtain ⟨r0, r1, _⟩ := Af.cells
        have OF := own_setCell (own_setCell (own6) (p := ⟨w.heap.size + 1, 0, none⟩) (hne5) (.int .i64 m)) (p := ⟨w.heap.size + 1, 1, none⟩) (hne5) (.slice a' gs'.length c')
        have BF := (B6.setCell (p := ⟨w.heap.size + 1, 0, none⟩) (Nat.le_succ _) (.int .i64 m)).setCell (p := ⟨w.heap.size + 1, 1, none⟩) (Nat.le_succ _) (.slice a' gs'.length c')
        exact bodyPost_ret (v := .tuple #[.agg #[.int .i64 m, .slice a' gs'.length c'], .int .i64 (-k)]) (by simp [results, Try.results71, go_sem, r0, r1]) rfl ⟨gs', _, _, _, rfl, OF, put_len hor, put_gb hor gb ⟨by have := by'.out.1; dsimp only; omega, by have := by'.out.2; exact this, by have := bx.out.1; dsimp only; omega, by have := bx.out.2; exact this⟩, BF⟩
      · have d7 : decide (ay < ax) = false := by simpa using c7
        clear CX CY
        go_wp2_with fail
        refine (OC.out true ax ay (W.drewN (q2 + q3)) OW.out (by show B ≤ W.heap.size; omega)).mono ?_
        rintro e w5 ⟨gs', a', c', k, rfl, own5, hor, k0, k1, hap, hb5⟩
        have A65 := (A6.drewN (q2 + q3)).keep hb5
        have hne5 : (Value.slice a' gs'.length c').ownBlock ≠ some (w.heap.size + 1) := fun e => by
          rcases hap _ e with h | h
          · have := hlt6.out _ h; omega
          · have h2 : W.heap.size ≤ w.heap.size + 1 := h
            omega
        have B5 := below_two (below_drewN BW (q2 + q3)) hb5
        have A66 := A65.alloc (.cells #[.int .i64 m, .slice a' gs'.length c'] 39)
        have own6 := own5.alloc (.cells #[.int .i64 m, .slice a' gs'.length c'] 39)
        have B6 := below_step B5 (.cells #[.int .i64 m, .slice a' gs'.length c'] 39)
        clear C0 C1 E0 E1 F0 F1
        obtain ⟨E0, E1, _⟩ := A66.cells; obtain ⟨F0, F1⟩ := A66.frozen
        have m1 : IntKind.i64.wrap (-k) = -k := IntWalk.i64_in _ (by omega)
        have m2 : IntKind.i64.wrap k = k := IntWalk.i64_in _ (by omega)
        have hne66 : ¬ w.heap.size + 1 = w5.heap.size := by have := A65.lt; omega
        go_wp2_with fail
        have Af := (A66.set0 (.int .i64 m)).set1 (.slice a' gs'.length c')
        obtain ⟨r0, r1, _⟩ := Af.cells
        have OF := own_setCell (own_setCell (own6) (p := ⟨w.heap.size + 1, 0, none⟩) (hne5) (.int .i64 m)) (p := ⟨w.heap.size + 1, 1, none⟩) (hne5) (.slice a' gs'.length c')
        have BF := (B6.setCell (p := ⟨w.heap.size + 1, 0, none⟩) (Nat.le_succ _) (.int .i64 m)).setCell (p := ⟨w.heap.size + 1, 1, none⟩) (Nat.le_succ _) (.slice a' gs'.length c')
        exact bodyPost_ret (v := .tuple #[.agg #[.int .i64 m, .slice a' gs'.length c'], .int .i64 (-k)]) (by simp [results, Try.results71, go_sem, r0, r1]) rfl ⟨gs', _, _, _, rfl, OF, put_len hor, put_gb hor gb ⟨by have := bx.out.1; dsimp only; omega, by have := bx.out.2; exact this, by have := by'.out.1; dsimp only; omega, by have := by'.out.2; exact this⟩, BF⟩
  · have g1 : decide (x < 0) = false := by simpa using e1
    by_cases e2 : y < 0
    · go_wp2_with fail
      refine (CX.out _).mono ?_; rintro e w2 ⟨rfl, q2, rfl⟩
      go_wp2_with fail
      refine (CY.out _).mono ?_; rintro e w3 ⟨rfl, q3, rfl⟩
      by_cases c7 : ay < ax
      · go_wp2_with fail
        refine (CY.out _).mono ?_; rintro e w4 ⟨rfl, q4, rfl⟩
        go_wp2_with fail
        refine (CX.out _).mono ?_; rintro e w41 ⟨rfl, q41, rfl⟩
        clear CX CY
        go_wp2_with fail
        refine (OC.out true ay ax (W.drewN (q2 + q3 + q4 + q41)) OW.out (by show B ≤ W.heap.size; omega)).mono ?_
        rintro e w5 ⟨gs', a', c', k, rfl, own5, hor, k0, k1, hap, hb5⟩
        have A65 := (A6.drewN (q2 + q3 + q4 + q41)).keep hb5
        have hne5 : (Value.slice a' gs'.length c').ownBlock ≠ some (w.heap.size + 1) := fun e => by
          rcases hap _ e with h | h
          · have := hlt6.out _ h; omega
          · have h2 : W.heap.size ≤ w.heap.size + 1 := h
            omega
        have B5 := below_two (below_drewN BW (q2 + q3 + q4 + q41)) hb5
        have A66 := A65.alloc (.cells #[.int .i64 m, .slice a' gs'.length c'] 39)
        have own6 := own5.alloc (.cells #[.int .i64 m, .slice a' gs'.length c'] 39)
        have B6 := below_step B5 (.cells #[.int .i64 m, .slice a' gs'.length c'] 39)
        clear C0 C1 E0 E1 F0 F1
        obtain ⟨E0, E1, _⟩ := A66.cells; obtain ⟨F0, F1⟩ := A66.frozen
        have m1 : IntKind.i64.wrap (-k) = -k := IntWalk.i64_in _ (by omega)
        have m2 : IntKind.i64.wrap k = k := IntWalk.i64_in _ (by omega)
        have hne66 : ¬ w.heap.size + 1 = w5.heap.size := by have := A65.lt; omega
        go_wp2_with fail
        have Af := (A66.set0 (.int .i64 m)).set1 (.slice a' gs'.length c')
        obtain ⟨r0, r1, _⟩ := Af.cells
        have OF := own_setCell (own_setCell (own6) (p := ⟨w.heap.size + 1, 0, none⟩) (hne5) (.int .i64 m)) (p := ⟨w.heap.size + 1, 1, none⟩) (hne5) (.slice a' gs'.length c')
        have BF := (B6.setCell (p := ⟨w.heap.size + 1, 0, none⟩) (Nat.le_succ _) (.int .i64 m)).setCell (p := ⟨w.heap.size + 1, 1, none⟩) (Nat.le_succ _) (.slice a' gs'.length c')
        exact bodyPost_ret (v := .tuple #[.agg #[.int .i64 m, .slice a' gs'.length c'], .int .i64 (-k)]) (by simp [results, Try.results71, go_sem, r0, r1]) rfl ⟨gs', _, _, _, rfl, OF, put_len hor, put_gb hor gb ⟨by have := by'.out.1; dsimp only; omega, by have := by'.out.2; exact this, by have := bx.out.1; dsimp only; omega, by have := bx.out.2; exact this⟩, BF⟩
      · have d7 : decide (ay < ax) = false := by simpa using c7
        clear CX CY
        go_wp2_with fail
        refine (OC.out true ax ay (W.drewN (q2 + q3)) OW.out (by show B ≤ W.heap.size; omega)).mono ?_
        rintro e w5 ⟨gs', a', c', k, rfl, own5, hor, k0, k1, hap, hb5⟩
        have A65 := (A6.drewN (q2 + q3)).keep hb5
        have hne5 : (Value.slice a' gs'.length c').ownBlock ≠ some (w.heap.size + 1) := fun e => by
          rcases hap _ e with h | h
          · have := hlt6.out _ h; omega
          · have h2 : W.heap.size ≤ w.heap.size + 1 := h
            omega
        have B5 := below_two (below_drewN BW (q2 + q3)) hb5
        have A66 := A65.alloc (.cells #[.int .i64 m, .slice a' gs'.length c'] 39)
        have own6 := own5.alloc (.cells #[.int .i64 m, .slice a' gs'.length c'] 39)
        have B6 := below_step B5 (.cells #[.int .i64 m, .slice a' gs'.length c'] 39)
        clear C0 C1 E0 E1 F0 F1
        obtain ⟨E0, E1, _⟩ := A66.cells; obtain ⟨F0, F1⟩ := A66.frozen
        have m1 : IntKind.i64.wrap (-k) = -k := IntWalk.i64_in _ (by omega)
        have m2 : IntKind.i64.wrap k = k := IntWalk.i64_in _ (by omega)
        have hne66 : ¬ w.heap.size + 1 = w5.heap.size := by have := A65.lt; omega
        go_wp2_with fail
        have Af := (A66.set0 (.int .i64 m)).set1 (.slice a' gs'.length c')
        obtain ⟨r0, r1, _⟩ := Af.cells
        have OF := own_setCell (own_setCell (own6) (p := ⟨w.heap.size + 1, 0, none⟩) (hne5) (.int .i64 m)) (p := ⟨w.heap.size + 1, 1, none⟩) (hne5) (.slice a' gs'.length c')
        have BF := (B6.setCell (p := ⟨w.heap.size + 1, 0, none⟩) (Nat.le_succ _) (.int .i64 m)).setCell (p := ⟨w.heap.size + 1, 1, none⟩) (Nat.le_succ _) (.slice a' gs'.length c')
        exact bodyPost_ret (v := .tuple #[.agg #[.int .i64 m, .slice a' gs'.length c'], .int .i64 (-k)]) (by simp [results, Try.results71, go_sem, r0, r1]) rfl ⟨gs', _, _, _, rfl, OF, put_len hor, put_gb hor gb ⟨by have := bx.out.1; dsimp only; omega, by have := bx.out.2; exact this, by have := by'.out.1; dsimp only; omega, by have := by'.out.2; exact this⟩, BF⟩
    · have g2 : decide (y < 0) = false := by simpa using e2
      go_wp2_with fail
      refine (CX.out _).mono ?_; rintro e w2 ⟨rfl, q2, rfl⟩
      go_wp2_with fail
      refine (CY.out _).mono ?_; rintro e w3 ⟨rfl, q3, rfl⟩
      by_cases c7 : ay < ax
      · go_wp2_with fail
        refine (CY.out _).mono ?_; rintro e w4 ⟨rfl, q4, rfl⟩
        go_wp2_with fail
        refine (CX.out _).mono ?_; rintro e w41 ⟨rfl, q41, rfl⟩
        clear CX CY
        go_wp2_with fail
        refine (OC.out true ay ax (W.drewN (q2 + q3 + q4 + q41)) OW.out (by show B ≤ W.heap.size; omega)).mono ?_
        rintro e w5 ⟨gs', a', c', k, rfl, own5, hor, k0, k1, hap, hb5⟩
        have A65 := (A6.drewN (q2 + q3 + q4 + q41)).keep hb5
        have hne5 : (Value.slice a' gs'.length c').ownBlock ≠ some (w.heap.size + 1) := fun e => by
          rcases hap _ e with h | h
          · have := hlt6.out _ h; omega
          · have h2 : W.heap.size ≤ w.heap.size + 1 := h
            omega
        have B5 := below_two (below_drewN BW (q2 + q3 + q4 + q41)) hb5
        have A66 := A65.alloc (.cells #[.int .i64 m, .slice a' gs'.length c'] 39)
        have own6 := own5.alloc (.cells #[.int .i64 m, .slice a' gs'.length c'] 39)
        have B6 := below_step B5 (.cells #[.int .i64 m, .slice a' gs'.length c'] 39)
        clear C0 C1 E0 E1 F0 F1
        obtain ⟨E0, E1, _⟩ := A66.cells; obtain ⟨F0, F1⟩ := A66.frozen
        have m1 : IntKind.i64.wrap (-k) = -k := IntWalk.i64_in _ (by omega)
        have m2 : IntKind.i64.wrap k = k := IntWalk.i64_in _ (by omega)
        have hne66 : ¬ w.heap.size + 1 = w5.heap.size := by have := A65.lt; omega
        go_wp2_with fail
        have Af := (A66.set0 (.int .i64 m)).set1 (.slice a' gs'.length c')
        obtain ⟨r0, r1, _⟩ := Af.cells
        have OF := own_setCell (own_setCell (own6) (p := ⟨w.heap.size + 1, 0, none⟩) (hne5) (.int .i64 m)) (p := ⟨w.heap.size + 1, 1, none⟩) (hne5) (.slice a' gs'.length c')
        have BF := (B6.setCell (p := ⟨w.heap.size + 1, 0, none⟩) (Nat.le_succ _) (.int .i64 m)).setCell (p := ⟨w.heap.size + 1, 1, none⟩) (Nat.le_succ _) (.slice a' gs'.length c')
        exact bodyPost_ret (v := .tuple #[.agg #[.int .i64 m, .slice a' gs'.length c'], .int .i64 (k)]) (by simp [results, Try.results71, go_sem, r0, r1]) rfl ⟨gs', _, _, _, rfl, OF, put_len hor, put_gb hor gb ⟨by have := by'.out.1; dsimp only; omega, by have := by'.out.2; exact this, by have := bx.out.1; dsimp only; omega, by have := bx.out.2; exact this⟩, BF⟩
      · have d7 : decide (ay < ax) = false := by simpa using c7
        clear CX CY
        go_wp2_with fail
        refine (OC.out true ax ay (W.drewN (q2 + q3)) OW.out (by show B ≤ W.heap.size; omega)).mono ?_
        rintro e w5 ⟨gs', a', c', k, rfl, own5, hor, k0, k1, hap, hb5⟩
        have A65 := (A6.drewN (q2 + q3)).keep hb5
        have hne5 : (Value.slice a' gs'.length c').ownBlock ≠ some (w.heap.size + 1) := fun e => by
          rcases hap _ e with h | h
          · have := hlt6.out _ h; omega
          · have h2 : W.heap.size ≤ w.heap.size + 1 := h
            omega
        have B5 := below_two (below_drewN BW (q2 + q3)) hb5
        have A66 := A65.alloc (.cells #[.int .i64 m, .slice a' gs'.length c'] 39)
        have own6 := own5.alloc (.cells #[.int .i64 m, .slice a' gs'.length c'] 39)
        have B6 := below_step B5 (.cells #[.int .i64 m, .slice a' gs'.length c'] 39)
        clear C0 C1 E0 E1 F0 F1
        obtain ⟨E0, E1, _⟩ := A66.cells; obtain ⟨F0, F1⟩ := A66.frozen
        have m1 : IntKind.i64.wrap (-k) = -k := IntWalk.i64_in _ (by omega)
        have m2 : IntKind.i64.wrap k = k := IntWalk.i64_in _ (by omega)
        have hne66 : ¬ w.heap.size + 1 = w5.heap.size := by have := A65.lt; omega
        go_wp2_with fail
        have Af := (A66.set0 (.int .i64 m)).set1 (.slice a' gs'.length c')
        obtain ⟨r0, r1, _⟩ := Af.cells
        have OF := own_setCell (own_setCell (own6) (p := ⟨w.heap.size + 1, 0, none⟩) (hne5) (.int .i64 m)) (p := ⟨w.heap.size + 1, 1, none⟩) (hne5) (.slice a' gs'.length c')
        have BF := (B6.setCell (p := ⟨w.heap.size + 1, 0, none⟩) (Nat.le_succ _) (.int .i64 m)).setCell (p := ⟨w.heap.size + 1, 1, none⟩) (Nat.le_succ _) (.slice a' gs'.length c')
        exact bodyPost_ret (v := .tuple #[.agg #[.int .i64 m, .slice a' gs'.length c'], .int .i64 (k)]) (by simp [results, Try.results71, go_sem, r0, r1]) rfl ⟨gs', _, _, _, rfl, OF, put_len hor, put_gb hor gb ⟨by have := bx.out.1; dsimp only; omega, by have := bx.out.2; exact this, by have := by'.out.1; dsimp only; omega, by have := by'.out.2; exact this⟩, BF⟩
end Go.Proofs.Yteeaafdgkepaeaa
