/- Draws of nets: a net that is bent a little. The conditions stand in each statement. -/
import Derived.Test.YteeaafdgkepaeaaHd
namespace Go.Proofs.Yteeaafdgkepaeaa
open Go.RowKit

theorem gflat_set0 : ∀ (gs : List Gt) (k : Nat) (x : Bool), k < gs.length → (gflat gs).set (k * 3) (.bool x) = gflat (gs.set k (x, (gs.getD k gz).2.1, (gs.getD k gz).2.2))
  | [], _, _, h => absurd h (Nat.not_lt_zero _)
  | g :: gs, 0, x, _ => rfl
  | g :: gs, k + 1, x, h => by
    have := gflat_set0 gs k x (by simpa using h)
    rw [show (k + 1) * 3 = k * 3 + 1 + 1 + 1 by omega]
    simp only [gflat, List.set_cons_succ, List.getD_cons_succ]
    rw [this]
theorem gflat_set1 : ∀ (gs : List Gt) (k : Nat) (x : Int), k < gs.length → (gflat gs).set (k * 3 + 1) (.int .i64 x) = gflat (gs.set k ((gs.getD k gz).1, x, (gs.getD k gz).2.2))
  | [], _, _, h => absurd h (Nat.not_lt_zero _)
  | g :: gs, 0, x, _ => rfl
  | g :: gs, k + 1, x, h => by
    have := gflat_set1 gs k x (by simpa using h)
    rw [show (k + 1) * 3 + 1 = (k * 3 + 1) + 1 + 1 + 1 by omega]
    simp only [gflat, List.set_cons_succ, List.getD_cons_succ]
    rw [this]
theorem gflat_set2 : ∀ (gs : List Gt) (k : Nat) (x : Int), k < gs.length → (gflat gs).set (k * 3 + 2) (.int .i64 x) = gflat (gs.set k ((gs.getD k gz).1, (gs.getD k gz).2.1, x))
  | [], _, _, h => absurd h (Nat.not_lt_zero _)
  | g :: gs, 0, x, _ => rfl
  | g :: gs, k + 1, x, h => by
    have := gflat_set2 gs k x (by simpa using h)
    rw [show (k + 1) * 3 + 2 = (k * 3 + 2) + 1 + 1 + 1 by omega]
    simp only [gflat, List.set_cons_succ, List.getD_cons_succ]
    rw [this]
def WfG (gs : List Gt) : Prop := ∀ i, i < gs.length → gtWf (gs.getD i gz)
def In64 (x : Int) : Prop := -9223372036854775808 ≤ x ∧ x ≤ 9223372036854775807
theorem wf_in {x : Int} (h : In64 x) : (Lit.int .i64 x).wf = true := by
  have e1 : IntKind.i64.min = -9223372036854775808 := rfl
  have e2 : IntKind.i64.max = 9223372036854775807 := rfl
  obtain ⟨h0, h1⟩ := h
  simp [Lit.wf, e1, e2]; omega
theorem WfG.snoc {gs : List Gt} {g : Gt} (h : WfG gs) (hg : gtWf g) : WfG (gs ++ [g]) := fun i hi => by
  by_cases h1 : i < gs.length
  · rw [snocG_lt h1]; exact h i h1
  · have : i = gs.length := by simp at hi; omega
    subst this; rw [snocG_at]; exact hg
theorem WfG.set {gs : List Gt} {k : Nat} {g : Gt} (h : WfG gs) (hg : gtWf g) : WfG (gs.set k g) := fun i hi => by
  rw [List.length_set] at hi
  by_cases h1 : k = i
  · subst h1
    have : (gs.set k g).getD k gz = g := by simp [List.getD_eq_getElem?_getD, hi]
    rw [this]; exact hg
  · have : (gs.set k g).getD i gz = gs.getD i gz := by simp [List.getD_eq_getElem?_getD, List.getElem?_set_ne h1]
    rw [this]; exact h i hi
def BentN (g : Nat) (u : Value) (P : Nat) (m : Int) (gs : List Gt) (w : World) (e : Ending) (w' : World) : Prop :=
  ∃ (m' : Int) (gs' : List Gt) (a : Option Addr) (c : Nat), e = .returned (.agg #[.int .i64 m', .slice a gs'.length c]) ∧ -1 ≤ m' ∧ (m' ≤ 9 ∨ m' ≤ m + 1) ∧ OwnG w' w.heap.size (.slice a gs'.length c) gs' ∧ WfG gs' ∧ gs'.length ≤ gs.length + 1 ∧ w.grownBy w' (some g) ∧ RdOk w' g u P

set_option linter.unusedVariables false in
set_option maxRecDepth 100000 in
set_option maxHeartbeats 16000000 in
theorem l6Bent_any (g P : Nat) (u : Value) (m : Int) (v : Value) (gs : List Gt) (w : World) (hr : RdOk w g u P) (hP : P ≤ 800000) (h : Gates w v gs) (hv : NilOrB v) (m0 : -1 ≤ m) (m1 : m ≤ 30) (hl : gs.length ≤ 300) (wf : WfG gs) :
    Calls Try.prog 53 #[.pointer (some ⟨g, 0, none⟩), .agg #[.int .i64 m, v]] w (BentN g u (P + 3) m gs w) := by
  obtain ⟨i0, hi, hz0, hz1, hz2⟩ := info_parts infoGate
  have gl := hr.lt
  have HWF := Lib.hid wf
  clear wf
  obtain ⟨va, vc, rfl⟩ := h.form
  have FR := Lib.hid (fun w' (h' : Gates w' (.slice va gs.length vc) gs) => l6Fresh_any m _ gs w' h' hv (by omega))
  have BW := below_step (below_self_alloc w (.cells #[.int .i64 m, .slice va gs.length vc] 39)) (.cells #[.int .i64 0, .slice none 0 0] 39)
  have A3 : Blk ((w.alloc (.cells #[.int .i64 m, .slice va gs.length vc] 39)).alloc (.cells #[.int .i64 0, .slice none 0 0] 39)) w.heap.size (.int .i64 m) (.slice va gs.length vc) 39 := (blk_new w _ _ _).alloc _
  have A4 : Blk ((w.alloc (.cells #[.int .i64 m, .slice va gs.length vc] 39)).alloc (.cells #[.int .i64 0, .slice none 0 0] 39)) (w.heap.size + 1) (.int .i64 0) (.slice none 0 0) 39 := blk_new1 w _ _ _ _
  have R := (hr.alloc (.cells #[.int .i64 m, .slice va gs.length vc] 39)).alloc (.cells #[.int .i64 0, .slice none 0 0] 39)
  have G := grown_alloc (World.grownBy_alloc w (.cells #[.int .i64 m, .slice va gs.length vc] 39) (some g)) (.cells #[.int .i64 0, .slice none 0 0] 39)
  replace h := h.below BW
  obtain ⟨C0, C1, _⟩ := A3.cells
  go_enter Try.func53, Try.ntmps53
  go_wp2_with fail
  refine (FR.out _ h).mono ?_
  rintro e w2 ⟨a, c, rfl, own2, hb2⟩
  have own : OwnG w2 (w.heap.size + 2) (.slice a gs.length c) gs := own2.le (by simp)
  replace A4 := A4.keep hb2; replace R := R.below hb2; replace G := grown_below G hb2
  have hlt : ∀ q, (Value.slice a gs.length c).ownBlock = some q → q < w2.heap.size := fun q e => (own.lt q e).2
  have hs2 : w.heap.size + 1 < w2.heap.size := A4.lt
  clear FR BW A3 h hv hb2 own2 C0 C1
  have A5 := blk_new w2 (.int .i64 m) (.slice a gs.length c) 39
  replace A4 := A4.alloc (.cells #[.int .i64 m, .slice a gs.length c] 39)
  replace G := grown_alloc G (.cells #[.int .i64 m, .slice a gs.length c] 39)
  replace R := R.alloc (.cells #[.int .i64 m, .slice a gs.length c] 39)
  replace own : OwnG (w2.alloc (.cells #[.int .i64 m, .slice a gs.length c] 39)) (w.heap.size + 2) (.slice a gs.length c) gs := World.ownsRow.alloc own _
  have hne : (Value.slice a gs.length c).ownBlock ≠ some w2.heap.size := fun e => by have := hlt _ e; omega
  replace hne := Lib.hid hne
  clear hlt
  go_wp2_with fail
  refine (pick_any g P u 60 _ R (by omega)).mono ?_
  rintro e w3 ⟨p, rfl, p0, p1, _, hg3, R3⟩
  have A43 := A4.keepG hg3 (by omega); have A53 := A5.keepG hg3 (by omega); have G3 := grown_two G hg3
  have own3 : OwnG w3 (w.heap.size + 2) (.slice a gs.length c) gs := own_grown own hg3 (by omega)
  clear A4 A5 G own R hg3 p1
  have hs3 : w2.heap.size < w3.heap.size := A53.lt
  by_cases c0 : p = 0
  · subst c0
    have hw : IntKind.i64.wrap (m + 1) = m + 1 := IntWalk.i64_in _ (by omega)
    have A47 := A43.alloc (.cells #[.int .i64 (-1), .int .i64 9, .int .i64 (m + 1), .int .i64 0] 3); have A57 := A53.alloc (.cells #[.int .i64 (-1), .int .i64 9, .int .i64 (m + 1), .int .i64 0] 3); have G7 := grown_alloc G3 (.cells #[.int .i64 (-1), .int .i64 9, .int .i64 (m + 1), .int .i64 0] 3); have R7 := R3.alloc (.cells #[.int .i64 (-1), .int .i64 9, .int .i64 (m + 1), .int .i64 0] 3); have own7 : OwnG (w3.alloc (.cells #[.int .i64 (-1), .int .i64 9, .int .i64 (m + 1), .int .i64 0] 3)) (w.heap.size + 2) (.slice a gs.length c) gs := World.ownsRow.alloc own3 _
    obtain ⟨C0, C1, _⟩ := A53.cells
    clear A43 A53 G3 R3 own3
    go_wp2_with fail
    refine (num_in (fun x => -1 ≤ x ∧ (x ≤ 9 ∨ x ≤ m + 1)) g _ u w3.heap.size 4 4 _ R7 (by omega) (by omega) (by omega) (by omega) (new_ints_in w3 (fun x => -1 ≤ x ∧ (x ≤ 9 ∨ x ≤ m + 1)) [-1, 9, m + 1, 0] 3 (by simp; omega))).mono ?_
    rintro e w6 ⟨_, rfl, ⟨x, rfl, x0, x1⟩, hg6, R6⟩
    clear C0 C1
    have A46 := A47.keepG hg6 (by omega); have A56 := A57.keepG hg6 (by omega); have G6 := grown_two G7 hg6
    have own6 : OwnG w6 (w.heap.size + 2) (.slice a gs.length c) gs := own_grown own7 hg6 (by omega)
    clear hg6 A47 A57 G7 R7 own7
    obtain ⟨C0, C1, _⟩ := A56.cells; obtain ⟨F0, F1⟩ := A56.frozen
    have A48 := A46.set_other (p := ⟨w2.heap.size, 0, none⟩) (z := .int .i64 x) (by show w.heap.size + 1 ≠ w2.heap.size; omega)
    have A58 := A56.set0 (.int .i64 x)
    have own8 : OwnG _ (w.heap.size + 2) (.slice a gs.length c) gs := own_setCell own6 (p := ⟨w2.heap.size, 0, none⟩) hne.out (.int .i64 x)
    have G8 := grown_set G6 (p := ⟨w2.heap.size, 0, none⟩) (by show w.heap.size ≤ w2.heap.size; omega) (.int .i64 x)
    have R8 := R6.setNew (q := ⟨w2.heap.size, 0, none⟩) (x := .int .i64 x) hr (by show w.heap.size ≤ w2.heap.size; omega)
    clear A46 A56 own6 G6 R6
    replace own8 := Lib.hid own8; replace G8 := Lib.hid G8; replace R8 := Lib.hid R8
    go_upto_region 20 with fail
    clear C0 C1 F0 F1
    obtain ⟨e0, e1, _⟩ := A58.cells; obtain ⟨e2, e3, _⟩ := A48.cells; obtain ⟨e4, e5⟩ := A48.frozen
    have Af := (A48.set0 (.int .i64 x)).set1 (.slice a gs.length c)
    obtain ⟨r0, r1, _⟩ := Af.cells
    have OF := Go.RowKit.ownsRow_setCell_below (Go.RowKit.ownsRow_setCell_below own8.out (a := ⟨w.heap.size + 1, 0, none⟩) (Nat.lt_succ_self _) (.int .i64 x)) (a := ⟨w.heap.size + 1, 1, none⟩) (Nat.lt_succ_self _) (.slice a gs.length c)
    have GF := grown_set (grown_set G8.out (p := ⟨w.heap.size + 1, 0, none⟩) (Nat.le_succ _) (.int .i64 x)) (p := ⟨w.heap.size + 1, 1, none⟩) (Nat.le_succ _) (.slice a gs.length c)
    have RF := (R8.out.setNew (q := ⟨w.heap.size + 1, 0, none⟩) (x := .int .i64 x) hr (Nat.le_succ _)).setNew (q := ⟨w.heap.size + 1, 1, none⟩) (x := .slice a gs.length c) hr (Nat.le_succ _)
    replace OF := Lib.hid OF; replace GF := Lib.hid GF; replace RF := Lib.hid RF
    clear Af
    go_wp2_with fail
    exact bodyPost_ret (v := .agg #[.int .i64 x, .slice a gs.length c]) (by simp [results, Try.results53, go_sem, r0, r1]) rfl ⟨_, gs, _, _, rfl, x0, x1, Go.Joins.ownsRow_le OF.out (by omega), HWF.out, Nat.le_succ _, GF.out, RF.out.le (by omega)⟩
  have d0 : (p == 0) = false := by simpa using c0
  by_cases c1 : p = 1
  · subst c1
    clear c0
    go_upto_region 7 with fail
    replace A43 := A43.drew; replace A53 := A53.drew; replace G3 := grown_drew G3; replace R3 := R3.drew; replace own3 := ownsRow_drew own3
    refine wp_region_noPanic ?_
    refine wp_regionS 10 (fun wx : World => wx.cell? ⟨w2.heap.size, 0, none⟩ = some (.int .i64 m) ∧ wx.cell? ⟨w2.heap.size, 1, none⟩ = some (.slice a gs.length c)) (by kernel_rfl) (⟨A53.cells.1, A53.cells.2.1⟩) (fun hHeld => ?_)
    refine anyS_take (i := 0) (oi := { dst := some 25, op := Go.Op.fieldAddr 39 (Go.Operand.tmp 5) 1, type := 0, pos := _, after := #[], guard := none }) (v := ?_) rfl (by kernel_rfl) (by kernel_rfl) (by kernel_rfl) (by kernel_rfl) (by kernel_rfl) (fun _ _ _ h => h) (Or.inl ⟨by rfl, ?_⟩) hHeld ?_
    rotate_left
    · (intro wq hSw; (try dsimp only at hSw); (try go_simp); (try with_reducible rfl))
    try simp only [Act.put, List.setIfInBounds_toArray, List.set_cons_zero, List.set_cons_succ]
    refine anyS_take (i := 1) (oi := { dst := some 26, op := Go.Op.load 37 (Go.Operand.tmp 25), type := 37, pos := _, after := #[{ on := 0, ground := Go.Ground.data }], guard := none }) (v := ?_) rfl (by kernel_rfl) (by kernel_rfl) (by kernel_rfl) (by kernel_rfl) (by kernel_rfl) (fun _ _ _ h => h) (Or.inl ⟨by rfl, ?_⟩) hHeld ?_
    rotate_left
    · (intro wq hSw; (try dsimp only at hSw); (try go_simp); (try with_reducible rfl))
    try simp only [Act.put, List.setIfInBounds_toArray, List.set_cons_zero, List.set_cons_succ]
    refine anyS_take (i := 2) (oi := { dst := some 27, op := Go.Op.move (Go.Operand.tmp 0), type := 63, pos := _, after := #[], guard := none }) (v := ?_) rfl (by kernel_rfl) (by kernel_rfl) (by kernel_rfl) (by kernel_rfl) (by kernel_rfl) (fun _ _ _ h => h) (Or.inl ⟨by rfl, ?_⟩) hHeld ?_
    rotate_left
    · (intro wq hSw; (try dsimp only at hSw); (try go_simp); (try with_reducible rfl))
    try simp only [Act.put, List.setIfInBounds_toArray, List.set_cons_zero, List.set_cons_succ]
    refine anyS_take (i := 4) (oi := { dst := some 29, op := Go.Op.move (Go.Operand.tmp 0), type := 63, pos := _, after := #[], guard := none }) (v := ?_) rfl (by kernel_rfl) (by kernel_rfl) (by kernel_rfl) (by kernel_rfl) (by kernel_rfl) (fun _ _ _ h => h) (Or.inl ⟨by rfl, ?_⟩) hHeld ?_
    rotate_left
    · (intro wq hSw; (try dsimp only at hSw); (try go_simp); (try with_reducible rfl))
    try simp only [Act.put, List.setIfInBounds_toArray, List.set_cons_zero, List.set_cons_succ]
    refine anyS_ready (rs := [3]) (by kernel_rfl) (by simp) ?_
    refine readyS_cons (o := { dst := some 28, op := Go.Op.call { callee := Go.Callee.value (Go.Operand.func 40), args := #[Go.Operand.tmp 27, Go.Operand.const (Go.Value.int Go.IntKind.i64 4)], argTypes := #[63, 3] }, type := 3, pos := _, after := #[{ on := 2, ground := Go.Ground.data }], guard := none }) rfl (fun KK hKK => ?_) (readyS_nil)
    go_simp
    go_at_call 40
    refine (pick_any g _ u 4 _ R3 (by omega)).mono ?_
    rintro e w31 ⟨x, rfl, x0, x1, _, hg, R31⟩
    have A431 := A43.keepG hg (by omega); have A531 := A53.keepG hg (by omega); have G31 := grown_two G3 hg; have own31 : OwnG w31 (w.heap.size + 2) (.slice a gs.length c) gs := own_grown own3 hg (by omega)
    clear hg A43 A53 G3 R3 own3
    have x2 := x1 (by decide)
    clear x1
    try go_simp
    refine hKK.out _ _ (⟨A531.cells.1, A531.cells.2.1⟩) (fun hHeld => ?_)
    clear hKK KK
    try simp only [Act.put, List.setIfInBounds_toArray, List.set_cons_zero, List.set_cons_succ]
    refine anyS_ready (rs := [5]) (by kernel_rfl) (by simp) ?_
    refine readyS_cons (o := { dst := some 30, op := Go.Op.call { callee := Go.Callee.value (Go.Operand.func 40), args := #[Go.Operand.tmp 29, Go.Operand.const (Go.Value.int Go.IntKind.i64 6)], argTypes := #[63, 3] }, type := 3, pos := _, after := #[{ on := 4, ground := Go.Ground.data }, { on := 3, ground := Go.Ground.chain }], guard := none }) rfl (fun KK hKK => ?_) (readyS_nil)
    go_simp
    go_at_call 40
    refine (pick_any g _ u 6 _ R31 (by omega)).mono ?_
    rintro e w312 ⟨y, rfl, y0, y1, _, hg, R312⟩
    have A4312 := A431.keepG hg (by omega); have A5312 := A531.keepG hg (by omega); have G312 := grown_two G31 hg; have own312 : OwnG w312 (w.heap.size + 2) (.slice a gs.length c) gs := own_grown own31 hg (by omega)
    clear hg A431 A531 G31 R31 own31
    have y2 := y1 (by decide)
    clear y1
    try go_simp
    refine hKK.out _ _ (⟨A5312.cells.1, A5312.cells.2.1⟩) (fun hHeld => ?_)
    clear hKK KK
    try simp only [Act.put, List.setIfInBounds_toArray, List.set_cons_zero, List.set_cons_succ]
    refine anyS_take (i := 6) (oi := { dst := some 31, op := Go.Op.build 47 #[(1, Go.Operand.tmp 28), (2, Go.Operand.tmp 30)], type := 47, pos := _, after := #[{ on := 3, ground := Go.Ground.data }, { on := 5, ground := Go.Ground.data }], guard := none }) (v := ?_) rfl (by kernel_rfl) (by kernel_rfl) (by kernel_rfl) (by kernel_rfl) (by kernel_rfl) (fun _ _ _ h => h) (Or.inl ⟨by rfl, ?_⟩) hHeld ?_
    rotate_left
    · (intro wq hSw; (try dsimp only at hSw); (try go_simp); (try with_reducible rfl))
    try simp only [Act.put, List.setIfInBounds_toArray, List.set_cons_zero, List.set_cons_succ]
    refine anyS_ready (rs := [7]) (by kernel_rfl) (by simp) ?_
    refine readyS_cons (o := { dst := some 32, op := Go.Op.buildSlice 37 1 #[(0, Go.Operand.tmp 31)], type := 37, pos := _, after := #[{ on := 6, ground := Go.Ground.data }], guard := none }) rfl (fun KK hKK => ?_) (readyS_nil)
    go_simp
    have A43123 := A4312.alloc (.cells #[.bool false, .int .i64 x, .int .i64 y] 47); have A53123 := A5312.alloc (.cells #[.bool false, .int .i64 x, .int .i64 y] 47); have G3123 := grown_alloc G312 (.cells #[.bool false, .int .i64 x, .int .i64 y] 47); have R3123 := R312.alloc (.cells #[.bool false, .int .i64 x, .int .i64 y] 47); have own3123 := World.ownsRow.alloc own312 (.cells #[.bool false, .int .i64 x, .int .i64 y] 47)
    have hk := heap_alloc_new w312 (.cells #[.bool false, .int .i64 x, .int .i64 y] 47)
    have hsz : w2.heap.size < w312.heap.size := A5312.lt
    clear A4312 A5312 G312 R312 own312
    try go_simp
    refine hKK.out _ _ (⟨A53123.cells.1, A53123.cells.2.1⟩) (fun hHeld => ?_)
    clear hKK KK
    try simp only [Act.put, List.setIfInBounds_toArray, List.set_cons_zero, List.set_cons_succ]
    refine anyS_ready (rs := [8]) (by kernel_rfl) (by simp) ?_
    refine readyS_cons (o := { dst := some 33, op := Go.Op.call { callee := Go.Callee.builtin Go.Builtin.append, args := #[Go.Operand.tmp 26, Go.Operand.tmp 32], argTypes := #[37, 37] }, type := 37, pos := _, after := #[{ on := 1, ground := Go.Ground.data }, { on := 7, ground := Go.Ground.data }, { on := 5, ground := Go.Ground.chain }], guard := none }) rfl (fun KK hKK => ?_) (readyS_nil)
    refine step_append_lies _ rfl (.tmp 26) (.tmp 32) _ rfl (w.heap.size + 2) 47 i0 (.agg #[.bool false, .int .i64 0, .int .i64 0]) 3 24 Try.underlying37 hi hz0 hz1 hz2 rfl (by omega) (.slice a gs.length c) gs.length (gflat gs) (by rfl) own3123 ⟨w312.heap.size, 0, none⟩ 1 1 [.bool false, .int .i64 x, .int .i64 y] (by rfl) rfl (World.news_of_block hk) (by simp [Value.oneCell']) (by omega) (by unfold maxLen; omega) (by omega) (by simp; omega) _ rfl ?_
    intro b8 c8 w8 own8 hg8 hat8 hlt8
    have hrow : ∀ q, Value.ownBlock (.slice a gs.length c) = some q → w.heap.size + 2 ≤ q ∧ q ≠ w2.heap.size := fun q e => ⟨(own3123.lt q e).1, fun e2 => hne.out (by rw [e, e2])⟩
    have A48 := blk_row A43123 hg8 (fun e => by have := (hrow _ e).1; omega); have A58 := blk_row A53123 hg8 (fun e => (hrow _ e).2 rfl)
    have G8 := grown_new G3123 hg8 (fun q e => by have := (hrow q e).1; omega)
    have R8 := R3123.growNew hr hg8 (fun q e => by have := (hrow q e).1; omega)
    have hne8 : (Value.slice (some ⟨b8, 0, none⟩) (gs.length + 1) c8).ownBlock ≠ some w2.heap.size := fun e => by
      have e9 : b8 = w2.heap.size := Option.some.inj e
      rcases hat8 with h9 | h9
      · exact hne.out (by rw [h9, e9])
      · have h10 : b8 = (w312.alloc (.cells #[.bool false, .int .i64 x, .int .i64 y] 47)).heap.size := h9
        simp at h10; omega
    clear hg8 hat8 hlt8 A43123 A53123 G3123 R3123 own3123 hk
    obtain ⟨C0, C1, _⟩ := A58.cells; obtain ⟨F0, F1⟩ := A58.frozen
    try go_simp
    refine hKK.out _ _ (⟨A58.cells.1, A58.cells.2.1⟩) (fun hHeld => ?_)
    clear hKK KK
    try simp only [Act.put, List.setIfInBounds_toArray, List.set_cons_zero, List.set_cons_succ]
    refine anyS_take (i := 9) (oi := { dst := some 34, op := Go.Op.fieldAddr 39 (Go.Operand.tmp 5) 1, type := 0, pos := _, after := #[{ on := 0, ground := Go.Ground.phase }, { on := 1, ground := Go.Ground.phase }, { on := 2, ground := Go.Ground.phase }, { on := 3, ground := Go.Ground.phase }, { on := 4, ground := Go.Ground.phase }, { on := 5, ground := Go.Ground.phase }, { on := 6, ground := Go.Ground.phase }, { on := 7, ground := Go.Ground.phase }, { on := 8, ground := Go.Ground.phase }], guard := none }) (v := ?_) rfl (by kernel_rfl) (by kernel_rfl) (by kernel_rfl) (by kernel_rfl) (by kernel_rfl) (fun _ _ _ h => h) (Or.inl ⟨by rfl, ?_⟩) hHeld ?_
    rotate_left
    · (intro wq hSw; (try dsimp only at hSw); (try go_simp); (try with_reducible rfl))
    try simp only [Act.put, List.setIfInBounds_toArray, List.set_cons_zero, List.set_cons_succ]
    refine anyS_ready (rs := [10]) (by kernel_rfl) (by simp) ?_
    refine readyS_last (o := { dst := none, op := Go.Op.store 37 (Go.Operand.tmp 34) (Go.Operand.tmp 33), type := 0, pos := _, after := #[{ on := 9, ground := Go.Ground.data }, { on := 8, ground := Go.Ground.data }, { on := 8, ground := Go.Ground.chain }, { on := 0, ground := Go.Ground.phase }, { on := 1, ground := Go.Ground.phase }, { on := 2, ground := Go.Ground.phase }, { on := 3, ground := Go.Ground.phase }, { on := 4, ground := Go.Ground.phase }, { on := 5, ground := Go.Ground.phase }, { on := 6, ground := Go.Ground.phase }, { on := 7, ground := Go.Ground.phase }, { on := 8, ground := Go.Ground.phase }], guard := none }) rfl (by kernel_rfl) (fun KK hKK => ?_) (readyS_nil)
    go_simp
    refine hKK.out _ _ ?_
    clear hKK KK hHeld
    have hHeld := trivial
    try simp only [Act.put, List.setIfInBounds_toArray, List.set_cons_zero, List.set_cons_succ]
    refine anyS_done (by kernel_rfl) ?_ _
    refine NoPanic.normal ?_
    clear C0 C1 F0 F1 hHeld
    have A49 := A48.set_other (p := ⟨w2.heap.size, 1, none⟩) (z := .slice (some ⟨b8, 0, none⟩) (gs.length + 1) c8) (by show w.heap.size + 1 ≠ w2.heap.size; omega)
    have A59 := A58.set1 (.slice (some ⟨b8, 0, none⟩) (gs.length + 1) c8)
    have own9 : OwnG (w8.setCell ⟨w2.heap.size, 1, none⟩ (.slice (some ⟨b8, 0, none⟩) (gs.length + 1) c8)) (w.heap.size + 2) (.slice (some ⟨b8, 0, none⟩) (gs.length + 1) c8) (gs ++ [(false, x, y)]) := putSnoc (g := (false, x, y)) (own_setCell own8 (p := ⟨w2.heap.size, 1, none⟩) hne8 (.slice (some ⟨b8, 0, none⟩) (gs.length + 1) c8))
    have G9 := grown_set G8 (p := ⟨w2.heap.size, 1, none⟩) (by show w.heap.size ≤ w2.heap.size; omega) (.slice (some ⟨b8, 0, none⟩) (gs.length + 1) c8)
    have R9 := R8.setNew (q := ⟨w2.heap.size, 1, none⟩) (x := .slice (some ⟨b8, 0, none⟩) (gs.length + 1) c8) hr (by show w.heap.size ≤ w2.heap.size; omega)
    clear A48 A58 own8 G8 R8
    replace own9 := Lib.hid own9; replace G9 := Lib.hid G9; replace R9 := Lib.hid R9
    go_upto_region 20 with fail
    obtain ⟨e0, e1, _⟩ := A59.cells; obtain ⟨e2, e3, _⟩ := A49.cells; obtain ⟨e4, e5⟩ := A49.frozen
    have Af := (A49.set0 (.int .i64 m)).set1 (.slice (some ⟨b8, 0, none⟩) (gs.length + 1) c8)
    obtain ⟨r0, r1, _⟩ := Af.cells
    have OF := Go.RowKit.ownsRow_setCell_below (Go.RowKit.ownsRow_setCell_below own9.out (a := ⟨w.heap.size + 1, 0, none⟩) (Nat.lt_succ_self _) (.int .i64 m)) (a := ⟨w.heap.size + 1, 1, none⟩) (Nat.lt_succ_self _) (.slice (some ⟨b8, 0, none⟩) (gs.length + 1) c8)
    have GF := grown_set (grown_set G9.out (p := ⟨w.heap.size + 1, 0, none⟩) (Nat.le_succ _) (.int .i64 m)) (p := ⟨w.heap.size + 1, 1, none⟩) (Nat.le_succ _) (.slice (some ⟨b8, 0, none⟩) (gs.length + 1) c8)
    have RF := (R9.out.setNew (q := ⟨w.heap.size + 1, 0, none⟩) (x := .int .i64 m) hr (Nat.le_succ _)).setNew (q := ⟨w.heap.size + 1, 1, none⟩) (x := .slice (some ⟨b8, 0, none⟩) (gs.length + 1) c8) hr (Nat.le_succ _)
    replace OF := Lib.hid OF; replace GF := Lib.hid GF; replace RF := Lib.hid RF
    clear Af
    go_wp2_with fail
    exact bodyPost_ret (v := .agg #[.int .i64 m, .slice (some ⟨b8, 0, none⟩) (gs.length + 1) c8]) (by simp [results, Try.results53, go_sem, r0, r1]) rfl ⟨_, gs ++ [(false, x, y)], _, _, by rw [snoc_len], m0, .inr (by omega), by rw [snoc_len]; exact Go.Joins.ownsRow_le OF.out (by omega), HWF.out.snoc ⟨wf_in ⟨by dsimp only; omega, by dsimp only; omega⟩, wf_in ⟨by dsimp only; omega, by dsimp only; omega⟩⟩, by rw [snoc_len]; exact Nat.le_refl _, GF.out, RF.out.le (by omega)⟩
  have d1 : (p == 1) = false := by simpa using c1
  by_cases c2 : p = 2
  · subst c2
    by_cases hk : 0 < gs.length
    · have hk1 : (0 : Int) < (gs.length : Int) := by omega
      obtain ⟨gb, cq, e9, hgb, _⟩ := World.ownsRow.form own3 (by omega)
      cases e9
      go_upto_region 10 with fail
      replace A43 := A43.drew; replace A53 := A53.drew; replace G3 := grown_drew G3; replace R3 := R3.drew; replace own3 := ownsRow_drew own3
      refine wp_region_noPanic ?_
      refine wp_regionS 10 (fun wx : World => wx.cell? ⟨w2.heap.size, 0, none⟩ = some (.int .i64 m) ∧ wx.cell? ⟨w2.heap.size, 1, none⟩ = some (.slice (some ⟨gb, 0, none⟩) gs.length c)) (by kernel_rfl) (⟨A53.cells.1, A53.cells.2.1⟩) (fun hHeld => ?_)
      refine anyS_take (i := 0) (oi := { dst := some 39, op := Go.Op.fieldAddr 39 (Go.Operand.tmp 5) 1, type := 0, pos := _, after := #[], guard := none }) (v := ?_) rfl (by kernel_rfl) (by kernel_rfl) (by kernel_rfl) (by kernel_rfl) (by kernel_rfl) (fun _ _ _ h => h) (Or.inl ⟨by rfl, ?_⟩) hHeld ?_
      rotate_left
      · (intro wq hSw; (try dsimp only at hSw); (try go_simp); (try with_reducible rfl))
      try simp only [Act.put, List.setIfInBounds_toArray, List.set_cons_zero, List.set_cons_succ]
      refine anyS_take (i := 1) (oi := { dst := some 40, op := Go.Op.load 37 (Go.Operand.tmp 39), type := 37, pos := _, after := #[{ on := 0, ground := Go.Ground.data }], guard := none }) (v := ?_) rfl (by kernel_rfl) (by kernel_rfl) (by kernel_rfl) (by kernel_rfl) (by kernel_rfl) (fun _ _ _ h => h) (Or.inl ⟨by rfl, ?_⟩) hHeld ?_
      rotate_left
      · (intro wq hSw; (try dsimp only at hSw); (try go_simp); (try with_reducible rfl))
      try simp only [Act.put, List.setIfInBounds_toArray, List.set_cons_zero, List.set_cons_succ]
      refine anyS_take (i := 2) (oi := { dst := some 41, op := Go.Op.move (Go.Operand.tmp 0), type := 63, pos := _, after := #[], guard := none }) (v := ?_) rfl (by kernel_rfl) (by kernel_rfl) (by kernel_rfl) (by kernel_rfl) (by kernel_rfl) (fun _ _ _ h => h) (Or.inl ⟨by rfl, ?_⟩) hHeld ?_
      rotate_left
      · (intro wq hSw; (try dsimp only at hSw); (try go_simp); (try with_reducible rfl))
      try simp only [Act.put, List.setIfInBounds_toArray, List.set_cons_zero, List.set_cons_succ]
      refine anyS_take (i := 3) (oi := { dst := some 42, op := Go.Op.move (Go.Operand.tmp 6), type := 3, pos := _, after := #[], guard := none }) (v := ?_) rfl (by kernel_rfl) (by kernel_rfl) (by kernel_rfl) (by kernel_rfl) (by kernel_rfl) (fun _ _ _ h => h) (Or.inl ⟨by rfl, ?_⟩) hHeld ?_
      rotate_left
      · (intro wq hSw; (try dsimp only at hSw); (try go_simp); (try with_reducible rfl))
      try simp only [Act.put, List.setIfInBounds_toArray, List.set_cons_zero, List.set_cons_succ]
      refine anyS_take (i := 5) (oi := { dst := some 44, op := Go.Op.move (Go.Operand.tmp 0), type := 63, pos := _, after := #[], guard := none }) (v := ?_) rfl (by kernel_rfl) (by kernel_rfl) (by kernel_rfl) (by kernel_rfl) (by kernel_rfl) (fun _ _ _ h => h) (Or.inl ⟨by rfl, ?_⟩) hHeld ?_
      rotate_left
      · (intro wq hSw; (try dsimp only at hSw); (try go_simp); (try with_reducible rfl))
      try simp only [Act.put, List.setIfInBounds_toArray, List.set_cons_zero, List.set_cons_succ]
      refine anyS_ready (rs := [4, 6]) (by kernel_rfl) (by simp) ?_
      refine readyS_cons (o := { dst := some 43, op := Go.Op.call { callee := Go.Callee.value (Go.Operand.func 40), args := #[Go.Operand.tmp 41, Go.Operand.tmp 42], argTypes := #[63, 3] }, type := 3, pos := _, after := #[{ on := 2, ground := Go.Ground.data }, { on := 3, ground := Go.Ground.data }], guard := none }) rfl (fun KK hKK => ?_) (readyS_cons (o := { dst := some 45, op := Go.Op.buildSlice 30 5 #[(0, Go.Operand.const (Go.Value.int Go.IntKind.i64 0)), (1, Go.Operand.const (Go.Value.int Go.IntKind.i64 1)), (2, Go.Operand.const (Go.Value.int Go.IntKind.i64 (-1))), (3, Go.Operand.const (Go.Value.int Go.IntKind.i64 50)), (4, Go.Operand.const (Go.Value.int Go.IntKind.i64 (-9223372036854775808)))], type := 30, pos := _, after := #[], guard := none }) rfl (fun KK hKK => ?_) (readyS_nil))
      · skip
        go_simp
        go_at_call 40
        refine (pick_any g _ u (gs.length : Int) _ R3 (by omega)).mono ?_
        rintro e w3p ⟨j, rfl, j0, j1, _, hg, R3p⟩
        have j2 := j1 (by omega)
        clear j1
        obtain ⟨j, rfl⟩ := Int.eq_ofNat_of_zero_le j0
        have hj : j < gs.length := by omega
        have A43p := A43.keepG hg (by omega); have A53p := A53.keepG hg (by omega); have G3p := grown_two G3 hg; have own3p : OwnG w3p (w.heap.size + 2) (.slice (some ⟨gb, 0, none⟩) gs.length c) gs := own_grown own3 hg (by omega)
        clear hg A43 A53 G3 R3 own3
        try go_simp
        refine hKK.out _ _ (⟨A53p.cells.1, A53p.cells.2.1⟩) (fun hHeld => ?_)
        clear hKK KK
        try simp only [Act.put, List.setIfInBounds_toArray, List.set_cons_zero, List.set_cons_succ]
        refine anyS_ready (rs := [6]) (by kernel_rfl) (by simp) ?_
        refine readyS_cons (o := { dst := some 45, op := Go.Op.buildSlice 30 5 #[(0, Go.Operand.const (Go.Value.int Go.IntKind.i64 0)), (1, Go.Operand.const (Go.Value.int Go.IntKind.i64 1)), (2, Go.Operand.const (Go.Value.int Go.IntKind.i64 (-1))), (3, Go.Operand.const (Go.Value.int Go.IntKind.i64 50)), (4, Go.Operand.const (Go.Value.int Go.IntKind.i64 (-9223372036854775808)))], type := 30, pos := _, after := #[], guard := none }) rfl (fun KK hKK => ?_) (readyS_nil)
        go_simp
        have A43pb := A43p.alloc (.cells #[.int .i64 0, .int .i64 1, .int .i64 (-1), .int .i64 50, .int .i64 (-9223372036854775808)] 3); have A53pb := A53p.alloc (.cells #[.int .i64 0, .int .i64 1, .int .i64 (-1), .int .i64 50, .int .i64 (-9223372036854775808)] 3); have G3pb := grown_alloc G3p (.cells #[.int .i64 0, .int .i64 1, .int .i64 (-1), .int .i64 50, .int .i64 (-9223372036854775808)] 3); have R3pb := R3p.alloc (.cells #[.int .i64 0, .int .i64 1, .int .i64 (-1), .int .i64 50, .int .i64 (-9223372036854775808)] 3); have own3pb : OwnG (w3p.alloc (.cells #[.int .i64 0, .int .i64 1, .int .i64 (-1), .int .i64 50, .int .i64 (-9223372036854775808)] 3)) (w.heap.size + 2) (.slice (some ⟨gb, 0, none⟩) gs.length c) gs := World.ownsRow.alloc own3p (.cells #[.int .i64 0, .int .i64 1, .int .i64 (-1), .int .i64 50, .int .i64 (-9223372036854775808)] 3)
        have HC3pb : ∀ i, i < 5 → ∃ x : Int, (w3p.alloc (.cells #[.int .i64 0, .int .i64 1, .int .i64 (-1), .int .i64 50, .int .i64 (-9223372036854775808)] 3)).cell? ⟨w3p.heap.size, i, none⟩ = some (.int .i64 x) ∧ In64 x := new_ints_in w3p (In64) [0, 1, -1, 50, -9223372036854775808] 3 (by simp [In64])
        have hgk : w3p.heap.size ≠ g := by have := R3p.lt; omega
        have hlk : w3p.heap.size < (w3p.alloc (.cells #[.int .i64 0, .int .i64 1, .int .i64 (-1), .int .i64 50, .int .i64 (-9223372036854775808)] 3)).heap.size := by simp
        replace HC3pb := Lib.hid HC3pb
        clear A43p A53p G3p R3p own3p
        try go_simp
        refine hKK.out _ _ (⟨A53pb.cells.1, A53pb.cells.2.1⟩) (fun hHeld => ?_)
        clear hKK KK
        try simp only [Act.put, List.setIfInBounds_toArray, List.set_cons_zero, List.set_cons_succ]
        refine anyS_ready (rs := [7]) (by kernel_rfl) (by simp) ?_
        refine readyS_cons (o := { dst := some 46, op := Go.Op.call { callee := Go.Callee.value (Go.Operand.func 41), args := #[Go.Operand.tmp 44, Go.Operand.tmp 45], argTypes := #[63, 30] }, type := 3, pos := _, after := #[{ on := 5, ground := Go.Ground.data }, { on := 6, ground := Go.Ground.data }, { on := 4, ground := Go.Ground.chain }], guard := none }) rfl (fun KK hKK => ?_) (readyS_nil)
        go_simp
        go_at_call 41
        refine (num_in (In64) g _ u w3p.heap.size 5 5 _ R3pb (by omega) (by omega) (by omega) hgk HC3pb.out).mono ?_
        rintro e w3pbn ⟨_, rfl, ⟨y, rfl, yr⟩, hg, R3pbn⟩
        have A43pbn := A43pb.keepG hg (by omega); have A53pbn := A53pb.keepG hg (by omega); have G3pbn := grown_two G3pb hg; have own3pbn : OwnG w3pbn (w.heap.size + 2) (.slice (some ⟨gb, 0, none⟩) gs.length c) gs := own_grown own3pb hg (by omega)
        clear hg A43pb A53pb G3pb R3pb own3pb hgk hlk
        obtain ⟨uu, cc⟩ : ∃ u, w3pbn.cell? ⟨gb, j * 3 + 1, none⟩ = some u := ⟨_, (own3pbn.cellAt (j * 3 + 1) (by omega)).trans (gflat_get gs j 1 hj (by omega))⟩
        have ff : w3pbn.frozen? ⟨gb, j * 3 + 1, none⟩ = false := own3pbn.frozenAt _
        obtain ⟨ownS, hgS⟩ := own3pbn.stored (j * 3 + 1) (.int .i64 y)
        have sKK := And.intro A53pbn.cells.1 A53pbn.cells.2.1
        have ownN : OwnG (w3pbn.setCell ⟨gb, j * 3 + 1, none⟩ (.int .i64 y)) (w.heap.size + 2) (.slice (some ⟨gb, 0, none⟩) gs.length c) (gs.set j ((gs.getD j gz).1, y, (gs.getD j gz).2.2)) := by
          unfold OwnG; rw [← gflat_set1 gs j y hj, List.length_set]; exact ownS
        have A4N := A43pbn.set_other (p := ⟨gb, j * 3 + 1, none⟩) (z := .int .i64 y) (by show w.heap.size + 1 ≠ gb; have := (own3pbn.lt gb rfl).1; omega)
        have A5N := A53pbn.set_other (p := ⟨gb, j * 3 + 1, none⟩) (z := .int .i64 y) (by show w2.heap.size ≠ gb; exact fun e => hne.out (by rw [e]; rfl))
        have GN := grown_new G3pbn hgS (fun q hq => by cases hq; have := (own3pbn.lt gb rfl).1; omega)
        have RN := R3pbn.growNew hr hgS (fun q hq => by cases hq; have := (own3pbn.lt gb rfl).1; omega)
        replace ownN := Lib.hid ownN; replace GN := Lib.hid GN; replace RN := Lib.hid RN; replace A4N := Lib.hid A4N; replace A5N := Lib.hid A5N
        clear ownS hgS A43pbn A53pbn G3pbn R3pbn own3pbn
        try go_simp
        refine hKK.out _ _ (sKK) (fun hHeld => ?_)
        clear hKK KK
        try simp only [Act.put, List.setIfInBounds_toArray, List.set_cons_zero, List.set_cons_succ]
        refine anyS_ready (rs := [8]) (by kernel_rfl) (by simp) ?_
        refine readyS_cons (o := { dst := some 47, op := Go.Op.indexAddr 37 (Go.Operand.tmp 40) (Go.Operand.tmp 43), type := 0, pos := _, after := #[{ on := 1, ground := Go.Ground.data }, { on := 4, ground := Go.Ground.data }, { on := 0, ground := Go.Ground.phase }, { on := 1, ground := Go.Ground.phase }, { on := 2, ground := Go.Ground.phase }, { on := 3, ground := Go.Ground.phase }, { on := 4, ground := Go.Ground.phase }, { on := 5, ground := Go.Ground.phase }, { on := 6, ground := Go.Ground.phase }, { on := 7, ground := Go.Ground.phase }], guard := none }) rfl (fun KK hKK => ?_) (readyS_nil)
        go_simp
        try go_simp
        refine hKK.out _ _ (hHeld) (fun hHeld => ?_)
        clear hKK KK
        try simp only [Act.put, List.setIfInBounds_toArray, List.set_cons_zero, List.set_cons_succ]
        refine anyS_take (i := 9) (oi := { dst := some 48, op := Go.Op.fieldAddr 47 (Go.Operand.tmp 47) 1, type := 0, pos := _, after := #[{ on := 8, ground := Go.Ground.data }, { on := 0, ground := Go.Ground.phase }, { on := 1, ground := Go.Ground.phase }, { on := 2, ground := Go.Ground.phase }, { on := 3, ground := Go.Ground.phase }, { on := 4, ground := Go.Ground.phase }, { on := 5, ground := Go.Ground.phase }, { on := 6, ground := Go.Ground.phase }, { on := 7, ground := Go.Ground.phase }], guard := none }) (v := ?_) rfl (by kernel_rfl) (by kernel_rfl) (by kernel_rfl) (by kernel_rfl) (by kernel_rfl) (fun _ _ _ h => h) (Or.inl ⟨by rfl, ?_⟩) hHeld ?_
        rotate_left
        · (intro wq hSw; (try dsimp only at hSw); (try go_simp); (try with_reducible rfl))
        try simp only [Act.put, List.setIfInBounds_toArray, List.set_cons_zero, List.set_cons_succ]
        refine anyS_ready (rs := [10]) (by kernel_rfl) (by simp) ?_
        refine readyS_last (o := { dst := none, op := Go.Op.store 3 (Go.Operand.tmp 48) (Go.Operand.tmp 46), type := 0, pos := _, after := #[{ on := 9, ground := Go.Ground.data }, { on := 7, ground := Go.Ground.data }, { on := 7, ground := Go.Ground.chain }, { on := 0, ground := Go.Ground.phase }, { on := 1, ground := Go.Ground.phase }, { on := 2, ground := Go.Ground.phase }, { on := 3, ground := Go.Ground.phase }, { on := 4, ground := Go.Ground.phase }, { on := 5, ground := Go.Ground.phase }, { on := 6, ground := Go.Ground.phase }, { on := 7, ground := Go.Ground.phase }], guard := none }) rfl (by kernel_rfl) (fun KK hKK => ?_) (readyS_nil)
        go_simp
        refine hKK.out _ _ ?_
        clear hKK KK hHeld
        have hHeld := trivial
        try simp only [Act.put, List.setIfInBounds_toArray, List.set_cons_zero, List.set_cons_succ]
        refine anyS_done (by kernel_rfl) ?_ _
        refine NoPanic.normal ?_
        clear cc ff hHeld
        replace A4N := A4N.out; replace A5N := A5N.out
        go_upto_region 20 with fail
        obtain ⟨e0, e1, _⟩ := A5N.cells; obtain ⟨e2, e3, _⟩ := A4N.cells; obtain ⟨e4, e5⟩ := A4N.frozen
        have Af := (A4N.set0 (.int .i64 m)).set1 (.slice (some ⟨gb, 0, none⟩) gs.length c)
        obtain ⟨r0, r1, _⟩ := Af.cells
        have OF := Go.RowKit.ownsRow_setCell_below (Go.RowKit.ownsRow_setCell_below ownN.out (a := ⟨w.heap.size + 1, 0, none⟩) (Nat.lt_succ_self _) (.int .i64 m)) (a := ⟨w.heap.size + 1, 1, none⟩) (Nat.lt_succ_self _) (.slice (some ⟨gb, 0, none⟩) gs.length c)
        have GF := grown_set (grown_set GN.out (p := ⟨w.heap.size + 1, 0, none⟩) (Nat.le_succ _) (.int .i64 m)) (p := ⟨w.heap.size + 1, 1, none⟩) (Nat.le_succ _) (.slice (some ⟨gb, 0, none⟩) gs.length c)
        have RF := (RN.out.setNew (q := ⟨w.heap.size + 1, 0, none⟩) (x := .int .i64 m) hr (Nat.le_succ _)).setNew (q := ⟨w.heap.size + 1, 1, none⟩) (x := .slice (some ⟨gb, 0, none⟩) gs.length c) hr (Nat.le_succ _)
        replace OF := Lib.hid OF; replace GF := Lib.hid GF; replace RF := Lib.hid RF
        clear Af
        go_wp2_with fail
        exact bodyPost_ret (v := .agg #[.int .i64 m, .slice (some ⟨gb, 0, none⟩) gs.length c]) (by simp [results, Try.results53, go_sem, r0, r1]) rfl ⟨_, gs.set j ((gs.getD j gz).1, y, (gs.getD j gz).2.2), _, _, by rw [List.length_set], m0, .inr (by omega), by rw [List.length_set]; exact Go.Joins.ownsRow_le OF.out (by omega), HWF.out.set ⟨wf_in yr, (HWF.out j hj).2⟩, by rw [List.length_set]; exact Nat.le_succ _, GF.out, RF.out.le (by omega)⟩
      · skip
        go_simp
        have A43b := A43.alloc (.cells #[.int .i64 0, .int .i64 1, .int .i64 (-1), .int .i64 50, .int .i64 (-9223372036854775808)] 3); have A53b := A53.alloc (.cells #[.int .i64 0, .int .i64 1, .int .i64 (-1), .int .i64 50, .int .i64 (-9223372036854775808)] 3); have G3b := grown_alloc G3 (.cells #[.int .i64 0, .int .i64 1, .int .i64 (-1), .int .i64 50, .int .i64 (-9223372036854775808)] 3); have R3b := R3.alloc (.cells #[.int .i64 0, .int .i64 1, .int .i64 (-1), .int .i64 50, .int .i64 (-9223372036854775808)] 3); have own3b : OwnG (w3.drew.alloc (.cells #[.int .i64 0, .int .i64 1, .int .i64 (-1), .int .i64 50, .int .i64 (-9223372036854775808)] 3)) (w.heap.size + 2) (.slice (some ⟨gb, 0, none⟩) gs.length c) gs := World.ownsRow.alloc own3 (.cells #[.int .i64 0, .int .i64 1, .int .i64 (-1), .int .i64 50, .int .i64 (-9223372036854775808)] 3)
        have HC3b : ∀ i, i < 5 → ∃ x : Int, (w3.drew.alloc (.cells #[.int .i64 0, .int .i64 1, .int .i64 (-1), .int .i64 50, .int .i64 (-9223372036854775808)] 3)).cell? ⟨w3.heap.size, i, none⟩ = some (.int .i64 x) ∧ In64 x := new_ints_in w3.drew (In64) [0, 1, -1, 50, -9223372036854775808] 3 (by simp [In64])
        have hgk : w3.heap.size ≠ g := by have := R3.lt; omega
        have hlk : w3.heap.size < (w3.drew.alloc (.cells #[.int .i64 0, .int .i64 1, .int .i64 (-1), .int .i64 50, .int .i64 (-9223372036854775808)] 3)).heap.size := by simp
        replace HC3b := Lib.hid HC3b
        clear A43 A53 G3 R3 own3
        try go_simp
        refine hKK.out _ _ (⟨A53b.cells.1, A53b.cells.2.1⟩) (fun hHeld => ?_)
        clear hKK KK
        try simp only [Act.put, List.setIfInBounds_toArray, List.set_cons_zero, List.set_cons_succ]
        refine anyS_ready (rs := [4]) (by kernel_rfl) (by simp) ?_
        refine readyS_cons (o := { dst := some 43, op := Go.Op.call { callee := Go.Callee.value (Go.Operand.func 40), args := #[Go.Operand.tmp 41, Go.Operand.tmp 42], argTypes := #[63, 3] }, type := 3, pos := _, after := #[{ on := 2, ground := Go.Ground.data }, { on := 3, ground := Go.Ground.data }], guard := none }) rfl (fun KK hKK => ?_) (readyS_nil)
        go_simp
        go_at_call 40
        refine (pick_any g _ u (gs.length : Int) _ R3b (by omega)).mono ?_
        rintro e w3bp ⟨j, rfl, j0, j1, _, hg, R3bp⟩
        have j2 := j1 (by omega)
        clear j1
        obtain ⟨j, rfl⟩ := Int.eq_ofNat_of_zero_le j0
        have hj : j < gs.length := by omega
        have A43bp := A43b.keepG hg (by omega); have A53bp := A53b.keepG hg (by omega); have G3bp := grown_two G3b hg; have own3bp : OwnG w3bp (w.heap.size + 2) (.slice (some ⟨gb, 0, none⟩) gs.length c) gs := own_grown own3b hg (by omega)
        have HC3bp : Hid (∀ i, i < 5 → ∃ x : Int, w3bp.cell? ⟨w3.heap.size, i, none⟩ = some (.int .i64 x) ∧ In64 x) := fun i hi => by
          obtain ⟨x, h1, h2⟩ := HC3b.out i hi
          exact ⟨x, (World.cell?_of_block (hg.block _ hlk (fun e => hgk (Option.some.inj e)))).trans h1, h2⟩
        replace hlk : w3.heap.size < w3bp.heap.size := Nat.lt_of_lt_of_le hlk hg.size
        clear hg A43b A53b G3b R3b own3b
        try go_simp
        refine hKK.out _ _ (⟨A53bp.cells.1, A53bp.cells.2.1⟩) (fun hHeld => ?_)
        clear hKK KK
        try simp only [Act.put, List.setIfInBounds_toArray, List.set_cons_zero, List.set_cons_succ]
        refine anyS_ready (rs := [7]) (by kernel_rfl) (by simp) ?_
        refine readyS_cons (o := { dst := some 46, op := Go.Op.call { callee := Go.Callee.value (Go.Operand.func 41), args := #[Go.Operand.tmp 44, Go.Operand.tmp 45], argTypes := #[63, 30] }, type := 3, pos := _, after := #[{ on := 5, ground := Go.Ground.data }, { on := 6, ground := Go.Ground.data }, { on := 4, ground := Go.Ground.chain }], guard := none }) rfl (fun KK hKK => ?_) (readyS_nil)
        go_simp
        go_at_call 41
        refine (num_in (In64) g _ u w3.heap.size 5 5 _ R3bp (by omega) (by omega) (by omega) hgk HC3bp.out).mono ?_
        rintro e w3bpn ⟨_, rfl, ⟨y, rfl, yr⟩, hg, R3bpn⟩
        have A43bpn := A43bp.keepG hg (by omega); have A53bpn := A53bp.keepG hg (by omega); have G3bpn := grown_two G3bp hg; have own3bpn : OwnG w3bpn (w.heap.size + 2) (.slice (some ⟨gb, 0, none⟩) gs.length c) gs := own_grown own3bp hg (by omega)
        clear hg A43bp A53bp G3bp R3bp own3bp hgk hlk
        obtain ⟨uu, cc⟩ : ∃ u, w3bpn.cell? ⟨gb, j * 3 + 1, none⟩ = some u := ⟨_, (own3bpn.cellAt (j * 3 + 1) (by omega)).trans (gflat_get gs j 1 hj (by omega))⟩
        have ff : w3bpn.frozen? ⟨gb, j * 3 + 1, none⟩ = false := own3bpn.frozenAt _
        obtain ⟨ownS, hgS⟩ := own3bpn.stored (j * 3 + 1) (.int .i64 y)
        have sKK := And.intro A53bpn.cells.1 A53bpn.cells.2.1
        have ownN : OwnG (w3bpn.setCell ⟨gb, j * 3 + 1, none⟩ (.int .i64 y)) (w.heap.size + 2) (.slice (some ⟨gb, 0, none⟩) gs.length c) (gs.set j ((gs.getD j gz).1, y, (gs.getD j gz).2.2)) := by
          unfold OwnG; rw [← gflat_set1 gs j y hj, List.length_set]; exact ownS
        have A4N := A43bpn.set_other (p := ⟨gb, j * 3 + 1, none⟩) (z := .int .i64 y) (by show w.heap.size + 1 ≠ gb; have := (own3bpn.lt gb rfl).1; omega)
        have A5N := A53bpn.set_other (p := ⟨gb, j * 3 + 1, none⟩) (z := .int .i64 y) (by show w2.heap.size ≠ gb; exact fun e => hne.out (by rw [e]; rfl))
        have GN := grown_new G3bpn hgS (fun q hq => by cases hq; have := (own3bpn.lt gb rfl).1; omega)
        have RN := R3bpn.growNew hr hgS (fun q hq => by cases hq; have := (own3bpn.lt gb rfl).1; omega)
        replace ownN := Lib.hid ownN; replace GN := Lib.hid GN; replace RN := Lib.hid RN; replace A4N := Lib.hid A4N; replace A5N := Lib.hid A5N
        clear ownS hgS A43bpn A53bpn G3bpn R3bpn own3bpn
        try go_simp
        refine hKK.out _ _ (sKK) (fun hHeld => ?_)
        clear hKK KK
        try simp only [Act.put, List.setIfInBounds_toArray, List.set_cons_zero, List.set_cons_succ]
        refine anyS_ready (rs := [8]) (by kernel_rfl) (by simp) ?_
        refine readyS_cons (o := { dst := some 47, op := Go.Op.indexAddr 37 (Go.Operand.tmp 40) (Go.Operand.tmp 43), type := 0, pos := _, after := #[{ on := 1, ground := Go.Ground.data }, { on := 4, ground := Go.Ground.data }, { on := 0, ground := Go.Ground.phase }, { on := 1, ground := Go.Ground.phase }, { on := 2, ground := Go.Ground.phase }, { on := 3, ground := Go.Ground.phase }, { on := 4, ground := Go.Ground.phase }, { on := 5, ground := Go.Ground.phase }, { on := 6, ground := Go.Ground.phase }, { on := 7, ground := Go.Ground.phase }], guard := none }) rfl (fun KK hKK => ?_) (readyS_nil)
        go_simp
        try go_simp
        refine hKK.out _ _ (hHeld) (fun hHeld => ?_)
        clear hKK KK
        try simp only [Act.put, List.setIfInBounds_toArray, List.set_cons_zero, List.set_cons_succ]
        refine anyS_take (i := 9) (oi := { dst := some 48, op := Go.Op.fieldAddr 47 (Go.Operand.tmp 47) 1, type := 0, pos := _, after := #[{ on := 8, ground := Go.Ground.data }, { on := 0, ground := Go.Ground.phase }, { on := 1, ground := Go.Ground.phase }, { on := 2, ground := Go.Ground.phase }, { on := 3, ground := Go.Ground.phase }, { on := 4, ground := Go.Ground.phase }, { on := 5, ground := Go.Ground.phase }, { on := 6, ground := Go.Ground.phase }, { on := 7, ground := Go.Ground.phase }], guard := none }) (v := ?_) rfl (by kernel_rfl) (by kernel_rfl) (by kernel_rfl) (by kernel_rfl) (by kernel_rfl) (fun _ _ _ h => h) (Or.inl ⟨by rfl, ?_⟩) hHeld ?_
        rotate_left
        · (intro wq hSw; (try dsimp only at hSw); (try go_simp); (try with_reducible rfl))
        try simp only [Act.put, List.setIfInBounds_toArray, List.set_cons_zero, List.set_cons_succ]
        refine anyS_ready (rs := [10]) (by kernel_rfl) (by simp) ?_
        refine readyS_last (o := { dst := none, op := Go.Op.store 3 (Go.Operand.tmp 48) (Go.Operand.tmp 46), type := 0, pos := _, after := #[{ on := 9, ground := Go.Ground.data }, { on := 7, ground := Go.Ground.data }, { on := 7, ground := Go.Ground.chain }, { on := 0, ground := Go.Ground.phase }, { on := 1, ground := Go.Ground.phase }, { on := 2, ground := Go.Ground.phase }, { on := 3, ground := Go.Ground.phase }, { on := 4, ground := Go.Ground.phase }, { on := 5, ground := Go.Ground.phase }, { on := 6, ground := Go.Ground.phase }, { on := 7, ground := Go.Ground.phase }], guard := none }) rfl (by kernel_rfl) (fun KK hKK => ?_) (readyS_nil)
        go_simp
        refine hKK.out _ _ ?_
        clear hKK KK hHeld
        have hHeld := trivial
        try simp only [Act.put, List.setIfInBounds_toArray, List.set_cons_zero, List.set_cons_succ]
        refine anyS_done (by kernel_rfl) ?_ _
        refine NoPanic.normal ?_
        clear cc ff hHeld
        replace A4N := A4N.out; replace A5N := A5N.out
        go_upto_region 20 with fail
        obtain ⟨e0, e1, _⟩ := A5N.cells; obtain ⟨e2, e3, _⟩ := A4N.cells; obtain ⟨e4, e5⟩ := A4N.frozen
        have Af := (A4N.set0 (.int .i64 m)).set1 (.slice (some ⟨gb, 0, none⟩) gs.length c)
        obtain ⟨r0, r1, _⟩ := Af.cells
        have OF := Go.RowKit.ownsRow_setCell_below (Go.RowKit.ownsRow_setCell_below ownN.out (a := ⟨w.heap.size + 1, 0, none⟩) (Nat.lt_succ_self _) (.int .i64 m)) (a := ⟨w.heap.size + 1, 1, none⟩) (Nat.lt_succ_self _) (.slice (some ⟨gb, 0, none⟩) gs.length c)
        have GF := grown_set (grown_set GN.out (p := ⟨w.heap.size + 1, 0, none⟩) (Nat.le_succ _) (.int .i64 m)) (p := ⟨w.heap.size + 1, 1, none⟩) (Nat.le_succ _) (.slice (some ⟨gb, 0, none⟩) gs.length c)
        have RF := (RN.out.setNew (q := ⟨w.heap.size + 1, 0, none⟩) (x := .int .i64 m) hr (Nat.le_succ _)).setNew (q := ⟨w.heap.size + 1, 1, none⟩) (x := .slice (some ⟨gb, 0, none⟩) gs.length c) hr (Nat.le_succ _)
        replace OF := Lib.hid OF; replace GF := Lib.hid GF; replace RF := Lib.hid RF
        clear Af
        go_wp2_with fail
        exact bodyPost_ret (v := .agg #[.int .i64 m, .slice (some ⟨gb, 0, none⟩) gs.length c]) (by simp [results, Try.results53, go_sem, r0, r1]) rfl ⟨_, gs.set j ((gs.getD j gz).1, y, (gs.getD j gz).2.2), _, _, by rw [List.length_set], m0, .inr (by omega), by rw [List.length_set]; exact Go.Joins.ownsRow_le OF.out (by omega), HWF.out.set ⟨wf_in yr, (HWF.out j hj).2⟩, by rw [List.length_set]; exact Nat.le_succ _, GF.out, RF.out.le (by omega)⟩
    · have dk : decide ((0 : Int) < (gs.length : Int)) = false := decide_eq_false (by omega)
      go_upto_region 20 with fail
      obtain ⟨e0, e1, _⟩ := A53.cells; obtain ⟨e2, e3, _⟩ := A43.cells; obtain ⟨e4, e5⟩ := A43.frozen
      have Af := (A43.set0 (.int .i64 m)).set1 (.slice a gs.length c)
      obtain ⟨r0, r1, _⟩ := Af.cells
      have OF := Go.RowKit.ownsRow_setCell_below (Go.RowKit.ownsRow_setCell_below own3 (a := ⟨w.heap.size + 1, 0, none⟩) (Nat.lt_succ_self _) (.int .i64 m)) (a := ⟨w.heap.size + 1, 1, none⟩) (Nat.lt_succ_self _) (.slice a gs.length c)
      have GF := grown_set (grown_set G3 (p := ⟨w.heap.size + 1, 0, none⟩) (Nat.le_succ _) (.int .i64 m)) (p := ⟨w.heap.size + 1, 1, none⟩) (Nat.le_succ _) (.slice a gs.length c)
      have RF := (R3.setNew (q := ⟨w.heap.size + 1, 0, none⟩) (x := .int .i64 m) hr (Nat.le_succ _)).setNew (q := ⟨w.heap.size + 1, 1, none⟩) (x := .slice a gs.length c) hr (Nat.le_succ _)
      replace OF := Lib.hid OF; replace GF := Lib.hid GF; replace RF := Lib.hid RF
      clear Af
      go_wp2_with fail
      exact bodyPost_ret (v := .agg #[.int .i64 m, .slice a gs.length c]) (by simp [results, Try.results53, go_sem, r0, r1]) rfl ⟨_, gs, _, _, rfl, m0, .inr (by omega), Go.Joins.ownsRow_le OF.out (by omega), HWF.out, Nat.le_succ _, GF.out, RF.out.le (by omega)⟩
  have d2 : (p == 2) = false := by simpa using c2
  by_cases c3 : p = 3
  · subst c3
    by_cases hk : 0 < gs.length
    · have hk1 : (0 : Int) < (gs.length : Int) := by omega
      obtain ⟨gb, cq, e9, hgb, _⟩ := World.ownsRow.form own3 (by omega)
      cases e9
      have hw1 : IntKind.i64.wrap (2 + m) = 2 + m := IntWalk.i64_in _ (by omega)
      have hw2 : IntKind.i64.wrap (2 + m + gs.length) = 2 + m + gs.length := IntWalk.i64_in _ (by omega)
      have hw3 : IntKind.i64.wrap ((gs.length : Int) - 1) = ((gs.length - 1 : Nat) : Int) := by rw [show ((gs.length - 1 : Nat) : Int) = (gs.length : Int) - 1 by omega]; exact IntWalk.i64_in _ (by omega)
      obtain ⟨j, hje⟩ : ∃ j, j = gs.length - 1 := ⟨_, rfl⟩
      rw [← hje] at hw3
      have hj : j < gs.length := by omega
      have j0 : (0 : Int) ≤ (j : Int) := by omega
      have j2 : (j : Int) < (gs.length : Int) := by omega
      clear hje
      go_upto_region 13 with fail
      replace A43 := A43.drew; replace A53 := A53.drew; replace G3 := grown_drew G3; replace R3 := R3.drew; replace own3 := ownsRow_drew own3
      refine wp_region_noPanic ?_
      refine wp_regionS 14 (fun wx : World => wx.cell? ⟨w2.heap.size, 0, none⟩ = some (.int .i64 m) ∧ wx.cell? ⟨w2.heap.size, 1, none⟩ = some (.slice (some ⟨gb, 0, none⟩) gs.length c)) (by kernel_rfl) (⟨A53.cells.1, A53.cells.2.1⟩) (fun hHeld => ?_)
      refine anyS_take (i := 0) (oi := { dst := some 53, op := Go.Op.fieldAddr 39 (Go.Operand.tmp 5) 1, type := 0, pos := _, after := #[], guard := none }) (v := ?_) rfl (by kernel_rfl) (by kernel_rfl) (by kernel_rfl) (by kernel_rfl) (by kernel_rfl) (fun _ _ _ h => h) (Or.inl ⟨by rfl, ?_⟩) hHeld ?_
      rotate_left
      · (intro wq hSw; (try dsimp only at hSw); (try go_simp); (try with_reducible rfl))
      try simp only [Act.put, List.setIfInBounds_toArray, List.set_cons_zero, List.set_cons_succ]
      refine anyS_take (i := 1) (oi := { dst := some 54, op := Go.Op.load 37 (Go.Operand.tmp 53), type := 37, pos := _, after := #[{ on := 0, ground := Go.Ground.data }], guard := none }) (v := ?_) rfl (by kernel_rfl) (by kernel_rfl) (by kernel_rfl) (by kernel_rfl) (by kernel_rfl) (fun _ _ _ h => h) (Or.inl ⟨by rfl, ?_⟩) hHeld ?_
      rotate_left
      · (intro wq hSw; (try dsimp only at hSw); (try go_simp); (try with_reducible rfl))
      try simp only [Act.put, List.setIfInBounds_toArray, List.set_cons_zero, List.set_cons_succ]
      refine anyS_take (i := 2) (oi := { dst := some 55, op := Go.Op.move (Go.Operand.tmp 6), type := 3, pos := _, after := #[], guard := none }) (v := ?_) rfl (by kernel_rfl) (by kernel_rfl) (by kernel_rfl) (by kernel_rfl) (by kernel_rfl) (fun _ _ _ h => h) (Or.inl ⟨by rfl, ?_⟩) hHeld ?_
      rotate_left
      · (intro wq hSw; (try dsimp only at hSw); (try go_simp); (try with_reducible rfl))
      try simp only [Act.put, List.setIfInBounds_toArray, List.set_cons_zero, List.set_cons_succ]
      refine anyS_take (i := 3) (oi := { dst := some 56, op := Go.Op.binOp Go.BinOp.sub 3 (Go.Operand.tmp 55) (Go.Operand.const (Go.Value.int Go.IntKind.i64 1)) 3, type := 3, pos := _, after := #[{ on := 2, ground := Go.Ground.data }], guard := none }) (v := ?_) rfl (by kernel_rfl) (by kernel_rfl) (by kernel_rfl) (by kernel_rfl) (by kernel_rfl) (fun _ _ _ h => h) (Or.inl ⟨by rfl, ?_⟩) hHeld ?_
      rotate_left
      · (intro wq hSw; (try dsimp only at hSw); (try go_simp); (try with_reducible rfl))
      try simp only [Act.put, List.setIfInBounds_toArray, List.set_cons_zero, List.set_cons_succ]
      refine anyS_take (i := 4) (oi := { dst := some 57, op := Go.Op.move (Go.Operand.tmp 0), type := 63, pos := _, after := #[], guard := none }) (v := ?_) rfl (by kernel_rfl) (by kernel_rfl) (by kernel_rfl) (by kernel_rfl) (by kernel_rfl) (fun _ _ _ h => h) (Or.inl ⟨by rfl, ?_⟩) hHeld ?_
      rotate_left
      · (intro wq hSw; (try dsimp only at hSw); (try go_simp); (try with_reducible rfl))
      try simp only [Act.put, List.setIfInBounds_toArray, List.set_cons_zero, List.set_cons_succ]
      refine anyS_take (i := 5) (oi := { dst := some 58, op := Go.Op.fieldAddr 39 (Go.Operand.tmp 5) 0, type := 0, pos := _, after := #[], guard := none }) (v := ?_) rfl (by kernel_rfl) (by kernel_rfl) (by kernel_rfl) (by kernel_rfl) (by kernel_rfl) (fun _ _ _ h => h) (Or.inl ⟨by rfl, ?_⟩) hHeld ?_
      rotate_left
      · (intro wq hSw; (try dsimp only at hSw); (try go_simp); (try with_reducible rfl))
      try simp only [Act.put, List.setIfInBounds_toArray, List.set_cons_zero, List.set_cons_succ]
      refine anyS_take (i := 6) (oi := { dst := some 59, op := Go.Op.load 3 (Go.Operand.tmp 58), type := 3, pos := _, after := #[{ on := 5, ground := Go.Ground.data }], guard := none }) (v := ?_) rfl (by kernel_rfl) (by kernel_rfl) (by kernel_rfl) (by kernel_rfl) (by kernel_rfl) (fun _ _ _ h => h) (Or.inl ⟨by rfl, ?_⟩) hHeld ?_
      rotate_left
      · (intro wq hSw; (try dsimp only at hSw); (try go_simp); (try with_reducible rfl))
      try simp only [Act.put, List.setIfInBounds_toArray, List.set_cons_zero, List.set_cons_succ]
      refine anyS_take (i := 7) (oi := { dst := some 60, op := Go.Op.binOp Go.BinOp.add 3 (Go.Operand.const (Go.Value.int Go.IntKind.i64 2)) (Go.Operand.tmp 59) 3, type := 3, pos := _, after := #[{ on := 6, ground := Go.Ground.data }], guard := none }) (v := ?_) rfl (by kernel_rfl) (by kernel_rfl) (by kernel_rfl) (by kernel_rfl) (by kernel_rfl) (fun _ _ _ h => h) (Or.inl ⟨by rfl, ?_⟩) hHeld ?_
      rotate_left
      · (intro wq hSw; (try dsimp only at hSw); (try go_simp); (try with_reducible rfl))
      try simp only [Act.put, List.setIfInBounds_toArray, List.set_cons_zero, List.set_cons_succ]
      refine anyS_take (i := 8) (oi := { dst := some 61, op := Go.Op.move (Go.Operand.tmp 6), type := 3, pos := _, after := #[], guard := none }) (v := ?_) rfl (by kernel_rfl) (by kernel_rfl) (by kernel_rfl) (by kernel_rfl) (by kernel_rfl) (fun _ _ _ h => h) (Or.inl ⟨by rfl, ?_⟩) hHeld ?_
      rotate_left
      · (intro wq hSw; (try dsimp only at hSw); (try go_simp); (try with_reducible rfl))
      try simp only [Act.put, List.setIfInBounds_toArray, List.set_cons_zero, List.set_cons_succ]
      refine anyS_take (i := 9) (oi := { dst := some 62, op := Go.Op.binOp Go.BinOp.add 3 (Go.Operand.tmp 60) (Go.Operand.tmp 61) 3, type := 3, pos := _, after := #[{ on := 7, ground := Go.Ground.data }, { on := 8, ground := Go.Ground.data }], guard := none }) (v := ?_) rfl (by kernel_rfl) (by kernel_rfl) (by kernel_rfl) (by kernel_rfl) (by kernel_rfl) (fun _ _ _ h => h) (Or.inl ⟨by rfl, ?_⟩) hHeld ?_
      rotate_left
      · (intro wq hSw; (try dsimp only at hSw); (try go_simp); (try with_reducible rfl))
      try simp only [Act.put, List.setIfInBounds_toArray, List.set_cons_zero, List.set_cons_succ]
      refine anyS_ready (rs := [10]) (by kernel_rfl) (by simp) ?_
      refine readyS_cons (o := { dst := some 63, op := Go.Op.buildSlice 30 4 #[(0, Go.Operand.const (Go.Value.int Go.IntKind.i64 0)), (1, Go.Operand.tmp 62), (2, Go.Operand.const (Go.Value.int Go.IntKind.i64 (-2))), (3, Go.Operand.const (Go.Value.int Go.IntKind.i64 9223372036854775807))], type := 30, pos := _, after := #[{ on := 9, ground := Go.Ground.data }], guard := none }) rfl (fun KK hKK => ?_) (readyS_nil)
      go_simp
      have A43b := A43.alloc (.cells #[.int .i64 (0), .int .i64 (2 + m + gs.length), .int .i64 (-2), .int .i64 (9223372036854775807)] 3); have A53b := A53.alloc (.cells #[.int .i64 (0), .int .i64 (2 + m + gs.length), .int .i64 (-2), .int .i64 (9223372036854775807)] 3); have G3b := grown_alloc G3 (.cells #[.int .i64 (0), .int .i64 (2 + m + gs.length), .int .i64 (-2), .int .i64 (9223372036854775807)] 3); have R3b := R3.alloc (.cells #[.int .i64 (0), .int .i64 (2 + m + gs.length), .int .i64 (-2), .int .i64 (9223372036854775807)] 3); have own3b : OwnG (w3.drew.alloc (.cells #[.int .i64 (0), .int .i64 (2 + m + gs.length), .int .i64 (-2), .int .i64 (9223372036854775807)] 3)) (w.heap.size + 2) (.slice (some ⟨gb, 0, none⟩) gs.length c) gs := World.ownsRow.alloc own3 (.cells #[.int .i64 (0), .int .i64 (2 + m + gs.length), .int .i64 (-2), .int .i64 (9223372036854775807)] 3)
      have HC3b : ∀ i, i < 4 → ∃ x : Int, (w3.drew.alloc (.cells #[.int .i64 (0), .int .i64 (2 + m + gs.length), .int .i64 (-2), .int .i64 (9223372036854775807)] 3)).cell? ⟨w3.heap.size, i, none⟩ = some (.int .i64 x) ∧ In64 x := new_ints_in w3.drew (In64) [0, 2 + m + gs.length, -2, 9223372036854775807] 3 (by simp [In64]; omega)
      have hgk : w3.heap.size ≠ g := by have := R3.lt; omega
      have hlk : w3.heap.size < (w3.drew.alloc (.cells #[.int .i64 (0), .int .i64 (2 + m + gs.length), .int .i64 (-2), .int .i64 (9223372036854775807)] 3)).heap.size := by simp
      replace HC3b := Lib.hid HC3b
      clear A43 A53 G3 R3 own3
      try go_simp
      refine hKK.out _ _ (⟨A53b.cells.1, A53b.cells.2.1⟩) (fun hHeld => ?_)
      clear hKK KK
      try simp only [Act.put, List.setIfInBounds_toArray, List.set_cons_zero, List.set_cons_succ]
      refine anyS_ready (rs := [11]) (by kernel_rfl) (by simp) ?_
      refine readyS_cons (o := { dst := some 64, op := Go.Op.call { callee := Go.Callee.value (Go.Operand.func 41), args := #[Go.Operand.tmp 57, Go.Operand.tmp 63], argTypes := #[63, 30] }, type := 3, pos := _, after := #[{ on := 4, ground := Go.Ground.data }, { on := 10, ground := Go.Ground.data }], guard := none }) rfl (fun KK hKK => ?_) (readyS_nil)
      go_simp
      go_at_call 41
      refine (num_in (In64) g _ u w3.heap.size 4 4 _ R3b (by omega) (by omega) (by omega) hgk HC3b.out).mono ?_
      rintro e w3bn ⟨_, rfl, ⟨y, rfl, yr⟩, hg, R3bn⟩
      have A43bn := A43b.keepG hg (by omega); have A53bn := A53b.keepG hg (by omega); have G3bn := grown_two G3b hg; have own3bn : OwnG w3bn (w.heap.size + 2) (.slice (some ⟨gb, 0, none⟩) gs.length c) gs := own_grown own3b hg (by omega)
      clear hg A43b A53b G3b R3b own3b hgk hlk
      obtain ⟨uu, cc⟩ : ∃ u, w3bn.cell? ⟨gb, j * 3 + 2, none⟩ = some u := ⟨_, (own3bn.cellAt (j * 3 + 2) (by omega)).trans (gflat_get gs j 2 hj (by omega))⟩
      have ff : w3bn.frozen? ⟨gb, j * 3 + 2, none⟩ = false := own3bn.frozenAt _
      obtain ⟨ownS, hgS⟩ := own3bn.stored (j * 3 + 2) (.int .i64 y)
      have sKK := And.intro A53bn.cells.1 A53bn.cells.2.1
      have ownN : OwnG (w3bn.setCell ⟨gb, j * 3 + 2, none⟩ (.int .i64 y)) (w.heap.size + 2) (.slice (some ⟨gb, 0, none⟩) gs.length c) (gs.set j ((gs.getD j gz).1, (gs.getD j gz).2.1, y)) := by
        unfold OwnG; rw [← gflat_set2 gs j y hj, List.length_set]; exact ownS
      have A4N := A43bn.set_other (p := ⟨gb, j * 3 + 2, none⟩) (z := .int .i64 y) (by show w.heap.size + 1 ≠ gb; have := (own3bn.lt gb rfl).1; omega)
      have A5N := A53bn.set_other (p := ⟨gb, j * 3 + 2, none⟩) (z := .int .i64 y) (by show w2.heap.size ≠ gb; exact fun e => hne.out (by rw [e]; rfl))
      have GN := grown_new G3bn hgS (fun q hq => by cases hq; have := (own3bn.lt gb rfl).1; omega)
      have RN := R3bn.growNew hr hgS (fun q hq => by cases hq; have := (own3bn.lt gb rfl).1; omega)
      replace ownN := Lib.hid ownN; replace GN := Lib.hid GN; replace RN := Lib.hid RN; replace A4N := Lib.hid A4N; replace A5N := Lib.hid A5N
      clear ownS hgS A43bn A53bn G3bn R3bn own3bn
      try go_simp
      refine hKK.out _ _ (sKK) (fun hHeld => ?_)
      clear hKK KK
      try simp only [Act.put, List.setIfInBounds_toArray, List.set_cons_zero, List.set_cons_succ]
      refine anyS_ready (rs := [12]) (by kernel_rfl) (by simp) ?_
      refine readyS_cons (o := { dst := some 65, op := Go.Op.indexAddr 37 (Go.Operand.tmp 54) (Go.Operand.tmp 56), type := 0, pos := _, after := #[{ on := 1, ground := Go.Ground.data }, { on := 3, ground := Go.Ground.data }, { on := 0, ground := Go.Ground.phase }, { on := 1, ground := Go.Ground.phase }, { on := 2, ground := Go.Ground.phase }, { on := 3, ground := Go.Ground.phase }, { on := 4, ground := Go.Ground.phase }, { on := 5, ground := Go.Ground.phase }, { on := 6, ground := Go.Ground.phase }, { on := 7, ground := Go.Ground.phase }, { on := 8, ground := Go.Ground.phase }, { on := 9, ground := Go.Ground.phase }, { on := 10, ground := Go.Ground.phase }, { on := 11, ground := Go.Ground.phase }], guard := none }) rfl (fun KK hKK => ?_) (readyS_nil)
      go_simp
      try go_simp
      refine hKK.out _ _ (hHeld) (fun hHeld => ?_)
      clear hKK KK
      try simp only [Act.put, List.setIfInBounds_toArray, List.set_cons_zero, List.set_cons_succ]
      refine anyS_take (i := 13) (oi := { dst := some 66, op := Go.Op.fieldAddr 47 (Go.Operand.tmp 65) 2, type := 0, pos := _, after := #[{ on := 12, ground := Go.Ground.data }, { on := 0, ground := Go.Ground.phase }, { on := 1, ground := Go.Ground.phase }, { on := 2, ground := Go.Ground.phase }, { on := 3, ground := Go.Ground.phase }, { on := 4, ground := Go.Ground.phase }, { on := 5, ground := Go.Ground.phase }, { on := 6, ground := Go.Ground.phase }, { on := 7, ground := Go.Ground.phase }, { on := 8, ground := Go.Ground.phase }, { on := 9, ground := Go.Ground.phase }, { on := 10, ground := Go.Ground.phase }, { on := 11, ground := Go.Ground.phase }], guard := none }) (v := ?_) rfl (by kernel_rfl) (by kernel_rfl) (by kernel_rfl) (by kernel_rfl) (by kernel_rfl) (fun _ _ _ h => h) (Or.inl ⟨by rfl, ?_⟩) hHeld ?_
      rotate_left
      · (intro wq hSw; (try dsimp only at hSw); (try go_simp); (try with_reducible rfl))
      try simp only [Act.put, List.setIfInBounds_toArray, List.set_cons_zero, List.set_cons_succ]
      refine anyS_ready (rs := [14]) (by kernel_rfl) (by simp) ?_
      refine readyS_last (o := { dst := none, op := Go.Op.store 3 (Go.Operand.tmp 66) (Go.Operand.tmp 64), type := 0, pos := _, after := #[{ on := 13, ground := Go.Ground.data }, { on := 11, ground := Go.Ground.data }, { on := 11, ground := Go.Ground.chain }, { on := 0, ground := Go.Ground.phase }, { on := 1, ground := Go.Ground.phase }, { on := 2, ground := Go.Ground.phase }, { on := 3, ground := Go.Ground.phase }, { on := 4, ground := Go.Ground.phase }, { on := 5, ground := Go.Ground.phase }, { on := 6, ground := Go.Ground.phase }, { on := 7, ground := Go.Ground.phase }, { on := 8, ground := Go.Ground.phase }, { on := 9, ground := Go.Ground.phase }, { on := 10, ground := Go.Ground.phase }, { on := 11, ground := Go.Ground.phase }], guard := none }) rfl (by kernel_rfl) (fun KK hKK => ?_) (readyS_nil)
      go_simp
      refine hKK.out _ _ ?_
      clear hKK KK hHeld
      have hHeld := trivial
      try simp only [Act.put, List.setIfInBounds_toArray, List.set_cons_zero, List.set_cons_succ]
      refine anyS_done (by kernel_rfl) ?_ _
      refine NoPanic.normal ?_
      clear cc ff hHeld
      replace A4N := A4N.out; replace A5N := A5N.out
      go_upto_region 20 with fail
      obtain ⟨e0, e1, _⟩ := A5N.cells; obtain ⟨e2, e3, _⟩ := A4N.cells; obtain ⟨e4, e5⟩ := A4N.frozen
      have Af := (A4N.set0 (.int .i64 m)).set1 (.slice (some ⟨gb, 0, none⟩) gs.length c)
      obtain ⟨r0, r1, _⟩ := Af.cells
      have OF := Go.RowKit.ownsRow_setCell_below (Go.RowKit.ownsRow_setCell_below ownN.out (a := ⟨w.heap.size + 1, 0, none⟩) (Nat.lt_succ_self _) (.int .i64 m)) (a := ⟨w.heap.size + 1, 1, none⟩) (Nat.lt_succ_self _) (.slice (some ⟨gb, 0, none⟩) gs.length c)
      have GF := grown_set (grown_set GN.out (p := ⟨w.heap.size + 1, 0, none⟩) (Nat.le_succ _) (.int .i64 m)) (p := ⟨w.heap.size + 1, 1, none⟩) (Nat.le_succ _) (.slice (some ⟨gb, 0, none⟩) gs.length c)
      have RF := (RN.out.setNew (q := ⟨w.heap.size + 1, 0, none⟩) (x := .int .i64 m) hr (Nat.le_succ _)).setNew (q := ⟨w.heap.size + 1, 1, none⟩) (x := .slice (some ⟨gb, 0, none⟩) gs.length c) hr (Nat.le_succ _)
      replace OF := Lib.hid OF; replace GF := Lib.hid GF; replace RF := Lib.hid RF
      clear Af
      go_wp2_with fail
      exact bodyPost_ret (v := .agg #[.int .i64 m, .slice (some ⟨gb, 0, none⟩) gs.length c]) (by simp [results, Try.results53, go_sem, r0, r1]) rfl ⟨_, gs.set j ((gs.getD j gz).1, (gs.getD j gz).2.1, y), _, _, by rw [List.length_set], m0, .inr (by omega), by rw [List.length_set]; exact Go.Joins.ownsRow_le OF.out (by omega), HWF.out.set ⟨(HWF.out j hj).1, wf_in yr⟩, by rw [List.length_set]; exact Nat.le_succ _, GF.out, RF.out.le (by omega)⟩
    · have dk : decide ((0 : Int) < (gs.length : Int)) = false := decide_eq_false (by omega)
      go_upto_region 20 with fail
      obtain ⟨e0, e1, _⟩ := A53.cells; obtain ⟨e2, e3, _⟩ := A43.cells; obtain ⟨e4, e5⟩ := A43.frozen
      have Af := (A43.set0 (.int .i64 m)).set1 (.slice a gs.length c)
      obtain ⟨r0, r1, _⟩ := Af.cells
      have OF := Go.RowKit.ownsRow_setCell_below (Go.RowKit.ownsRow_setCell_below own3 (a := ⟨w.heap.size + 1, 0, none⟩) (Nat.lt_succ_self _) (.int .i64 m)) (a := ⟨w.heap.size + 1, 1, none⟩) (Nat.lt_succ_self _) (.slice a gs.length c)
      have GF := grown_set (grown_set G3 (p := ⟨w.heap.size + 1, 0, none⟩) (Nat.le_succ _) (.int .i64 m)) (p := ⟨w.heap.size + 1, 1, none⟩) (Nat.le_succ _) (.slice a gs.length c)
      have RF := (R3.setNew (q := ⟨w.heap.size + 1, 0, none⟩) (x := .int .i64 m) hr (Nat.le_succ _)).setNew (q := ⟨w.heap.size + 1, 1, none⟩) (x := .slice a gs.length c) hr (Nat.le_succ _)
      replace OF := Lib.hid OF; replace GF := Lib.hid GF; replace RF := Lib.hid RF
      clear Af
      go_wp2_with fail
      exact bodyPost_ret (v := .agg #[.int .i64 m, .slice a gs.length c]) (by simp [results, Try.results53, go_sem, r0, r1]) rfl ⟨_, gs, _, _, rfl, m0, .inr (by omega), Go.Joins.ownsRow_le OF.out (by omega), HWF.out, Nat.le_succ _, GF.out, RF.out.le (by omega)⟩
  have d3 : (p == 3) = false := by simpa using c3
  by_cases c4 : p = 4
  · subst c4
    by_cases hk : 0 < gs.length
    · have hk1 : (0 : Int) < (gs.length : Int) := by omega
      obtain ⟨gb, cq, e9, hgb, _⟩ := World.ownsRow.form own3 (by omega)
      cases e9
      go_upto_region 16 with fail
      replace A43 := A43.drew; replace A53 := A53.drew; replace G3 := grown_drew G3; replace R3 := R3.drew; replace own3 := ownsRow_drew own3
      refine wp_region_noPanic ?_
      refine wp_regionS 12 (fun wx : World => wx.cell? ⟨w2.heap.size, 0, none⟩ = some (.int .i64 m) ∧ wx.cell? ⟨w2.heap.size, 1, none⟩ = some (.slice (some ⟨gb, 0, none⟩) gs.length c)) (by kernel_rfl) (⟨A53.cells.1, A53.cells.2.1⟩) (fun hHeld => ?_)
      refine anyS_take (i := 0) (oi := { dst := some 71, op := Go.Op.fieldAddr 39 (Go.Operand.tmp 5) 1, type := 0, pos := _, after := #[], guard := none }) (v := ?_) rfl (by kernel_rfl) (by kernel_rfl) (by kernel_rfl) (by kernel_rfl) (by kernel_rfl) (fun _ _ _ h => h) (Or.inl ⟨by rfl, ?_⟩) hHeld ?_
      rotate_left
      · (intro wq hSw; (try dsimp only at hSw); (try go_simp); (try with_reducible rfl))
      try simp only [Act.put, List.setIfInBounds_toArray, List.set_cons_zero, List.set_cons_succ]
      refine anyS_take (i := 1) (oi := { dst := some 72, op := Go.Op.load 37 (Go.Operand.tmp 71), type := 37, pos := _, after := #[{ on := 0, ground := Go.Ground.data }], guard := none }) (v := ?_) rfl (by kernel_rfl) (by kernel_rfl) (by kernel_rfl) (by kernel_rfl) (by kernel_rfl) (fun _ _ _ h => h) (Or.inl ⟨by rfl, ?_⟩) hHeld ?_
      rotate_left
      · (intro wq hSw; (try dsimp only at hSw); (try go_simp); (try with_reducible rfl))
      try simp only [Act.put, List.setIfInBounds_toArray, List.set_cons_zero, List.set_cons_succ]
      refine anyS_take (i := 2) (oi := { dst := some 73, op := Go.Op.fieldAddr 39 (Go.Operand.tmp 5) 1, type := 0, pos := _, after := #[], guard := none }) (v := ?_) rfl (by kernel_rfl) (by kernel_rfl) (by kernel_rfl) (by kernel_rfl) (by kernel_rfl) (fun _ _ _ h => h) (Or.inl ⟨by rfl, ?_⟩) hHeld ?_
      rotate_left
      · (intro wq hSw; (try dsimp only at hSw); (try go_simp); (try with_reducible rfl))
      try simp only [Act.put, List.setIfInBounds_toArray, List.set_cons_zero, List.set_cons_succ]
      refine anyS_take (i := 3) (oi := { dst := some 74, op := Go.Op.load 37 (Go.Operand.tmp 73), type := 37, pos := _, after := #[{ on := 2, ground := Go.Ground.data }], guard := none }) (v := ?_) rfl (by kernel_rfl) (by kernel_rfl) (by kernel_rfl) (by kernel_rfl) (by kernel_rfl) (fun _ _ _ h => h) (Or.inl ⟨by rfl, ?_⟩) hHeld ?_
      rotate_left
      · (intro wq hSw; (try dsimp only at hSw); (try go_simp); (try with_reducible rfl))
      try simp only [Act.put, List.setIfInBounds_toArray, List.set_cons_zero, List.set_cons_succ]
      refine anyS_take (i := 4) (oi := { dst := some 75, op := Go.Op.move (Go.Operand.tmp 0), type := 63, pos := _, after := #[], guard := none }) (v := ?_) rfl (by kernel_rfl) (by kernel_rfl) (by kernel_rfl) (by kernel_rfl) (by kernel_rfl) (fun _ _ _ h => h) (Or.inl ⟨by rfl, ?_⟩) hHeld ?_
      rotate_left
      · (intro wq hSw; (try dsimp only at hSw); (try go_simp); (try with_reducible rfl))
      try simp only [Act.put, List.setIfInBounds_toArray, List.set_cons_zero, List.set_cons_succ]
      refine anyS_take (i := 5) (oi := { dst := some 76, op := Go.Op.move (Go.Operand.tmp 6), type := 3, pos := _, after := #[], guard := none }) (v := ?_) rfl (by kernel_rfl) (by kernel_rfl) (by kernel_rfl) (by kernel_rfl) (by kernel_rfl) (fun _ _ _ h => h) (Or.inl ⟨by rfl, ?_⟩) hHeld ?_
      rotate_left
      · (intro wq hSw; (try dsimp only at hSw); (try go_simp); (try with_reducible rfl))
      try simp only [Act.put, List.setIfInBounds_toArray, List.set_cons_zero, List.set_cons_succ]
      refine anyS_ready (rs := [6]) (by kernel_rfl) (by simp) ?_
      refine readyS_cons (o := { dst := some 77, op := Go.Op.call { callee := Go.Callee.value (Go.Operand.func 40), args := #[Go.Operand.tmp 75, Go.Operand.tmp 76], argTypes := #[63, 3] }, type := 3, pos := _, after := #[{ on := 4, ground := Go.Ground.data }, { on := 5, ground := Go.Ground.data }], guard := none }) rfl (fun KK hKK => ?_) (readyS_nil)
      go_simp
      go_at_call 40
      refine (pick_any g _ u (gs.length : Int) _ R3 (by omega)).mono ?_
      rintro e w3p ⟨j, rfl, j0, j1, _, hg, R3p⟩
      have j2 := j1 (by omega)
      clear j1
      obtain ⟨j, rfl⟩ := Int.eq_ofNat_of_zero_le j0
      have hj : j < gs.length := by omega
      have A43p := A43.keepG hg (by omega); have A53p := A53.keepG hg (by omega); have G3p := grown_two G3 hg; have own3p : OwnG w3p (w.heap.size + 2) (.slice (some ⟨gb, 0, none⟩) gs.length c) gs := own_grown own3 hg (by omega)
      clear hg A43 A53 G3 R3 own3
      have c0 : w3p.cell? ⟨gb, j * 3, none⟩ = some (.bool (gs.getD j gz).1) := (own3p.cellAt (j * 3) (by omega)).trans (gflat_get gs j 0 hj (by omega))
      have c1' : w3p.cell? ⟨gb, j * 3 + 1, none⟩ = some (.int .i64 (gs.getD j gz).2.1) := (own3p.cellAt (j * 3 + 1) (by omega)).trans (gflat_get gs j 1 hj (by omega))
      have c2' : w3p.cell? ⟨gb, j * 3 + 2, none⟩ = some (.int .i64 (gs.getD j gz).2.2) := (own3p.cellAt (j * 3 + 2) (by omega)).trans (gflat_get gs j 2 hj (by omega))
      have hwj := HWF.out j hj
      generalize gs.getD j gz = yy at c0 c1' c2' hwj
      obtain ⟨t0, t1, t2⟩ := yy
      dsimp only at c0 c1' c2' hwj
      try go_simp
      refine hKK.out _ _ (⟨A53p.cells.1, A53p.cells.2.1⟩) (fun hHeld => ?_)
      clear hKK KK
      try simp only [Act.put, List.setIfInBounds_toArray, List.set_cons_zero, List.set_cons_succ]
      refine anyS_take (i := 7) (oi := { dst := some 78, op := Go.Op.indexAddr 37 (Go.Operand.tmp 74) (Go.Operand.tmp 77), type := 0, pos := _, after := #[{ on := 3, ground := Go.Ground.data }, { on := 6, ground := Go.Ground.data }], guard := none }) (v := ?_) rfl (by kernel_rfl) (by kernel_rfl) (by kernel_rfl) (by kernel_rfl) (by kernel_rfl) (fun _ _ _ h => h) (Or.inl ⟨by rfl, ?_⟩) hHeld ?_
      rotate_left
      · (intro wq hSw; (try dsimp only at hSw); (try go_simp); (try with_reducible rfl))
      try simp only [Act.put, List.setIfInBounds_toArray, List.set_cons_zero, List.set_cons_succ]
      refine anyS_ready (rs := [8]) (by kernel_rfl) (by simp) ?_
      refine readyS_cons (o := { dst := some 79, op := Go.Op.load 47 (Go.Operand.tmp 78), type := 47, pos := _, after := #[{ on := 7, ground := Go.Ground.data }], guard := none }) rfl (fun KK hKK => ?_) (readyS_nil)
      go_simp
      try go_simp
      refine hKK.out _ _ (⟨A53p.cells.1, A53p.cells.2.1⟩) (fun hHeld => ?_)
      clear hKK KK
      try simp only [Act.put, List.setIfInBounds_toArray, List.set_cons_zero, List.set_cons_succ]
      refine anyS_ready (rs := [9]) (by kernel_rfl) (by simp) ?_
      refine readyS_cons (o := { dst := some 80, op := Go.Op.buildSlice 37 1 #[(0, Go.Operand.tmp 79)], type := 37, pos := _, after := #[{ on := 8, ground := Go.Ground.data }], guard := none }) rfl (fun KK hKK => ?_) (readyS_nil)
      go_simp
      clear c0 c1' c2'
      have A43pq := A43p.alloc (.cells #[.bool t0, .int .i64 t1, .int .i64 t2] 47); have A53pq := A53p.alloc (.cells #[.bool t0, .int .i64 t1, .int .i64 t2] 47); have G3pq := grown_alloc G3p (.cells #[.bool t0, .int .i64 t1, .int .i64 t2] 47); have R3pq := R3p.alloc (.cells #[.bool t0, .int .i64 t1, .int .i64 t2] 47); have own3pq := World.ownsRow.alloc own3p (.cells #[.bool t0, .int .i64 t1, .int .i64 t2] 47)
      have hk := heap_alloc_new w3p (.cells #[.bool t0, .int .i64 t1, .int .i64 t2] 47)
      have hsz : w2.heap.size < w3p.heap.size := A53p.lt
      clear A43p A53p G3p R3p own3p
      try go_simp
      refine hKK.out _ _ (⟨A53pq.cells.1, A53pq.cells.2.1⟩) (fun hHeld => ?_)
      clear hKK KK
      try simp only [Act.put, List.setIfInBounds_toArray, List.set_cons_zero, List.set_cons_succ]
      refine anyS_ready (rs := [10]) (by kernel_rfl) (by simp) ?_
      refine readyS_cons (o := { dst := some 81, op := Go.Op.call { callee := Go.Callee.builtin Go.Builtin.append, args := #[Go.Operand.tmp 72, Go.Operand.tmp 80], argTypes := #[37, 37] }, type := 37, pos := _, after := #[{ on := 1, ground := Go.Ground.data }, { on := 9, ground := Go.Ground.data }, { on := 6, ground := Go.Ground.chain }], guard := none }) rfl (fun KK hKK => ?_) (readyS_nil)
      refine step_append_lies _ rfl (.tmp 72) (.tmp 80) _ rfl (w.heap.size + 2) 47 i0 (.agg #[.bool false, .int .i64 0, .int .i64 0]) 3 24 Try.underlying37 hi hz0 hz1 hz2 rfl (by omega) (.slice (some ⟨gb, 0, none⟩) gs.length c) gs.length (gflat gs) (by rfl) own3pq ⟨w3p.heap.size, 0, none⟩ 1 1 [.bool t0, .int .i64 t1, .int .i64 t2] (by rfl) rfl (World.news_of_block hk) (by simp [Value.oneCell']) (by omega) (by unfold maxLen; omega) (by omega) (by simp; omega) _ rfl ?_
      intro b8 c8 w8 own8 hg8 hat8 hlt8
      have hrow : ∀ q, Value.ownBlock (.slice (some ⟨gb, 0, none⟩) gs.length c) = some q → w.heap.size + 2 ≤ q ∧ q ≠ w2.heap.size := fun q e => ⟨(own3pq.lt q e).1, fun e2 => hne.out (by rw [e, e2])⟩
      have A48 := blk_row A43pq hg8 (fun e => by have := (hrow _ e).1; omega); have A58 := blk_row A53pq hg8 (fun e => (hrow _ e).2 rfl)
      have G8 := grown_new G3pq hg8 (fun q e => by have := (hrow q e).1; omega)
      have R8 := R3pq.growNew hr hg8 (fun q e => by have := (hrow q e).1; omega)
      have hne8 : (Value.slice (some ⟨b8, 0, none⟩) (gs.length + 1) c8).ownBlock ≠ some w2.heap.size := fun e => by
        have e9 : b8 = w2.heap.size := Option.some.inj e
        rcases hat8 with h9 | h9
        · exact hne.out (by rw [h9, e9])
        · have h10 : b8 = (w3p.alloc (.cells #[.bool t0, .int .i64 t1, .int .i64 t2] 47)).heap.size := h9
          simp at h10; omega
      clear hg8 hat8 hlt8 A43pq A53pq G3pq R3pq own3pq hk
      obtain ⟨C0, C1, _⟩ := A58.cells; obtain ⟨F0, F1⟩ := A58.frozen
      try go_simp
      refine hKK.out _ _ (⟨A58.cells.1, A58.cells.2.1⟩) (fun hHeld => ?_)
      clear hKK KK
      try simp only [Act.put, List.setIfInBounds_toArray, List.set_cons_zero, List.set_cons_succ]
      refine anyS_take (i := 11) (oi := { dst := some 82, op := Go.Op.fieldAddr 39 (Go.Operand.tmp 5) 1, type := 0, pos := _, after := #[{ on := 0, ground := Go.Ground.phase }, { on := 1, ground := Go.Ground.phase }, { on := 2, ground := Go.Ground.phase }, { on := 3, ground := Go.Ground.phase }, { on := 4, ground := Go.Ground.phase }, { on := 5, ground := Go.Ground.phase }, { on := 6, ground := Go.Ground.phase }, { on := 7, ground := Go.Ground.phase }, { on := 8, ground := Go.Ground.phase }, { on := 9, ground := Go.Ground.phase }, { on := 10, ground := Go.Ground.phase }], guard := none }) (v := ?_) rfl (by kernel_rfl) (by kernel_rfl) (by kernel_rfl) (by kernel_rfl) (by kernel_rfl) (fun _ _ _ h => h) (Or.inl ⟨by rfl, ?_⟩) hHeld ?_
      rotate_left
      · (intro wq hSw; (try dsimp only at hSw); (try go_simp); (try with_reducible rfl))
      try simp only [Act.put, List.setIfInBounds_toArray, List.set_cons_zero, List.set_cons_succ]
      refine anyS_ready (rs := [12]) (by kernel_rfl) (by simp) ?_
      refine readyS_last (o := { dst := none, op := Go.Op.store 37 (Go.Operand.tmp 82) (Go.Operand.tmp 81), type := 0, pos := _, after := #[{ on := 11, ground := Go.Ground.data }, { on := 10, ground := Go.Ground.data }, { on := 10, ground := Go.Ground.chain }, { on := 0, ground := Go.Ground.phase }, { on := 1, ground := Go.Ground.phase }, { on := 2, ground := Go.Ground.phase }, { on := 3, ground := Go.Ground.phase }, { on := 4, ground := Go.Ground.phase }, { on := 5, ground := Go.Ground.phase }, { on := 6, ground := Go.Ground.phase }, { on := 7, ground := Go.Ground.phase }, { on := 8, ground := Go.Ground.phase }, { on := 9, ground := Go.Ground.phase }, { on := 10, ground := Go.Ground.phase }], guard := none }) rfl (by kernel_rfl) (fun KK hKK => ?_) (readyS_nil)
      go_simp
      refine hKK.out _ _ ?_
      clear hKK KK hHeld
      have hHeld := trivial
      try simp only [Act.put, List.setIfInBounds_toArray, List.set_cons_zero, List.set_cons_succ]
      refine anyS_done (by kernel_rfl) ?_ _
      refine NoPanic.normal ?_
      clear C0 C1 F0 F1 hHeld
      have A49 := A48.set_other (p := ⟨w2.heap.size, 1, none⟩) (z := .slice (some ⟨b8, 0, none⟩) (gs.length + 1) c8) (by show w.heap.size + 1 ≠ w2.heap.size; omega)
      have A59 := A58.set1 (.slice (some ⟨b8, 0, none⟩) (gs.length + 1) c8)
      have own9 : OwnG (w8.setCell ⟨w2.heap.size, 1, none⟩ (.slice (some ⟨b8, 0, none⟩) (gs.length + 1) c8)) (w.heap.size + 2) (.slice (some ⟨b8, 0, none⟩) (gs.length + 1) c8) (gs ++ [(t0, t1, t2)]) := putSnoc (g := (t0, t1, t2)) (own_setCell own8 (p := ⟨w2.heap.size, 1, none⟩) hne8 (.slice (some ⟨b8, 0, none⟩) (gs.length + 1) c8))
      have G9 := grown_set G8 (p := ⟨w2.heap.size, 1, none⟩) (by show w.heap.size ≤ w2.heap.size; omega) (.slice (some ⟨b8, 0, none⟩) (gs.length + 1) c8)
      have R9 := R8.setNew (q := ⟨w2.heap.size, 1, none⟩) (x := .slice (some ⟨b8, 0, none⟩) (gs.length + 1) c8) hr (by show w.heap.size ≤ w2.heap.size; omega)
      clear A48 A58 own8 G8 R8
      replace own9 := Lib.hid own9; replace G9 := Lib.hid G9; replace R9 := Lib.hid R9
      go_upto_region 20 with fail
      obtain ⟨e0, e1, _⟩ := A59.cells; obtain ⟨e2, e3, _⟩ := A49.cells; obtain ⟨e4, e5⟩ := A49.frozen
      have Af := (A49.set0 (.int .i64 m)).set1 (.slice (some ⟨b8, 0, none⟩) (gs.length + 1) c8)
      obtain ⟨r0, r1, _⟩ := Af.cells
      have OF := Go.RowKit.ownsRow_setCell_below (Go.RowKit.ownsRow_setCell_below own9.out (a := ⟨w.heap.size + 1, 0, none⟩) (Nat.lt_succ_self _) (.int .i64 m)) (a := ⟨w.heap.size + 1, 1, none⟩) (Nat.lt_succ_self _) (.slice (some ⟨b8, 0, none⟩) (gs.length + 1) c8)
      have GF := grown_set (grown_set G9.out (p := ⟨w.heap.size + 1, 0, none⟩) (Nat.le_succ _) (.int .i64 m)) (p := ⟨w.heap.size + 1, 1, none⟩) (Nat.le_succ _) (.slice (some ⟨b8, 0, none⟩) (gs.length + 1) c8)
      have RF := (R9.out.setNew (q := ⟨w.heap.size + 1, 0, none⟩) (x := .int .i64 m) hr (Nat.le_succ _)).setNew (q := ⟨w.heap.size + 1, 1, none⟩) (x := .slice (some ⟨b8, 0, none⟩) (gs.length + 1) c8) hr (Nat.le_succ _)
      replace OF := Lib.hid OF; replace GF := Lib.hid GF; replace RF := Lib.hid RF
      clear Af
      go_wp2_with fail
      exact bodyPost_ret (v := .agg #[.int .i64 m, .slice (some ⟨b8, 0, none⟩) (gs.length + 1) c8]) (by simp [results, Try.results53, go_sem, r0, r1]) rfl ⟨_, gs ++ [(t0, t1, t2)], _, _, by rw [snoc_len], m0, .inr (by omega), by rw [snoc_len]; exact Go.Joins.ownsRow_le OF.out (by omega), HWF.out.snoc hwj, by rw [snoc_len]; exact Nat.le_refl _, GF.out, RF.out.le (by omega)⟩
    · have dk : decide ((0 : Int) < (gs.length : Int)) = false := decide_eq_false (by omega)
      go_upto_region 20 with fail
      obtain ⟨e0, e1, _⟩ := A53.cells; obtain ⟨e2, e3, _⟩ := A43.cells; obtain ⟨e4, e5⟩ := A43.frozen
      have Af := (A43.set0 (.int .i64 m)).set1 (.slice a gs.length c)
      obtain ⟨r0, r1, _⟩ := Af.cells
      have OF := Go.RowKit.ownsRow_setCell_below (Go.RowKit.ownsRow_setCell_below own3 (a := ⟨w.heap.size + 1, 0, none⟩) (Nat.lt_succ_self _) (.int .i64 m)) (a := ⟨w.heap.size + 1, 1, none⟩) (Nat.lt_succ_self _) (.slice a gs.length c)
      have GF := grown_set (grown_set G3 (p := ⟨w.heap.size + 1, 0, none⟩) (Nat.le_succ _) (.int .i64 m)) (p := ⟨w.heap.size + 1, 1, none⟩) (Nat.le_succ _) (.slice a gs.length c)
      have RF := (R3.setNew (q := ⟨w.heap.size + 1, 0, none⟩) (x := .int .i64 m) hr (Nat.le_succ _)).setNew (q := ⟨w.heap.size + 1, 1, none⟩) (x := .slice a gs.length c) hr (Nat.le_succ _)
      replace OF := Lib.hid OF; replace GF := Lib.hid GF; replace RF := Lib.hid RF
      clear Af
      go_wp2_with fail
      exact bodyPost_ret (v := .agg #[.int .i64 m, .slice a gs.length c]) (by simp [results, Try.results53, go_sem, r0, r1]) rfl ⟨_, gs, _, _, rfl, m0, .inr (by omega), Go.Joins.ownsRow_le OF.out (by omega), HWF.out, Nat.le_succ _, GF.out, RF.out.le (by omega)⟩
  have d4 : (p == 4) = false := by simpa using c4
  by_cases c5 : p = 5
  · subst c5
    by_cases hk : 0 < gs.length
    · have hk1 : (0 : Int) < (gs.length : Int) := by omega
      obtain ⟨gb, cq, e9, hgb, _⟩ := World.ownsRow.form own3 (by omega)
      cases e9
      go_upto_region 19 with fail
      replace A43 := A43.drew; replace A53 := A53.drew; replace G3 := grown_drew G3; replace R3 := R3.drew; replace own3 := ownsRow_drew own3
      refine wp_region_noPanic ?_
      refine wp_regionS 7 (fun wx : World => wx.cell? ⟨w2.heap.size, 0, none⟩ = some (.int .i64 m) ∧ wx.cell? ⟨w2.heap.size, 1, none⟩ = some (.slice (some ⟨gb, 0, none⟩) gs.length c)) (by kernel_rfl) (⟨A53.cells.1, A53.cells.2.1⟩) (fun hHeld => ?_)
      refine anyS_take (i := 0) (oi := { dst := some 87, op := Go.Op.fieldAddr 39 (Go.Operand.tmp 5) 1, type := 0, pos := _, after := #[], guard := none }) (v := ?_) rfl (by kernel_rfl) (by kernel_rfl) (by kernel_rfl) (by kernel_rfl) (by kernel_rfl) (fun _ _ _ h => h) (Or.inl ⟨by rfl, ?_⟩) hHeld ?_
      rotate_left
      · (intro wq hSw; (try dsimp only at hSw); (try go_simp); (try with_reducible rfl))
      try simp only [Act.put, List.setIfInBounds_toArray, List.set_cons_zero, List.set_cons_succ]
      refine anyS_take (i := 1) (oi := { dst := some 88, op := Go.Op.load 37 (Go.Operand.tmp 87), type := 37, pos := _, after := #[{ on := 0, ground := Go.Ground.data }], guard := none }) (v := ?_) rfl (by kernel_rfl) (by kernel_rfl) (by kernel_rfl) (by kernel_rfl) (by kernel_rfl) (fun _ _ _ h => h) (Or.inl ⟨by rfl, ?_⟩) hHeld ?_
      rotate_left
      · (intro wq hSw; (try dsimp only at hSw); (try go_simp); (try with_reducible rfl))
      try simp only [Act.put, List.setIfInBounds_toArray, List.set_cons_zero, List.set_cons_succ]
      refine anyS_take (i := 2) (oi := { dst := some 89, op := Go.Op.move (Go.Operand.tmp 0), type := 63, pos := _, after := #[], guard := none }) (v := ?_) rfl (by kernel_rfl) (by kernel_rfl) (by kernel_rfl) (by kernel_rfl) (by kernel_rfl) (fun _ _ _ h => h) (Or.inl ⟨by rfl, ?_⟩) hHeld ?_
      rotate_left
      · (intro wq hSw; (try dsimp only at hSw); (try go_simp); (try with_reducible rfl))
      try simp only [Act.put, List.setIfInBounds_toArray, List.set_cons_zero, List.set_cons_succ]
      refine anyS_take (i := 3) (oi := { dst := some 90, op := Go.Op.move (Go.Operand.tmp 6), type := 3, pos := _, after := #[], guard := none }) (v := ?_) rfl (by kernel_rfl) (by kernel_rfl) (by kernel_rfl) (by kernel_rfl) (by kernel_rfl) (fun _ _ _ h => h) (Or.inl ⟨by rfl, ?_⟩) hHeld ?_
      rotate_left
      · (intro wq hSw; (try dsimp only at hSw); (try go_simp); (try with_reducible rfl))
      try simp only [Act.put, List.setIfInBounds_toArray, List.set_cons_zero, List.set_cons_succ]
      refine anyS_ready (rs := [4]) (by kernel_rfl) (by simp) ?_
      refine readyS_cons (o := { dst := some 91, op := Go.Op.call { callee := Go.Callee.value (Go.Operand.func 40), args := #[Go.Operand.tmp 89, Go.Operand.tmp 90], argTypes := #[63, 3] }, type := 3, pos := _, after := #[{ on := 2, ground := Go.Ground.data }, { on := 3, ground := Go.Ground.data }], guard := none }) rfl (fun KK hKK => ?_) (readyS_nil)
      go_simp
      go_at_call 40
      refine (pick_any g _ u (gs.length : Int) _ R3 (by omega)).mono ?_
      rintro e w3p ⟨j, rfl, j0, j1, _, hg, R3p⟩
      have j2 := j1 (by omega)
      clear j1
      obtain ⟨j, rfl⟩ := Int.eq_ofNat_of_zero_le j0
      have hj : j < gs.length := by omega
      have A43p := A43.keepG hg (by omega); have A53p := A53.keepG hg (by omega); have G3p := grown_two G3 hg; have own3p : OwnG w3p (w.heap.size + 2) (.slice (some ⟨gb, 0, none⟩) gs.length c) gs := own_grown own3 hg (by omega)
      clear hg A43 A53 G3 R3 own3
      obtain ⟨uu, cc⟩ : ∃ u, w3p.cell? ⟨gb, j * 3, none⟩ = some u := ⟨_, (own3p.cellAt (j * 3) (by omega)).trans (gflat_get gs j 0 hj (by omega))⟩
      have ff : w3p.frozen? ⟨gb, j * 3, none⟩ = false := own3p.frozenAt _
      obtain ⟨ownS, hgS⟩ := own3p.stored (j * 3) (.bool true)
      have sKK := And.intro A53p.cells.1 A53p.cells.2.1
      have ownN : OwnG (w3p.setCell ⟨gb, j * 3, none⟩ (.bool true)) (w.heap.size + 2) (.slice (some ⟨gb, 0, none⟩) gs.length c) (gs.set j ((true), (gs.getD j gz).2.1, (gs.getD j gz).2.2)) := by
        unfold OwnG; rw [← gflat_set0 gs j true hj, List.length_set]; exact ownS
      have A4N := A43p.set_other (p := ⟨gb, j * 3, none⟩) (z := .bool true) (by show w.heap.size + 1 ≠ gb; have := (own3p.lt gb rfl).1; omega)
      have A5N := A53p.set_other (p := ⟨gb, j * 3, none⟩) (z := .bool true) (by show w2.heap.size ≠ gb; exact fun e => hne.out (by rw [e]; rfl))
      have GN := grown_new G3p hgS (fun q hq => by cases hq; have := (own3p.lt gb rfl).1; omega)
      have RN := R3p.growNew hr hgS (fun q hq => by cases hq; have := (own3p.lt gb rfl).1; omega)
      replace ownN := Lib.hid ownN; replace GN := Lib.hid GN; replace RN := Lib.hid RN; replace A4N := Lib.hid A4N; replace A5N := Lib.hid A5N
      clear ownS hgS A43p A53p G3p R3p own3p
      try go_simp
      refine hKK.out _ _ (sKK) (fun hHeld => ?_)
      clear hKK KK
      try simp only [Act.put, List.setIfInBounds_toArray, List.set_cons_zero, List.set_cons_succ]
      refine anyS_ready (rs := [5]) (by kernel_rfl) (by simp) ?_
      refine readyS_cons (o := { dst := some 92, op := Go.Op.indexAddr 37 (Go.Operand.tmp 88) (Go.Operand.tmp 91), type := 0, pos := _, after := #[{ on := 1, ground := Go.Ground.data }, { on := 4, ground := Go.Ground.data }, { on := 0, ground := Go.Ground.phase }, { on := 1, ground := Go.Ground.phase }, { on := 2, ground := Go.Ground.phase }, { on := 3, ground := Go.Ground.phase }, { on := 4, ground := Go.Ground.phase }], guard := none }) rfl (fun KK hKK => ?_) (readyS_nil)
      go_simp
      try go_simp
      refine hKK.out _ _ (hHeld) (fun hHeld => ?_)
      clear hKK KK
      try simp only [Act.put, List.setIfInBounds_toArray, List.set_cons_zero, List.set_cons_succ]
      refine anyS_take (i := 6) (oi := { dst := some 93, op := Go.Op.fieldAddr 47 (Go.Operand.tmp 92) 0, type := 0, pos := _, after := #[{ on := 5, ground := Go.Ground.data }, { on := 0, ground := Go.Ground.phase }, { on := 1, ground := Go.Ground.phase }, { on := 2, ground := Go.Ground.phase }, { on := 3, ground := Go.Ground.phase }, { on := 4, ground := Go.Ground.phase }], guard := none }) (v := ?_) rfl (by kernel_rfl) (by kernel_rfl) (by kernel_rfl) (by kernel_rfl) (by kernel_rfl) (fun _ _ _ h => h) (Or.inl ⟨by rfl, ?_⟩) hHeld ?_
      rotate_left
      · (intro wq hSw; (try dsimp only at hSw); (try go_simp); (try with_reducible rfl))
      try simp only [Act.put, List.setIfInBounds_toArray, List.set_cons_zero, List.set_cons_succ]
      refine anyS_ready (rs := [7]) (by kernel_rfl) (by simp) ?_
      refine readyS_last (o := { dst := none, op := Go.Op.store 4 (Go.Operand.tmp 93) (Go.Operand.const (Go.Value.bool true)), type := 0, pos := _, after := #[{ on := 6, ground := Go.Ground.data }, { on := 4, ground := Go.Ground.chain }, { on := 0, ground := Go.Ground.phase }, { on := 1, ground := Go.Ground.phase }, { on := 2, ground := Go.Ground.phase }, { on := 3, ground := Go.Ground.phase }, { on := 4, ground := Go.Ground.phase }], guard := none }) rfl (by kernel_rfl) (fun KK hKK => ?_) (readyS_nil)
      go_simp
      refine hKK.out _ _ ?_
      clear hKK KK hHeld
      have hHeld := trivial
      try simp only [Act.put, List.setIfInBounds_toArray, List.set_cons_zero, List.set_cons_succ]
      refine anyS_done (by kernel_rfl) ?_ _
      refine NoPanic.normal ?_
      clear cc ff hHeld
      replace A4N := A4N.out; replace A5N := A5N.out
      go_upto_region 20 with fail
      obtain ⟨e0, e1, _⟩ := A5N.cells; obtain ⟨e2, e3, _⟩ := A4N.cells; obtain ⟨e4, e5⟩ := A4N.frozen
      have Af := (A4N.set0 (.int .i64 m)).set1 (.slice (some ⟨gb, 0, none⟩) gs.length c)
      obtain ⟨r0, r1, _⟩ := Af.cells
      have OF := Go.RowKit.ownsRow_setCell_below (Go.RowKit.ownsRow_setCell_below ownN.out (a := ⟨w.heap.size + 1, 0, none⟩) (Nat.lt_succ_self _) (.int .i64 m)) (a := ⟨w.heap.size + 1, 1, none⟩) (Nat.lt_succ_self _) (.slice (some ⟨gb, 0, none⟩) gs.length c)
      have GF := grown_set (grown_set GN.out (p := ⟨w.heap.size + 1, 0, none⟩) (Nat.le_succ _) (.int .i64 m)) (p := ⟨w.heap.size + 1, 1, none⟩) (Nat.le_succ _) (.slice (some ⟨gb, 0, none⟩) gs.length c)
      have RF := (RN.out.setNew (q := ⟨w.heap.size + 1, 0, none⟩) (x := .int .i64 m) hr (Nat.le_succ _)).setNew (q := ⟨w.heap.size + 1, 1, none⟩) (x := .slice (some ⟨gb, 0, none⟩) gs.length c) hr (Nat.le_succ _)
      replace OF := Lib.hid OF; replace GF := Lib.hid GF; replace RF := Lib.hid RF
      clear Af
      go_wp2_with fail
      exact bodyPost_ret (v := .agg #[.int .i64 m, .slice (some ⟨gb, 0, none⟩) gs.length c]) (by simp [results, Try.results53, go_sem, r0, r1]) rfl ⟨_, gs.set j ((true), (gs.getD j gz).2.1, (gs.getD j gz).2.2), _, _, by rw [List.length_set], m0, .inr (by omega), by rw [List.length_set]; exact Go.Joins.ownsRow_le OF.out (by omega), HWF.out.set (HWF.out j hj), by rw [List.length_set]; exact Nat.le_succ _, GF.out, RF.out.le (by omega)⟩
    · have dk : decide ((0 : Int) < (gs.length : Int)) = false := decide_eq_false (by omega)
      go_upto_region 20 with fail
      obtain ⟨e0, e1, _⟩ := A53.cells; obtain ⟨e2, e3, _⟩ := A43.cells; obtain ⟨e4, e5⟩ := A43.frozen
      have Af := (A43.set0 (.int .i64 m)).set1 (.slice a gs.length c)
      obtain ⟨r0, r1, _⟩ := Af.cells
      have OF := Go.RowKit.ownsRow_setCell_below (Go.RowKit.ownsRow_setCell_below own3 (a := ⟨w.heap.size + 1, 0, none⟩) (Nat.lt_succ_self _) (.int .i64 m)) (a := ⟨w.heap.size + 1, 1, none⟩) (Nat.lt_succ_self _) (.slice a gs.length c)
      have GF := grown_set (grown_set G3 (p := ⟨w.heap.size + 1, 0, none⟩) (Nat.le_succ _) (.int .i64 m)) (p := ⟨w.heap.size + 1, 1, none⟩) (Nat.le_succ _) (.slice a gs.length c)
      have RF := (R3.setNew (q := ⟨w.heap.size + 1, 0, none⟩) (x := .int .i64 m) hr (Nat.le_succ _)).setNew (q := ⟨w.heap.size + 1, 1, none⟩) (x := .slice a gs.length c) hr (Nat.le_succ _)
      replace OF := Lib.hid OF; replace GF := Lib.hid GF; replace RF := Lib.hid RF
      clear Af
      go_wp2_with fail
      exact bodyPost_ret (v := .agg #[.int .i64 m, .slice a gs.length c]) (by simp [results, Try.results53, go_sem, r0, r1]) rfl ⟨_, gs, _, _, rfl, m0, .inr (by omega), Go.Joins.ownsRow_le OF.out (by omega), HWF.out, Nat.le_succ _, GF.out, RF.out.le (by omega)⟩
  have d5 : (p == 5) = false := by simpa using c5
  go_upto_region 20 with fail
  obtain ⟨e0, e1, _⟩ := A53.cells; obtain ⟨e2, e3, _⟩ := A43.cells; obtain ⟨e4, e5⟩ := A43.frozen
  have Af := (A43.set0 (.int .i64 m)).set1 (.slice a gs.length c)
  obtain ⟨r0, r1, _⟩ := Af.cells
  have OF := Go.RowKit.ownsRow_setCell_below (Go.RowKit.ownsRow_setCell_below own3 (a := ⟨w.heap.size + 1, 0, none⟩) (Nat.lt_succ_self _) (.int .i64 m)) (a := ⟨w.heap.size + 1, 1, none⟩) (Nat.lt_succ_self _) (.slice a gs.length c)
  have GF := grown_set (grown_set G3 (p := ⟨w.heap.size + 1, 0, none⟩) (Nat.le_succ _) (.int .i64 m)) (p := ⟨w.heap.size + 1, 1, none⟩) (Nat.le_succ _) (.slice a gs.length c)
  have RF := (R3.setNew (q := ⟨w.heap.size + 1, 0, none⟩) (x := .int .i64 m) hr (Nat.le_succ _)).setNew (q := ⟨w.heap.size + 1, 1, none⟩) (x := .slice a gs.length c) hr (Nat.le_succ _)
  replace OF := Lib.hid OF; replace GF := Lib.hid GF; replace RF := Lib.hid RF
  clear Af
  go_wp2_with fail
  exact bodyPost_ret (v := .agg #[.int .i64 m, .slice a gs.length c]) (by simp [results, Try.results53, go_sem, r0, r1]) rfl ⟨_, gs, _, _, rfl, m0, .inr (by omega), Go.Joins.ownsRow_le OF.out (by omega), HWF.out, Nat.le_succ _, GF.out, RF.out.le (by omega)⟩
end Go.Proofs.Yteeaafdgkepaeaa
