/- Names and a term that are drawn: l2Draw. The conditions stand in each statement. -/
import Derived.Test.YtfkanemjedndgaaDoorPf
import Derived.Deep.RegionHeldLaw
namespace Go.Proofs.YtfkanemjedndgaaDoor
open Go.RowKit

theorem own_base {w : World} {base base' : Nat} {v : Value} {ds : List Dc} (h : OwnD w base v ds) (hb : base' ≤ base) : OwnD w base' v ds := by
  unfold OwnD at *
  refine ⟨h.1, ?_⟩
  rcases h.2 with h2 | ⟨g, cap, cur, e, h3, h4⟩
  · exact .inl h2
  · exact .inr ⟨g, cap, cur, e, Nat.le_trans hb h3, h4⟩
def DrewDT (g : Nat) (v : Value) (P : Nat) (w : World) (e : Ending) (w' : World) : Prop :=
  ∃ (b cap : Nat) (ds : List Dc) (t : Tm) (s : Value) (D : Nat), e = .returned (.tuple #[.slice (some ⟨b, 0, none⟩) ds.length cap, .agg #[.int .i64 t.op, .int .i64 t.a, .int .i64 t.b, .string t.nm, s]]) ∧
    OwnD w' (w.heap.size + 1) (.slice (some ⟨b, 0, none⟩) ds.length cap) ds ∧ Named ds ∧ ds.length ≤ 6 ∧ Top (w.heap.size + 1) D w' s t.ks ∧ TK t ∧ TD D t.ks ∧ t.ks.length ≤ 4 ∧ D ≤ 12 ∧ w.grownBy w' (some g) ∧ RdOk w' g v P

set_option linter.unusedVariables false in
set_option maxRecDepth 100000 in
set_option maxHeartbeats 8000000 in
theorem l2Draw_any (g P : Nat) (v : Value) (w : World) (hr : RdOk w g v P) (hP : P ≤ 700000) :
    Calls Tryd.prog 27 #[.pointer (some ⟨g, 0, none⟩)] w (DrewDT g v (P + 20700) w) := by
  have gl := hr.lt
  have A := blk5_new w (.int .i64 0) (.int .i64 0) (.int .i64 0) (.string ⟨#[]⟩) (.slice none 0 0) 33
  have G := World.grownBy_alloc w (.cells #[.int .i64 0, .int .i64 0, .int .i64 0, .string ⟨#[]⟩, .slice none 0 0] 33) (some g)
  have R := hr.alloc (.cells #[.int .i64 0, .int .i64 0, .int .i64 0, .string ⟨#[]⟩, .slice none 0 0] 33)
  replace hr := Lib.hid hr
  go_enter Tryd.func27, Tryd.ntmps27
  go_wp2_with fail
  refine (l2Decls_any g P v _ R (by omega)).mono ?_
  rintro e w1 ⟨bd, capd, ds, rfl, own, drawn, hg, R1⟩
  have own1 : OwnD w1 (w.heap.size + 1) (.slice (some ⟨bd, 0, none⟩) ds.length capd) ds := by simpa using own
  have s1 := hg.size
  simp at s1
  replace A := A.keepG hg (by omega); replace G := grown_two G hg
  clear hg R own
  have hD : Hid (NmD g (.slice (some ⟨bd, 0, none⟩) ds.length capd) ds w1) := ⟨fun w' hg => OwnD.decls (own_grown own1 hg (by omega)) drawn.named, drawn.1, drawn.2.1, fun i hi => (drawn.2.2 i hi).1, fun i hi => (drawn.2.2 i hi).2⟩
  have hdl : 1 ≤ ds.length ∧ ds.length ≤ 4 := ⟨drawn.1, drawn.2.1⟩
  clear own1 drawn
  have A7 := A.alloc (.cells #[.int .i64 0, .int .i64 0, .int .i64 0, .int .i64 1, .int .i64 2, .int .i64 3, .int .i64 4] 3)
  have G7 := grown_alloc G (.cells #[.int .i64 0, .int .i64 0, .int .i64 0, .int .i64 1, .int .i64 2, .int .i64 3, .int .i64 4] 3)
  have R7 := R1.alloc (.cells #[.int .i64 0, .int .i64 0, .int .i64 0, .int .i64 1, .int .i64 2, .int .i64 3, .int .i64 4] 3)
  have D7 := Lib.hid (hD.out.grow (World.grownBy_alloc w1 (.cells #[.int .i64 0, .int .i64 0, .int .i64 0, .int .i64 1, .int .i64 2, .int .i64 3, .int .i64 4] 3) (some g)))
  clear A G R1 hD
  go_wp2_with fail
  refine (num_in (fun x => 0 ≤ x ∧ x ≤ 4) g _ v w1.heap.size 7 7 _ R7 (by omega) (by omega) (by omega) (by omega) (new_ints_in w1 (fun x => 0 ≤ x ∧ x ≤ 4) [0, 0, 0, 1, 2, 3, 4] 3 (by simp))).mono ?_
  rintro e w2 ⟨_, rfl, ⟨x, rfl, x0, x1⟩, hg, R⟩
  have A := A7.keepG hg (by omega); have G := grown_two G7 hg
  have hD := Lib.hid (D7.out.grow hg)
  have s2 := hg.size
  simp at s2
  clear A7 G7 R7 D7 hg
  go_wp2_with fail
  refine (l2Some_any g _ v _ ds x w2 R (by omega) hD.out x0 x1).mono ?_
  rintro e w3 ⟨D, hD4, t, s, rfl, K, ok, td, ⟨hl, top⟩, hg, R3⟩
  obtain ⟨sa, sp, rfl⟩ := top.form
  replace A := ((A.keepG hg (by omega)).alloc (.cells #[.int .i64 t.op, .int .i64 t.a, .int .i64 t.b, .string t.nm, .slice sa t.ks.length sp] 33)).drewX
  replace G := grown_drew (grown_alloc (grown_two G hg) (.cells #[.int .i64 t.op, .int .i64 t.a, .int .i64 t.b, .string t.nm, .slice sa t.ks.length sp] 33))
  replace hD := Lib.hid (hD.out.grow (grown_drew (grown_alloc hg (.cells #[.int .i64 t.op, .int .i64 t.a, .int .i64 t.b, .string t.nm, .slice sa t.ks.length sp] 33))))
  have R4 := (R3.alloc (.cells #[.int .i64 t.op, .int .i64 t.a, .int .i64 t.b, .string t.nm, .slice sa t.ks.length sp] 33)).drew
  have Z := (blk5_new w3 (.int .i64 t.op) (.int .i64 t.a) (.int .i64 t.b) (.string t.nm) (.slice sa t.ks.length sp) 33).drewX
  have tp := Lib.hid ((top.on (kept_allocT w2.heap.size w3 (.cells #[.int .i64 t.op, .int .i64 t.a, .int .i64 t.b, .string t.nm, .slice sa t.ks.length sp] 33))).on (w' := (w3.alloc (.cells #[.int .i64 t.op, .int .i64 t.a, .int .i64 t.b, .string t.nm, .slice sa t.ks.length sp] 33)).drew) ⟨Nat.le_refl _, fun _ _ _ => rfl⟩)
  have s3 := hg.size
  replace ok := Lib.hid ok; replace td := Lib.hid td
  clear K top hg R R3
  go_upto_region 3 with fail
  have sS := And.intro Z.cells.1 (And.intro Z.cells.2.1 (And.intro Z.cells.2.2.1 (And.intro Z.cells.2.2.2.1 Z.cells.2.2.2.2.1)))
  refine wp_region_noPanic ?_
  refine wp_region_held_drew (S := fun wx : World => wx.cell? ⟨w3.heap.size, 0, none⟩ = some (.int .i64 t.op) ∧ wx.cell? ⟨w3.heap.size, 1, none⟩ = some (.int .i64 t.a) ∧ wx.cell? ⟨w3.heap.size, 2, none⟩ = some (.int .i64 t.b) ∧ wx.cell? ⟨w3.heap.size, 3, none⟩ = some (.string t.nm) ∧ wx.cell? ⟨w3.heap.size, 4, none⟩ = some (.slice sa t.ks.length sp)) (by kernel_rfl) (sS) (fun hHeld => ?_)
  refine wpAnyH_take (i := 0) (oi := { dst := some 14, op := Go.Op.move (Go.Operand.tmp 0), type := 58, pos := _, after := #[], guard := none }) (v := ?_) rfl (by kernel_rfl) (by kernel_rfl) (by kernel_rfl) (fun _ _ _ h => h) (Or.inl ⟨by rfl, ?_⟩) hHeld ?_
  rotate_left
  · (intro wq hSw; (try dsimp only at hSw); (try go_simp); (try with_reducible rfl))
  try simp only [Act.put, List.setIfInBounds_toArray, List.set_cons_zero, List.set_cons_succ]
  refine wpAnyH_take (i := 1) (oi := { dst := some 15, op := Go.Op.move (Go.Operand.tmp 4), type := 29, pos := _, after := #[], guard := none }) (v := ?_) rfl (by kernel_rfl) (by kernel_rfl) (by kernel_rfl) (fun _ _ _ h => h) (Or.inl ⟨by rfl, ?_⟩) hHeld ?_
  rotate_left
  · (intro wq hSw; (try dsimp only at hSw); (try go_simp); (try with_reducible rfl))
  try simp only [Act.put, List.setIfInBounds_toArray, List.set_cons_zero, List.set_cons_succ]
  refine wpAnyH_take (i := 3) (oi := { dst := some 17, op := Go.Op.move (Go.Operand.tmp 0), type := 58, pos := _, after := #[], guard := none }) (v := ?_) rfl (by kernel_rfl) (by kernel_rfl) (by kernel_rfl) (fun _ _ _ h => h) (Or.inl ⟨by rfl, ?_⟩) hHeld ?_
  rotate_left
  · (intro wq hSw; (try dsimp only at hSw); (try go_simp); (try with_reducible rfl))
  try simp only [Act.put, List.setIfInBounds_toArray, List.set_cons_zero, List.set_cons_succ]
  refine wpAnyH_take (i := 4) (oi := { dst := some 18, op := Go.Op.load 33 (Go.Operand.tmp 5), type := 33, pos := _, after := #[], guard := none }) (v := ?_) rfl (by kernel_rfl) (by kernel_rfl) (by kernel_rfl) (fun _ _ _ h => h) (Or.inl ⟨by rfl, ?_⟩) hHeld ?_
  rotate_left
  · (intro wq hSw; (try dsimp only at hSw); (try go_simp); (try with_reducible rfl))
  try simp only [Act.put, List.setIfInBounds_toArray, List.set_cons_zero, List.set_cons_succ]
  refine wpAnyH_ready (rs := [2]) (by kernel_rfl) (by simp) ?_
  refine AllReadyH.cons (o := { dst := some 16, op := Go.Op.call { callee := Go.Callee.value (Go.Operand.func 48), args := #[Go.Operand.tmp 14, Go.Operand.tmp 15], argTypes := #[58, 29] }, type := 29, pos := _, after := #[{ on := 0, ground := Go.Ground.data }, { on := 1, ground := Go.Ground.data }], guard := none }) rfl (fun KK hKK => ?_) AllReadyH.nil
  go_simp
  go_at_call 48
  refine (l2Spoil_any g _ v _ ds _ R4 (by omega) (hD.out.1 _ (World.grownBy.refl _ _)) hdl.1 hdl.2).mono ?_
  rintro e w4 ⟨bs, caps, ds2, rfl, own2, nmd2, len2, hg4, R5⟩
  have Z4 := Z.keepG hg4 (by omega); have A4 := A.keepG hg4 (by omega); have G4 := grown_two G hg4
  have tp4 := Lib.hid (tp.out.on (kept_grownT hg4 (by omega)))
  have s4 := hg4.size; simp at s4
  have own4 : OwnD w4 (w.heap.size + 1) (.slice (some ⟨bs, 0, none⟩) ds2.length caps) ds2 := own_base own2 (by simp; omega)
  replace sS := And.intro Z4.cells.1 (And.intro Z4.cells.2.1 (And.intro Z4.cells.2.2.1 (And.intro Z4.cells.2.2.2.1 Z4.cells.2.2.2.2.1)))
  clear hg4 R4 Z A G tp hD own2
  try go_simp
  refine hKK.out _ _ sS (fun hHeld => ?_)
  clear hKK KK
  try simp only [Act.put, List.setIfInBounds_toArray, List.set_cons_zero, List.set_cons_succ]
  refine wpAnyH_ready (rs := [5]) (by kernel_rfl) (by simp) ?_
  refine AllReadyH.cons (o := { dst := some 19, op := Go.Op.call { callee := Go.Callee.value (Go.Operand.func 49), args := #[Go.Operand.tmp 17, Go.Operand.tmp 18], argTypes := #[58, 33] }, type := 33, pos := _, after := #[{ on := 3, ground := Go.Ground.data }, { on := 4, ground := Go.Ground.data }, { on := 2, ground := Go.Ground.chain }], guard := none }) rfl (fun KK hKK => ?_) AllReadyH.nil
  go_simp
  go_at_call 49
  refine (l2Bent_any w2.heap.size D g _ v t.op t.a t.b t.nm _ t.ks w4 R5 (by omega) (by omega) (by omega) tp4.out ok.out td.out hl).mono ?_
  rintro e w5 ⟨t2, s5, D2, rfl, top2, tk2, td2, hl2, hD2, hg5, R6⟩
  obtain ⟨sb, sq, rfl⟩ := top2.form
  have Z5 := Z4.keepG hg5 (by omega); have A5 := A4.keepG hg5 (by omega); have G5 := grown_two G4 hg5
  have own5 := Lib.hid (own_grown own4 hg5 (by omega))
  replace top2 := Lib.hid top2; replace tk2 := Lib.hid tk2; replace td2 := Lib.hid td2
  replace sS := And.intro Z5.cells.1 (And.intro Z5.cells.2.1 (And.intro Z5.cells.2.2.1 (And.intro Z5.cells.2.2.2.1 Z5.cells.2.2.2.2.1)))
  obtain ⟨C0, C1, C2, C3, C4, _⟩ := A5.cells
  obtain ⟨F0, F1, F2, F3, F4⟩ := A5.frozen
  clear hg5 R5 Z4 A4 G4 tp4 own4
  try go_simp
  refine hKK.out _ _ sS (fun hHeld => ?_)
  clear hKK KK
  try simp only [Act.put, List.setIfInBounds_toArray, List.set_cons_zero, List.set_cons_succ]
  refine wpAnyH_take (i := 6) (oi := { dst := some 2, op := Go.Op.assign (Go.Operand.tmp 16), type := 29, pos := _, after := #[{ on := 2, ground := Go.Ground.data }, { on := 5, ground := Go.Ground.chain }, { on := 0, ground := Go.Ground.phase }, { on := 1, ground := Go.Ground.phase }, { on := 2, ground := Go.Ground.phase }, { on := 3, ground := Go.Ground.textOnly Go.Departure.lateStores }, { on := 4, ground := Go.Ground.textOnly Go.Departure.lateStores }, { on := 5, ground := Go.Ground.textOnly Go.Departure.lateStoresUnsure }], guard := none }) (v := ?_) rfl (by kernel_rfl) (by kernel_rfl) (by kernel_rfl) (fun _ _ _ h => h) (Or.inl ⟨by rfl, ?_⟩) hHeld ?_
  rotate_left
  · (intro wq hSw; (try dsimp only at hSw); (try go_simp); (try with_reducible rfl))
  try simp only [Act.put, List.setIfInBounds_toArray, List.set_cons_zero, List.set_cons_succ]
  refine wpAnyH_ready (rs := [7]) (by kernel_rfl) (by simp) ?_
  refine AllReadyH.cons (o := { dst := none, op := Go.Op.store 33 (Go.Operand.tmp 3) (Go.Operand.tmp 19), type := 0, pos := _, after := #[{ on := 5, ground := Go.Ground.data }, { on := 6, ground := Go.Ground.chain }, { on := 0, ground := Go.Ground.phase }, { on := 1, ground := Go.Ground.phase }, { on := 2, ground := Go.Ground.phase }, { on := 3, ground := Go.Ground.phase }, { on := 4, ground := Go.Ground.phase }, { on := 5, ground := Go.Ground.phase }, { on := 6, ground := Go.Ground.phase }], guard := none }) rfl (fun KK hKK => ?_) AllReadyH.nil
  go_simp
  refine hKK.out _ _ ((have Z6 := (((((Z5.set_other (p := ⟨w.heap.size, 0, none⟩) (z := .int .i64 t2.op) (by simp; omega)).set_other (p := ⟨w.heap.size, 1, none⟩) (z := .int .i64 t2.a) (by simp; omega)).set_other (p := ⟨w.heap.size, 2, none⟩) (z := .int .i64 t2.b) (by simp; omega)).set_other (p := ⟨w.heap.size, 3, none⟩) (z := .string t2.nm) (by simp; omega)).set_other (p := ⟨w.heap.size, 4, none⟩) (z := .slice sb t2.ks.length sq) (by simp; omega)); And.intro Z6.cells.1 (And.intro Z6.cells.2.1 (And.intro Z6.cells.2.2.1 (And.intro Z6.cells.2.2.2.1 Z6.cells.2.2.2.2.1))))) (fun hHeld => ?_)
  clear hKK KK
  try simp only [Act.put, List.setIfInBounds_toArray, List.set_cons_zero, List.set_cons_succ]
  refine wpAnyH_done (by kernel_rfl) ?_ _
  refine NoPanic.normal ?_
  clear C0 C1 C2 C3 C4 F0 F1 F2 F3 F4
  obtain ⟨Af, Gf, Rf, Kf⟩ := put5 A5 G5 R6 hr.out (Nat.le_refl _) (.int .i64 t2.op) (.int .i64 t2.a) (.int .i64 t2.b) (.string t2.nm) (.slice sb t2.ks.length sq)
  obtain ⟨r0, r1, r2, r3, r4, _⟩ := Af.cells
  go_wp2_with fail
  exact bodyPost_ret (v := .tuple #[.slice (some ⟨bs, 0, none⟩) ds2.length caps, .agg #[.int .i64 t2.op, .int .i64 t2.a, .int .i64 t2.b, .string t2.nm, .slice sb t2.ks.length sq]]) (by simp [results, Tryd.results27, go_sem, r0, r1, r2, r3, r4]) rfl
    ⟨bs, caps, ds2, t2, _, D2, rfl, own_kept own5.out Kf (Nat.le_refl _), nmd2, len2, (top2.out.mono (by omega)).on Kf, tk2.out, td2.out, hl2, by omega, Gf, Rf.le (by omega)⟩
end Go.Proofs.YtfkanemjedndgaaDoor
