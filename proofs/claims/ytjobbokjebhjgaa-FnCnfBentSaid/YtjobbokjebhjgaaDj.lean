/- What DrawCnfSame gives: a formula, and one that is bent from it. The conditions stand in each statement. -/
import Derived.Test.YtjobbokjebhjgaaDd
import Derived.Test.YtjobbokjebhjgaaDm
namespace Go.Proofs.Ytjobbokjebhjgaa
open Go.RowKit

def IsCnf2 (w : World) (x : Value) : Prop := ∃ (m : Int) (v : Value) (ls : List (List Int)) (m' : Int) (v' : Value) (ls' : List (List Int)),
  x = .tuple #[.agg #[.int .i64 m, v], .agg #[.int .i64 m', v']] ∧ KSS 0 w v ls ∧ IsCnf m ls ∧ KSS 0 w v' ls' ∧ I64 m' ∧ ls'.length ≤ 35 ∧ ssWf ls'

set_option linter.unusedVariables false in
set_option maxRecDepth 100000 in
set_option maxHeartbeats 8000000 in
theorem drawCnfSame_any (v : Value) (w : World) (h : BytesIn w v) :
    Calls Try.prog 33 #[v] w (GaveIn IsCnf2 w) := by
  go_enter Try.func33, Try.ntmps33
  go_wp2_with fail
  refine (l12Open_any v _ ((h.alloc _).alloc _)).mono ?_
  rintro e w1 ⟨g, u, rfl, hg, hb1, hr1⟩
  have gl1 := hr1.lt
  have hgw : w.heap.size + 2 ≤ g := by simpa using hg
  have Z1 := ((blk_new w (.int .i64 0) (.slice none 0 0) 38).alloc (.cells #[.int .i64 0, .slice none 0 0] 38)).keep hb1
  have Y1 := (blk_new1 w (.cells #[.int .i64 0, .slice none 0 0] 38) (.int .i64 0) (.slice none 0 0) 38).keep hb1
  have B1 := below_res hb1
  clear hb1 hg
  go_wp2_with fail
  refine (l4Cnf_any w1.heap.size g 0 u _ hr1 (by omega) (Nat.le_refl _)).mono ?_
  rintro e w2 ⟨m, x, ls, rfl, K2, ⟨q0, q1, q2, q3⟩, hg2, hr2⟩
  have s2 := hg2.size
  obtain ⟨a2, c2, rfl⟩ := K2.form
  have HQ : Hid (IsCnf m ls) := ⟨q0, q1, q2, q3⟩
  have HW := Lib.hid (inB7_wf q3)
  have hmI : I64 m := ⟨by omega, by omega⟩
  have Z2 := ((Z1.keepG hg2 (by omega)).alloc (.cells #[.int .i64 m, .slice a2 ls.length c2] 38)).drew
  have Y2 := ((Y1.keepG hg2 (by omega)).alloc (.cells #[.int .i64 m, .slice a2 ls.length c2] 38)).drew
  have C2 := (blk_new w2 (.int .i64 m) (.slice a2 ls.length c2) 38).drew
  have B2 := (below_step (below_of_grown B1 hg2 (by omega)) (.cells #[.int .i64 m, .slice a2 ls.length c2] 38)).drew
  have kd : ∀ w' : World, Kept w1.heap.size w' w'.drew := fun _ => ⟨Nat.le_refl _, fun _ _ _ => rfl⟩
  have KA2 := (K2.on (kept_alloc (Kept.refl w1.heap.size w2) (.cells #[.int .i64 m, .slice a2 ls.length c2] 38))).on (kd _)
  replace hr2 := (hr2.alloc (.cells #[.int .i64 m, .slice a2 ls.length c2] 38)).drew
  have t2 : w2.heap.size + 1 ≤ (w2.alloc (.cells #[.int .i64 m, .slice a2 ls.length c2] 38)).drew.heap.size := by simp
  clear Z1 Y1 B1 hg2 K2 q3
  go_upto_region 3 with fail
  have sS := And.intro C2.cells.1 C2.cells.2.1
  refine wp_region_noPanic ?_
  refine wp_region_held_drew (S := fun wx : World => wx.cell? ⟨w2.heap.size, 0, none⟩ = some (.int .i64 m) ∧ wx.cell? ⟨w2.heap.size, 1, none⟩ = some (.slice a2 ls.length c2)) (by kernel_rfl) (sS) (fun hHeld => ?_)
  refine wpAnyH_take (i := 0) (oi := { dst := some 10, op := Go.Op.load 38 (Go.Operand.tmp 5), type := 38, pos := _, after := #[], guard := none }) (v := ?_) rfl (by kernel_rfl) (by kernel_rfl) (by kernel_rfl) (fun _ _ _ h => h) (Or.inl ⟨by rfl, ?_⟩) hHeld ?_
  rotate_left
  · (intro wq hSw; (try dsimp only at hSw); (try go_simp); (try with_reducible rfl))
  try simp only [Act.put, List.setIfInBounds_toArray, List.set_cons_zero, List.set_cons_succ]
  refine wpAnyH_take (i := 1) (oi := { dst := some 11, op := Go.Op.move (Go.Operand.tmp 4), type := 66, pos := _, after := #[], guard := none }) (v := ?_) rfl (by kernel_rfl) (by kernel_rfl) (by kernel_rfl) (fun _ _ _ h => h) (Or.inl ⟨by rfl, ?_⟩) hHeld ?_
  rotate_left
  · (intro wq hSw; (try dsimp only at hSw); (try go_simp); (try with_reducible rfl))
  try simp only [Act.put, List.setIfInBounds_toArray, List.set_cons_zero, List.set_cons_succ]
  refine wpAnyH_take (i := 2) (oi := { dst := some 12, op := Go.Op.move (Go.Operand.tmp 4), type := 66, pos := _, after := #[], guard := none }) (v := ?_) rfl (by kernel_rfl) (by kernel_rfl) (by kernel_rfl) (fun _ _ _ h => h) (Or.inl ⟨by rfl, ?_⟩) hHeld ?_
  rotate_left
  · (intro wq hSw; (try dsimp only at hSw); (try go_simp); (try with_reducible rfl))
  try simp only [Act.put, List.setIfInBounds_toArray, List.set_cons_zero, List.set_cons_succ]
  refine wpAnyH_take (i := 3) (oi := { dst := some 13, op := Go.Op.move (Go.Operand.tmp 4), type := 66, pos := _, after := #[], guard := none }) (v := ?_) rfl (by kernel_rfl) (by kernel_rfl) (by kernel_rfl) (fun _ _ _ h => h) (Or.inl ⟨by rfl, ?_⟩) hHeld ?_
  rotate_left
  · (intro wq hSw; (try dsimp only at hSw); (try go_simp); (try with_reducible rfl))
  try simp only [Act.put, List.setIfInBounds_toArray, List.set_cons_zero, List.set_cons_succ]
  refine wpAnyH_take (i := 4) (oi := { dst := some 14, op := Go.Op.load 38 (Go.Operand.tmp 5), type := 38, pos := _, after := #[], guard := none }) (v := ?_) rfl (by kernel_rfl) (by kernel_rfl) (by kernel_rfl) (fun _ _ _ h => h) (Or.inl ⟨by rfl, ?_⟩) hHeld ?_
  rotate_left
  · (intro wq hSw; (try dsimp only at hSw); (try go_simp); (try with_reducible rfl))
  try simp only [Act.put, List.setIfInBounds_toArray, List.set_cons_zero, List.set_cons_succ]
  refine wpAnyH_ready (rs := [5]) (by kernel_rfl) (by simp) ?_
  refine AllReadyH.cons (o := { dst := some 15, op := Go.Op.call { callee := Go.Callee.value (Go.Operand.func 65), args := #[Go.Operand.tmp 13, Go.Operand.tmp 14], argTypes := #[66, 38] }, type := 38, pos := _, after := #[{ on := 3, ground := Go.Ground.data }, { on := 4, ground := Go.Ground.data }], guard := none }) rfl (fun KK hKK => ?_) AllReadyH.nil
  go_simp
  go_at_call 65
  (with_reducible refine (l4Bent_any w1.heap.size g 500 u m _ ls _ hr2 (by omega) hmI gl1 (by omega) KA2 (by omega) HW.out).mono ?_)
  rintro e w3 ⟨m3, x3, ls3, rfl, K3, ⟨hm3, hl3, hwf3⟩, hg3, hr3⟩
  have Z3 := Z2.keepG hg3 (by omega)
  have Y3 := Y2.keepG hg3 (by omega)
  have C3 := C2.keepG hg3 (by omega)
  have B3 := below_of_grown B2 hg3 (by omega)
  have KA3 := KA2.on (kept_grown hg3 gl1)
  have t3 : w2.heap.size + 1 ≤ w3.heap.size := Nat.le_trans t2 hg3.size
  obtain ⟨a3, c3, rfl⟩ := K3.form
  have HW3 := Lib.hid hwf3
  replace sS := And.intro C3.cells.1 C3.cells.2.1
  clear hg3 hwf3 Z2 Y2 C2 B2 KA2 hr2
  try go_simp
  refine hKK.out _ _ sS (fun hHeld => ?_)
  clear hKK KK
  try simp only [Act.put, List.setIfInBounds_toArray, List.set_cons_zero, List.set_cons_succ]
  refine wpAnyH_ready (rs := [6]) (by kernel_rfl) (by simp) ?_
  refine AllReadyH.cons (o := { dst := some 16, op := Go.Op.call { callee := Go.Callee.value (Go.Operand.func 65), args := #[Go.Operand.tmp 12, Go.Operand.tmp 15], argTypes := #[66, 38] }, type := 38, pos := _, after := #[{ on := 2, ground := Go.Ground.data }, { on := 5, ground := Go.Ground.data }, { on := 5, ground := Go.Ground.chain }], guard := none }) rfl (fun KK hKK => ?_) AllReadyH.nil
  go_simp
  go_at_call 65
  (with_reducible refine (l4Bent_any w1.heap.size g 502 u m3 _ ls3 _ hr3 (by omega) hm3 gl1 (by omega) K3 (by omega) HW3.out).mono ?_)
  rintro e w4 ⟨m4, x4, ls4, rfl, K4, ⟨hm4, hl4, hwf4⟩, hg4, hr4⟩
  have Z4 := Z3.keepG hg4 (by omega)
  have Y4 := Y3.keepG hg4 (by omega)
  have C4 := C3.keepG hg4 (by omega)
  have B4 := below_of_grown B3 hg4 (by omega)
  have KA4 := KA3.on (kept_grown hg4 gl1)
  have t4 : w2.heap.size + 1 ≤ w4.heap.size := Nat.le_trans t3 hg4.size
  obtain ⟨a4, c4, rfl⟩ := K4.form
  have HW4 := Lib.hid hwf4
  replace sS := And.intro C4.cells.1 C4.cells.2.1
  clear hg4 hwf4 Z3 Y3 C3 B3 KA3 hr3
  try go_simp
  refine hKK.out _ _ sS (fun hHeld => ?_)
  clear hKK KK
  try simp only [Act.put, List.setIfInBounds_toArray, List.set_cons_zero, List.set_cons_succ]
  refine wpAnyH_ready (rs := [7]) (by kernel_rfl) (by simp) ?_
  refine AllReadyH.cons (o := { dst := some 17, op := Go.Op.call { callee := Go.Callee.value (Go.Operand.func 65), args := #[Go.Operand.tmp 11, Go.Operand.tmp 16], argTypes := #[66, 38] }, type := 38, pos := _, after := #[{ on := 1, ground := Go.Ground.data }, { on := 6, ground := Go.Ground.data }, { on := 6, ground := Go.Ground.chain }], guard := none }) rfl (fun KK hKK => ?_) AllReadyH.nil
  go_simp
  go_at_call 65
  (with_reducible refine (l4Bent_any w1.heap.size g 504 u m4 _ ls4 _ hr4 (by omega) hm4 gl1 (by omega) K4 (by omega) HW4.out).mono ?_)
  rintro e w5 ⟨m5, x5, ls5, rfl, K5, ⟨hm5, hl5, hwf5⟩, hg5, hr5⟩
  have Z5 := Z4.keepG hg5 (by omega)
  have Y5 := Y4.keepG hg5 (by omega)
  have C5 := C4.keepG hg5 (by omega)
  have B5 := below_of_grown B4 hg5 (by omega)
  have KA5 := KA4.on (kept_grown hg5 gl1)
  have t5 : w2.heap.size + 1 ≤ w5.heap.size := Nat.le_trans t4 hg5.size
  obtain ⟨a5, c5, rfl⟩ := K5.form
  have HW5 := Lib.hid hwf5
  replace sS := And.intro C5.cells.1 C5.cells.2.1
  clear hg5 hwf5 Z4 Y4 C4 B4 KA4 hr4
  obtain ⟨Z50, Z51, Z52⟩ := Z5.cells
  obtain ⟨F50, F51⟩ := Z5.frozen
  have nCZ : ¬ w2.heap.size = w.heap.size := by omega
  have nYZ : ¬ w.heap.size + 1 = w.heap.size := by omega
  have nCY : ¬ w2.heap.size = w.heap.size + 1 := by omega
  have nZY : ¬ w.heap.size = w.heap.size + 1 := by omega
  have C6 := (C5.set_other (p := ⟨w.heap.size, 0, none⟩) (z := (.int .i64 m)) nCZ).set_other (p := ⟨w.heap.size, 1, none⟩) (z := (.slice a2 ls.length c2)) nCZ
  have Y6 := (Y5.set_other (p := ⟨w.heap.size, 0, none⟩) (z := (.int .i64 m)) nYZ).set_other (p := ⟨w.heap.size, 1, none⟩) (z := (.slice a2 ls.length c2)) nYZ
  have Z6 := (Z5.set0 (.int .i64 m)).set1 (.slice a2 ls.length c2)
  have C7 := (C6.set_other (p := ⟨w.heap.size + 1, 0, none⟩) (z := (.int .i64 m5)) nCY).set_other (p := ⟨w.heap.size + 1, 1, none⟩) (z := (.slice a5 ls5.length c5)) nCY
  have Z7 := (Z6.set_other (p := ⟨w.heap.size + 1, 0, none⟩) (z := (.int .i64 m5)) nZY).set_other (p := ⟨w.heap.size + 1, 1, none⟩) (z := (.slice a5 ls5.length c5)) nZY
  have Y7 := (Y6.set0 (.int .i64 m5)).set1 (.slice a5 ls5.length c5)
  try go_simp
  refine hKK.out _ _ sS (fun hHeld => ?_)
  clear hKK KK
  try simp only [Act.put, List.setIfInBounds_toArray, List.set_cons_zero, List.set_cons_succ]
  refine wpAnyH_ready (rs := [8]) (by kernel_rfl) (by simp) ?_
  refine AllReadyH.cons (o := { dst := none, op := Go.Op.store 38 (Go.Operand.tmp 2) (Go.Operand.tmp 10), type := 0, pos := _, after := #[{ on := 0, ground := Go.Ground.data }, { on := 7, ground := Go.Ground.chain }, { on := 0, ground := Go.Ground.phase }, { on := 1, ground := Go.Ground.textOnly Go.Departure.lateStores }, { on := 2, ground := Go.Ground.textOnly Go.Departure.lateStores }, { on := 3, ground := Go.Ground.textOnly Go.Departure.lateStores }, { on := 4, ground := Go.Ground.textOnly Go.Departure.lateStores }, { on := 5, ground := Go.Ground.textOnly Go.Departure.lateStoresUnsure }, { on := 6, ground := Go.Ground.textOnly Go.Departure.lateStoresUnsure }, { on := 7, ground := Go.Ground.textOnly Go.Departure.lateStoresUnsure }], guard := none }) rfl (fun KK hKK => ?_) AllReadyH.nil
  go_simp
  refine hKK.out _ _ (And.intro C6.cells.1 C6.cells.2.1) (fun hHeld => ?_)
  obtain ⟨Y60, Y61, Y62⟩ := Y6.cells
  obtain ⟨G60, G61⟩ := Y6.frozen
  clear hKK KK
  try simp only [Act.put, List.setIfInBounds_toArray, List.set_cons_zero, List.set_cons_succ]
  refine wpAnyH_ready (rs := [9]) (by kernel_rfl) (by simp) ?_
  refine AllReadyH.cons (o := { dst := none, op := Go.Op.store 38 (Go.Operand.tmp 3) (Go.Operand.tmp 17), type := 0, pos := _, after := #[{ on := 7, ground := Go.Ground.data }, { on := 8, ground := Go.Ground.chain }, { on := 0, ground := Go.Ground.phase }, { on := 1, ground := Go.Ground.phase }, { on := 2, ground := Go.Ground.phase }, { on := 3, ground := Go.Ground.phase }, { on := 4, ground := Go.Ground.phase }, { on := 5, ground := Go.Ground.phase }, { on := 6, ground := Go.Ground.phase }, { on := 7, ground := Go.Ground.phase }, { on := 8, ground := Go.Ground.phase }], guard := none }) rfl (fun KK hKK => ?_) AllReadyH.nil
  go_simp
  refine hKK.out _ _ (And.intro C7.cells.1 C7.cells.2.1) (fun hHeld => ?_)
  clear hKK KK
  try simp only [Act.put, List.setIfInBounds_toArray, List.set_cons_zero, List.set_cons_succ]
  refine wpAnyH_done (by kernel_rfl) ?_ _
  refine NoPanic.normal ?_
  clear Z50 Z51 Z52 F50 F51 Y60 Y61 Y62 G60 G61
  obtain ⟨r0, r1, _⟩ := Z7.cells
  obtain ⟨r2, r3, _⟩ := Y7.cells
  go_wp2_with fail
  have Bf := (((B5.setCell (p := ⟨w.heap.size, 0, none⟩) (by simp) (.int .i64 m)).setCell (p := ⟨w.heap.size, 1, none⟩) (by simp) (.slice a2 ls.length c2)).setCell (p := ⟨w.heap.size + 1, 0, none⟩) (by simp) (.int .i64 m5)).setCell (p := ⟨w.heap.size + 1, 1, none⟩) (by simp) (.slice a5 ls5.length c5)
  have Kf := kept_set2 (kept_set2 (kept_set2 (kept_set2 (Kept.refl w1.heap.size w5) (p := ⟨w.heap.size, 0, none⟩) (.inl (by simp; omega)) (.int .i64 m)) (p := ⟨w.heap.size, 1, none⟩) (.inl (by simp; omega)) (.slice a2 ls.length c2)) (p := ⟨w.heap.size + 1, 0, none⟩) (.inl (by simp; omega)) (.int .i64 m5)) (p := ⟨w.heap.size + 1, 1, none⟩) (.inl (by simp; omega)) (.slice a5 ls5.length c5)
  exact bodyPost_ret (v := .tuple #[.agg #[.int .i64 m, .slice a2 ls.length c2], .agg #[.int .i64 m5, .slice a5 ls5.length c5]]) (by simp [results, Try.results33, go_sem, r0, r1, r2, r3]) rfl ⟨_, rfl, ⟨m, _, ls, m5, _, ls5, rfl, (KA5.on Kf).zero, HQ.out, (K5.on Kf).zero, hm5, by omega, HW5.out⟩, Bf⟩
end Go.Proofs.Ytjobbokjebhjgaa
