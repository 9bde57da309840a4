/- The formula of a net, as the program makes it. The conditions stand in each statement. -/
import Derived.Test.YteeaafdgkepaeaaOe
import Derived.Test.YteeaafdgkepaeaaDm
import Derived.Test.YteeaafdgkepaeaaHs
import Derived.Deep.AppendLies
namespace Go.Proofs.Yteeaafdgkepaeaa
open Go.RowKit

/-- what clauses gives: a row just made of rows just made -/
def GaveC (g : Gt) (K : Int) (w : World) (e : Ending) (w' : World) : Prop :=
  ∃ q n ns, e = .returned (.slice (some ⟨q, 0, none⟩) n n) ∧ (clau g K).length = n ∧ 0 < n ∧ n ≤ 4 ∧ NewRows w' w.heap.size 3 (clau g K) ns ∧ (∀ j u, ns[j]? = some u → w'.cell? ((⟨q, 0, none⟩ : Addr).add j) = some u) ∧ (∀ u ∈ ns, u.oneCell' = true) ∧ Below w.heap.size w w'
theorem newRows_le {w : World} {base base' : Nat} {ti : TypeId} {rs : List (List Int)} {gs : List Value} (h : NewRows w base ti rs gs) (hb : base' ≤ base) : NewRows w base' ti rs gs :=
  ⟨h.len, fun i hi => Go.Joins.ownsRow_le (h.row i hi) hb, h.apart⟩
set_option linter.unusedVariables false in
set_option maxRecDepth 100000 in
set_option maxHeartbeats 4000000 in
theorem clauses_any (x0 : Bool) (x1 x2 K : Int) (w : World) (a0 : -1000 ≤ x1) (a1 : x1 ≤ 1000) (b0 : -1000 ≤ x2) (b1 : x2 ≤ 1000) (k0 : 0 ≤ K) (k1 : K ≤ 10000) :
    Calls Try.prog 75 #[.agg #[.bool x0, .int .i64 x1, .int .i64 x2], .int .i64 K] w (GaveC (x0, x1, x2) K w) := by
  cases x0
  · skip
    have hN := rows_and (w.alloc (.cells #[.bool false, .int .i64 x1, .int .i64 x2] 47)) x1 x2 K
    simp only [alloc_size] at hN
    have hN2 := Lib.hid (hN.below (below_self_alloc _ (.cells #[.slice (some ⟨w.heap.size + 1, 0, none⟩) 2 2, .slice (some ⟨w.heap.size + 1 + 1, 0, none⟩) 2 2, .slice (some ⟨w.heap.size + 1 + 1 + 1, 0, none⟩) 3 3] 30)))
    have hnew : ∀ j u, (([.slice (some ⟨w.heap.size + 1, 0, none⟩) 2 2, .slice (some ⟨w.heap.size + 1 + 1, 0, none⟩) 2 2, .slice (some ⟨w.heap.size + 1 + 1 + 1, 0, none⟩) 3 3] : List Value))[j]? = some u → (((((w.alloc (.cells #[.bool false, .int .i64 x1, .int .i64 x2] 47)).alloc (.cells #[.int .i64 (x1), .int .i64 (-K)] 3)).alloc (.cells #[.int .i64 (x2), .int .i64 (-K)] 3)).alloc (.cells #[.int .i64 (-x1), .int .i64 (-x2), .int .i64 (K)] 3)).alloc (.cells #[.slice (some ⟨w.heap.size + 1, 0, none⟩) 2 2, .slice (some ⟨w.heap.size + 1 + 1, 0, none⟩) 2 2, .slice (some ⟨w.heap.size + 1 + 1 + 1, 0, none⟩) 3 3] 30)).cell? ((⟨w.heap.size + 1 + 1 + 1 + 1, 0, none⟩ : Addr).add j) = some u := World.news_of_block (by have := heap_alloc_new ((((w.alloc (.cells #[.bool false, .int .i64 x1, .int .i64 x2] 47)).alloc (.cells #[.int .i64 (x1), .int .i64 (-K)] 3)).alloc (.cells #[.int .i64 (x2), .int .i64 (-K)] 3)).alloc (.cells #[.int .i64 (-x1), .int .i64 (-x2), .int .i64 (K)] 3)) (.cells #[.slice (some ⟨w.heap.size + 1, 0, none⟩) 2 2, .slice (some ⟨w.heap.size + 1 + 1, 0, none⟩) 2 2, .slice (some ⟨w.heap.size + 1 + 1 + 1, 0, none⟩) 3 3] 30); simp only [alloc_size] at this; exact this)
    have HN := Lib.hid hnew
    have hb5 : Below w.heap.size w (((((w.alloc (.cells #[.bool false, .int .i64 x1, .int .i64 x2] 47)).alloc (.cells #[.int .i64 (x1), .int .i64 (-K)] 3)).alloc (.cells #[.int .i64 (x2), .int .i64 (-K)] 3)).alloc (.cells #[.int .i64 (-x1), .int .i64 (-x2), .int .i64 (K)] 3)).alloc (.cells #[.slice (some ⟨w.heap.size + 1, 0, none⟩) 2 2, .slice (some ⟨w.heap.size + 1 + 1, 0, none⟩) 2 2, .slice (some ⟨w.heap.size + 1 + 1 + 1, 0, none⟩) 3 3] 30)) := by
      repeat' (first | exact Below.refl _ _ | with_reducible apply below_step)
    have HB := Lib.hid hb5
    clear hN hnew hb5
    have n1 : IntKind.i64.wrap (-x1) = -x1 := IntWalk.i64_in _ (by omega)
    have n2 : IntKind.i64.wrap (-x2) = -x2 := IntWalk.i64_in _ (by omega)
    have n3 : IntKind.i64.wrap (-K) = -K := IntWalk.i64_in _ (by omega)
    go_enter Try.func75, Try.ntmps75
    go_wp2_with fail
    go_ret
    exact ⟨_, 3, [.slice (some ⟨w.heap.size + 1, 0, none⟩) 2 2, .slice (some ⟨w.heap.size + 1 + 1, 0, none⟩) 2 2, .slice (some ⟨w.heap.size + 1 + 1 + 1, 0, none⟩) 3 3], rfl, rfl, by decide, by decide, newRows_le hN2.out (by omega), HN.out, by intro u hu; simp at hu; rcases hu with rfl | rfl | rfl <;> rfl, HB.out⟩
  · skip
    have hN := rows_xor (w.alloc (.cells #[.bool true, .int .i64 x1, .int .i64 x2] 47)) x1 x2 K
    simp only [alloc_size] at hN
    have hN2 := Lib.hid (hN.below (below_self_alloc _ (.cells #[.slice (some ⟨w.heap.size + 1, 0, none⟩) 3 3, .slice (some ⟨w.heap.size + 1 + 1, 0, none⟩) 3 3, .slice (some ⟨w.heap.size + 1 + 1 + 1, 0, none⟩) 3 3, .slice (some ⟨w.heap.size + 1 + 1 + 1 + 1, 0, none⟩) 3 3] 30)))
    have hnew : ∀ j u, (([.slice (some ⟨w.heap.size + 1, 0, none⟩) 3 3, .slice (some ⟨w.heap.size + 1 + 1, 0, none⟩) 3 3, .slice (some ⟨w.heap.size + 1 + 1 + 1, 0, none⟩) 3 3, .slice (some ⟨w.heap.size + 1 + 1 + 1 + 1, 0, none⟩) 3 3] : List Value))[j]? = some u → ((((((w.alloc (.cells #[.bool true, .int .i64 x1, .int .i64 x2] 47)).alloc (.cells #[.int .i64 (x1), .int .i64 (x2), .int .i64 (-K)] 3)).alloc (.cells #[.int .i64 (-x1), .int .i64 (-x2), .int .i64 (-K)] 3)).alloc (.cells #[.int .i64 (-x1), .int .i64 (x2), .int .i64 (K)] 3)).alloc (.cells #[.int .i64 (x1), .int .i64 (-x2), .int .i64 (K)] 3)).alloc (.cells #[.slice (some ⟨w.heap.size + 1, 0, none⟩) 3 3, .slice (some ⟨w.heap.size + 1 + 1, 0, none⟩) 3 3, .slice (some ⟨w.heap.size + 1 + 1 + 1, 0, none⟩) 3 3, .slice (some ⟨w.heap.size + 1 + 1 + 1 + 1, 0, none⟩) 3 3] 30)).cell? ((⟨w.heap.size + 1 + 1 + 1 + 1 + 1, 0, none⟩ : Addr).add j) = some u := World.news_of_block (by have := heap_alloc_new (((((w.alloc (.cells #[.bool true, .int .i64 x1, .int .i64 x2] 47)).alloc (.cells #[.int .i64 (x1), .int .i64 (x2), .int .i64 (-K)] 3)).alloc (.cells #[.int .i64 (-x1), .int .i64 (-x2), .int .i64 (-K)] 3)).alloc (.cells #[.int .i64 (-x1), .int .i64 (x2), .int .i64 (K)] 3)).alloc (.cells #[.int .i64 (x1), .int .i64 (-x2), .int .i64 (K)] 3)) (.cells #[.slice (some ⟨w.heap.size + 1, 0, none⟩) 3 3, .slice (some ⟨w.heap.size + 1 + 1, 0, none⟩) 3 3, .slice (some ⟨w.heap.size + 1 + 1 + 1, 0, none⟩) 3 3, .slice (some ⟨w.heap.size + 1 + 1 + 1 + 1, 0, none⟩) 3 3] 30); simp only [alloc_size] at this; exact this)
    have HN := Lib.hid hnew
    have hb5 : Below w.heap.size w ((((((w.alloc (.cells #[.bool true, .int .i64 x1, .int .i64 x2] 47)).alloc (.cells #[.int .i64 (x1), .int .i64 (x2), .int .i64 (-K)] 3)).alloc (.cells #[.int .i64 (-x1), .int .i64 (-x2), .int .i64 (-K)] 3)).alloc (.cells #[.int .i64 (-x1), .int .i64 (x2), .int .i64 (K)] 3)).alloc (.cells #[.int .i64 (x1), .int .i64 (-x2), .int .i64 (K)] 3)).alloc (.cells #[.slice (some ⟨w.heap.size + 1, 0, none⟩) 3 3, .slice (some ⟨w.heap.size + 1 + 1, 0, none⟩) 3 3, .slice (some ⟨w.heap.size + 1 + 1 + 1, 0, none⟩) 3 3, .slice (some ⟨w.heap.size + 1 + 1 + 1 + 1, 0, none⟩) 3 3] 30)) := by
      repeat' (first | exact Below.refl _ _ | with_reducible apply below_step)
    have HB := Lib.hid hb5
    clear hN hnew hb5
    have n1 : IntKind.i64.wrap (-x1) = -x1 := IntWalk.i64_in _ (by omega)
    have n2 : IntKind.i64.wrap (-x2) = -x2 := IntWalk.i64_in _ (by omega)
    have n3 : IntKind.i64.wrap (-K) = -K := IntWalk.i64_in _ (by omega)
    go_enter Try.func75, Try.ntmps75
    go_wp2_with fail
    go_ret
    exact ⟨_, 4, [.slice (some ⟨w.heap.size + 1, 0, none⟩) 3 3, .slice (some ⟨w.heap.size + 1 + 1, 0, none⟩) 3 3, .slice (some ⟨w.heap.size + 1 + 1 + 1, 0, none⟩) 3 3, .slice (some ⟨w.heap.size + 1 + 1 + 1 + 1, 0, none⟩) 3 3], rfl, rfl, by decide, by decide, newRows_le hN2.out (by omega), HN.out, by intro u hu; simp at hu; rcases hu with rfl | rfl | rfl | rfl <;> rfl, HB.out⟩

theorem hk_below {W W' : World} {k : Nat} {X : Obj} (h : W.heap[k]? = some X) (hb : Below W.heap.size W W') : W'.heap[k]? = some X := (hb.block k (Array.getElem?_eq_some_iff.1 h).1).trans h
theorem CnfIn.of_blocks {w : World} {base gr gt go : Nat} {mc : Int} (h1 : w.heap[gr]? = some (.cells #[.int .i64 1] 3 (0, 0))) (h2 : w.heap[gt]? = some (.cells #[.slice (some ⟨gr, 0, none⟩) 1 1] 30 (0, 0))) (h3 : w.heap[go]? = some (.cells #[.int .i64 mc, .slice (some ⟨gt, 0, none⟩) 1 1] 54 (0, 0)))
    (b1 : base ≤ gr) (b2 : base ≤ gt) : CnfIn w base go mc [[1]] := by
  have n1 : gr ≠ gt := fun e => by
    subst e
    rw [h1] at h2
    cases h2
  have n2 : gr ≠ go := fun e => by
    subst e
    rw [h1] at h3
    cases h3
  have n3 : gt ≠ go := fun e => by
    subst e
    rw [h2] at h3
    cases h3
  have o1 : w.ownsRow base 3 1 (.slice (some ⟨gr, 0, none⟩) 1 1) 1 [.int .i64 1] := ⟨rfl, .inr ⟨gr, 1, _, rfl, b1, h1, Nat.le_refl _, by decide, rfl, rfl⟩⟩
  have o2 : w.ownsRow base 30 1 (.slice (some ⟨gt, 0, none⟩) 1 1) 1 [.slice (some ⟨gr, 0, none⟩) 1 1] := ⟨rfl, .inr ⟨gt, 1, _, rfl, b2, h2, Nat.le_refl _, by decide, rfl, rfl⟩⟩
  refine ⟨gt, 1, [.slice (some ⟨gr, 0, none⟩) 1 1], h3, ⟨o2, fun i hi => ?_, fun i j hij hj => ?_, fun i hi q hq => ?_, fun i hi hi2 => absurd hi2 (by omega)⟩, ?_, fun i hi => ?_⟩
  · obtain rfl : i = 0 := by simp at hi; omega
    exact o1
  · simp at hj; omega
  · obtain rfl : i = 0 := by simp at hi; omega
    cases hq
    exact fun e => n1 (by cases e; rfl)
  · exact fun e => n3 (by cases e; rfl)
  · obtain rfl : i = 0 := by simp at hi; omega
    exact fun e => n2 (by cases e; rfl)

set_option linter.unusedVariables false in
set_option maxRecDepth 100000 in
set_option maxHeartbeats 16000000 in
theorem cnf_any (m : Int) (gs : List Gt) (gc bm : Nat) (x : Value) (w : World) (KC : Blk3 w gc (.int .i64 m) x (.map (some bm)) 94) (h : Gates w x gs) (hin : NetIn m gs) :
    Calls Try.prog 57 #[.pointer (some ⟨gc, 0, none⟩)] w (NewCnf (1 + m + gs.length) (cnfTo m gs gs.length) w) := by
  obtain ⟨⟨m0, m8, l6⟩, _⟩ := id hin
  have hbd := Lib.hid (fun k (hk : k < gs.length) => gate_bd hin hk)
  obtain ⟨a, cap, rfl⟩ := h.form
  obtain ⟨i0, hi, hz0, hz1, hz2⟩ := info_parts infoInts
  clear hin
  have gl := KC.lt
  obtain ⟨mc, hmc⟩ : ∃ mc, mc = 1 + m + (gs.length : Int) := ⟨_, rfl⟩
  rw [← hmc]
  have HMC := Lib.hid hmc
  clear hmc
  obtain ⟨W, hW⟩ : ∃ W, W = w.alloc (.cells #[.int .i64 0, .slice none 0 0] 54) := ⟨_, rfl⟩
  have BW : Below w.heap.size w W := by rw [hW]; exact below_self_alloc _ _
  have Rb : Blk W w.heap.size (.int .i64 0) (.slice none 0 0) 54 := by rw [hW]; exact blk_new w _ _ _
  have hs : w.heap.size < W.heap.size := Rb.lt
  replace KC := KC.keep BW
  replace h := h.below BW
  have HW := Lib.hid hW
  clear hW
  go_enter Try.func57, Try.ntmps57
  go_upto_region 1 with (rw [← HW.out])
  go_cut [3] (fun s3 wx => ∃ go, s3 = .pointer (some ⟨go, 0, none⟩) ∧ CnfIn wx W.heap.size go mc [[1]] ∧ W.heap.size ≤ go ∧ Below W.heap.size W wx)
  case first =>
    have KD := KC.drew
    have NC : Hid (∀ w', Calls Try.prog 69 #[.agg #[.int .i64 m, .slice a gs.length cap], .int .i64 (gs.length : Int)] w' fun e w2 => e = .returned (.int .i64 mc) ∧ Below w'.heap.size w' w2) := fun w' => by
      have := nodes_any m (.slice a gs.length cap) gs.length w' m0 (by omega) (by omega) (by omega)
      rw [← HMC.out] at this
      exact this
    clear hi hz0 hz1 hz2 Rb h hbd HW BW
    refine wp_region_noPanic ?_
    refine wp_regionS 15 (fun wx : World => wx.cell? ⟨gc, 0, none⟩ = some (.int .i64 m) ∧ wx.cell? ⟨gc, 1, none⟩ = some (.slice a gs.length cap)) (by kernel_rfl) (⟨KD.cells.1, KD.cells.2.1⟩) (fun hHeld => ?_)
    refine anyS_take (i := 0) (oi := { dst := some 6, op := Go.Op.move (Go.Operand.tmp 0), type := 75, pos := _, after := #[], guard := none }) (v := ?_) rfl (by kernel_rfl) (by kernel_rfl) (by kernel_rfl) (by kernel_rfl) (by kernel_rfl) (fun _ _ _ h => h) (Or.inl ⟨by rfl, ?_⟩) hHeld ?_
    rotate_left
    · (intro wq hSw; (try dsimp only at hSw); (try go_simp); (try with_reducible rfl))
    try simp only [Act.put, List.setIfInBounds_toArray, List.set_cons_zero, List.set_cons_succ]
    refine anyS_take (i := 1) (oi := { dst := some 7, op := Go.Op.nilCheck (Go.Operand.tmp 6), type := 0, pos := _, after := #[{ on := 0, ground := Go.Ground.data }], guard := none }) (v := ?_) rfl (by kernel_rfl) (by kernel_rfl) (by kernel_rfl) (by kernel_rfl) (by kernel_rfl) (fun _ _ _ h => h) (Or.inl ⟨by rfl, ?_⟩) hHeld ?_
    rotate_left
    · (intro wq hSw; (try dsimp only at hSw); (try go_simp); (try with_reducible rfl))
    try simp only [Act.put, List.setIfInBounds_toArray, List.set_cons_zero, List.set_cons_succ]
    refine anyS_take (i := 2) (oi := { dst := some 8, op := Go.Op.fieldAddr 94 (Go.Operand.tmp 7) 0, type := 0, pos := _, after := #[{ on := 1, ground := Go.Ground.data }], guard := none }) (v := ?_) rfl (by kernel_rfl) (by kernel_rfl) (by kernel_rfl) (by kernel_rfl) (by kernel_rfl) (fun _ _ _ h => h) (Or.inl ⟨by rfl, ?_⟩) hHeld ?_
    rotate_left
    · (intro wq hSw; (try dsimp only at hSw); (try go_simp); (try with_reducible rfl))
    try simp only [Act.put, List.setIfInBounds_toArray, List.set_cons_zero, List.set_cons_succ]
    refine anyS_take (i := 3) (oi := { dst := some 9, op := Go.Op.load 39 (Go.Operand.tmp 8), type := 39, pos := _, after := #[{ on := 2, ground := Go.Ground.data }], guard := none }) (v := ?_) rfl (by kernel_rfl) (by kernel_rfl) (by kernel_rfl) (by kernel_rfl) (by kernel_rfl) (fun _ _ _ h => h) (Or.inl ⟨by rfl, ?_⟩) hHeld ?_
    rotate_left
    · (intro wq hSw; (try dsimp only at hSw); (try go_simp); (try with_reducible rfl))
    try simp only [Act.put, List.setIfInBounds_toArray, List.set_cons_zero, List.set_cons_succ]
    refine anyS_take (i := 4) (oi := { dst := some 10, op := Go.Op.move (Go.Operand.tmp 0), type := 75, pos := _, after := #[], guard := none }) (v := ?_) rfl (by kernel_rfl) (by kernel_rfl) (by kernel_rfl) (by kernel_rfl) (by kernel_rfl) (fun _ _ _ h => h) (Or.inl ⟨by rfl, ?_⟩) hHeld ?_
    rotate_left
    · (intro wq hSw; (try dsimp only at hSw); (try go_simp); (try with_reducible rfl))
    try simp only [Act.put, List.setIfInBounds_toArray, List.set_cons_zero, List.set_cons_succ]
    refine anyS_take (i := 5) (oi := { dst := some 11, op := Go.Op.nilCheck (Go.Operand.tmp 10), type := 0, pos := _, after := #[{ on := 4, ground := Go.Ground.data }], guard := none }) (v := ?_) rfl (by kernel_rfl) (by kernel_rfl) (by kernel_rfl) (by kernel_rfl) (by kernel_rfl) (fun _ _ _ h => h) (Or.inl ⟨by rfl, ?_⟩) hHeld ?_
    rotate_left
    · (intro wq hSw; (try dsimp only at hSw); (try go_simp); (try with_reducible rfl))
    try simp only [Act.put, List.setIfInBounds_toArray, List.set_cons_zero, List.set_cons_succ]
    refine anyS_take (i := 6) (oi := { dst := some 12, op := Go.Op.fieldAddr 94 (Go.Operand.tmp 11) 0, type := 0, pos := _, after := #[{ on := 5, ground := Go.Ground.data }], guard := none }) (v := ?_) rfl (by kernel_rfl) (by kernel_rfl) (by kernel_rfl) (by kernel_rfl) (by kernel_rfl) (fun _ _ _ h => h) (Or.inl ⟨by rfl, ?_⟩) hHeld ?_
    rotate_left
    · (intro wq hSw; (try dsimp only at hSw); (try go_simp); (try with_reducible rfl))
    try simp only [Act.put, List.setIfInBounds_toArray, List.set_cons_zero, List.set_cons_succ]
    refine anyS_take (i := 7) (oi := { dst := some 13, op := Go.Op.fieldAddr 39 (Go.Operand.tmp 12) 1, type := 0, pos := _, after := #[{ on := 6, ground := Go.Ground.data }], guard := none }) (v := ?_) rfl (by kernel_rfl) (by kernel_rfl) (by kernel_rfl) (by kernel_rfl) (by kernel_rfl) (fun _ _ _ h => h) (Or.inl ⟨by rfl, ?_⟩) hHeld ?_
    rotate_left
    · (intro wq hSw; (try dsimp only at hSw); (try go_simp); (try with_reducible rfl))
    try simp only [Act.put, List.setIfInBounds_toArray, List.set_cons_zero, List.set_cons_succ]
    refine anyS_take (i := 8) (oi := { dst := some 14, op := Go.Op.load 37 (Go.Operand.tmp 13), type := 37, pos := _, after := #[{ on := 7, ground := Go.Ground.data }], guard := none }) (v := ?_) rfl (by kernel_rfl) (by kernel_rfl) (by kernel_rfl) (by kernel_rfl) (by kernel_rfl) (fun _ _ _ h => h) (Or.inl ⟨by rfl, ?_⟩) hHeld ?_
    rotate_left
    · (intro wq hSw; (try dsimp only at hSw); (try go_simp); (try with_reducible rfl))
    try simp only [Act.put, List.setIfInBounds_toArray, List.set_cons_zero, List.set_cons_succ]
    refine anyS_take (i := 9) (oi := { dst := some 15, op := Go.Op.call { callee := Go.Callee.builtin Go.Builtin.len, args := #[Go.Operand.tmp 14], argTypes := #[37] }, type := 3, pos := _, after := #[{ on := 8, ground := Go.Ground.data }], guard := none }) (v := ?_) rfl (by kernel_rfl) (by kernel_rfl) (by kernel_rfl) (by kernel_rfl) (by kernel_rfl) (fun _ _ _ h => h) (Or.inl ⟨by rfl, ?_⟩) hHeld ?_
    rotate_left
    · (intro wq hSw; (try dsimp only at hSw); (try go_simp); (try with_reducible rfl))
    try simp only [Act.put, List.setIfInBounds_toArray, List.set_cons_zero, List.set_cons_succ]
    refine anyS_ready (rs := [10, 11, 14]) (by kernel_rfl) (by simp) ?_
    refine readyS_cons (o := { dst := some 16, op := Go.Op.call { callee := Go.Callee.value (Go.Operand.func 69), args := #[Go.Operand.tmp 9, Go.Operand.tmp 15], argTypes := #[39, 3] }, type := 3, pos := _, after := #[{ on := 3, ground := Go.Ground.data }, { on := 9, ground := Go.Ground.data }], guard := none }) rfl (fun KK hKK => ?_) (readyS_cons (o := { dst := some 17, op := Go.Op.buildSlice 30 1 #[(0, Go.Operand.const (Go.Value.int Go.IntKind.i64 1))], type := 30, pos := _, after := #[], guard := none }) rfl (fun KK hKK => ?_) (readyS_cons (o := { dst := some 3, op := Go.Op.alloc 54, type := 0, pos := _, after := #[], guard := none }) rfl (fun KK hKK => ?_) (readyS_nil)))
    · skip
      go_simp
      go_at_call 69
      refine (NC.out _).mono ?_
      rintro e w3 ⟨rfl, hb⟩
      have KDc := KD.keep hb
      have hsz := hb.size
      try go_simp
      refine hKK.out _ _ (⟨KDc.cells.1, KDc.cells.2.1⟩) (fun hHeld => ?_)
      clear hKK KK
      try simp only [Act.put, List.setIfInBounds_toArray, List.set_cons_zero, List.set_cons_succ]
      refine anyS_ready (rs := [11, 14]) (by kernel_rfl) (by simp) ?_
      refine readyS_cons (o := { dst := some 17, op := Go.Op.buildSlice 30 1 #[(0, Go.Operand.const (Go.Value.int Go.IntKind.i64 1))], type := 30, pos := _, after := #[], guard := none }) rfl (fun KK hKK => ?_) (readyS_cons (o := { dst := some 3, op := Go.Op.alloc 54, type := 0, pos := _, after := #[], guard := none }) rfl (fun KK hKK => ?_) (readyS_nil))
      · skip
        go_simp
        have KDcr := KDc.alloc (.cells #[.int .i64 1] 3)
        try go_simp
        refine hKK.out _ _ (⟨KDcr.cells.1, KDcr.cells.2.1⟩) (fun hHeld => ?_)
        clear hKK KK
        try simp only [Act.put, List.setIfInBounds_toArray, List.set_cons_zero, List.set_cons_succ]
        refine anyS_ready (rs := [12, 14]) (by kernel_rfl) (by simp) ?_
        refine readyS_cons (o := { dst := some 18, op := Go.Op.buildSlice 52 1 #[(0, Go.Operand.tmp 17)], type := 52, pos := _, after := #[{ on := 11, ground := Go.Ground.data }], guard := none }) rfl (fun KK hKK => ?_) (readyS_cons (o := { dst := some 3, op := Go.Op.alloc 54, type := 0, pos := _, after := #[], guard := none }) rfl (fun KK hKK => ?_) (readyS_nil))
        · skip
          go_simp
          have KDcro := KDcr.alloc (.cells #[.slice (some ⟨w3.heap.size, 0, none⟩) 1 1] 30)
          try go_simp
          refine hKK.out _ _ (⟨KDcro.cells.1, KDcro.cells.2.1⟩) (fun hHeld => ?_)
          clear hKK KK
          try simp only [Act.put, List.setIfInBounds_toArray, List.set_cons_zero, List.set_cons_succ]
          refine anyS_take (i := 13) (oi := { dst := some 19, op := Go.Op.build 54 #[(0, Go.Operand.tmp 16), (1, Go.Operand.tmp 18)], type := 54, pos := _, after := #[{ on := 10, ground := Go.Ground.data }, { on := 12, ground := Go.Ground.data }], guard := none }) (v := ?_) rfl (by kernel_rfl) (by kernel_rfl) (by kernel_rfl) (by kernel_rfl) (by kernel_rfl) (fun _ _ _ h => h) (Or.inl ⟨by rfl, ?_⟩) hHeld ?_
          rotate_left
          · (intro wq hSw; (try dsimp only at hSw); (try go_simp); (try with_reducible rfl))
          try simp only [Act.put, List.setIfInBounds_toArray, List.set_cons_zero, List.set_cons_succ]
          refine anyS_ready (rs := [14]) (by kernel_rfl) (by simp) ?_
          refine readyS_cons (o := { dst := some 3, op := Go.Op.alloc 54, type := 0, pos := _, after := #[], guard := none }) rfl (fun KK hKK => ?_) (readyS_nil)
          go_simp
          have KDcroa := KDcro.alloc (.cells #[.int .i64 0, .slice none 0 0] 54)
          try go_simp
          refine hKK.out _ _ (⟨KDcroa.cells.1, KDcroa.cells.2.1⟩) (fun hHeld => ?_)
          clear hKK KK
          try simp only [Act.put, List.setIfInBounds_toArray, List.set_cons_zero, List.set_cons_succ]
          refine anyS_ready (rs := [15]) (by kernel_rfl) (by simp) ?_
          refine readyS_last (o := { dst := none, op := Go.Op.store 54 (Go.Operand.tmp 3) (Go.Operand.tmp 19), type := 0, pos := _, after := #[{ on := 14, ground := Go.Ground.data }, { on := 13, ground := Go.Ground.data }, { on := 10, ground := Go.Ground.chain }, { on := 0, ground := Go.Ground.phase }, { on := 1, ground := Go.Ground.phase }, { on := 2, ground := Go.Ground.phase }, { on := 3, ground := Go.Ground.phase }, { on := 4, ground := Go.Ground.phase }, { on := 5, ground := Go.Ground.phase }, { on := 6, ground := Go.Ground.phase }, { on := 7, ground := Go.Ground.phase }, { on := 8, ground := Go.Ground.phase }, { on := 9, ground := Go.Ground.phase }, { on := 10, ground := Go.Ground.phase }, { on := 11, ground := Go.Ground.phase }, { on := 12, ground := Go.Ground.phase }, { on := 13, ground := Go.Ground.phase }, { on := 14, ground := Go.Ground.phase }], guard := none }) rfl (by kernel_rfl) (fun KK hKK => ?_) (readyS_nil)
          go_simp
          refine hKK.out _ _ ?_
          clear hKK KK hHeld
          have hHeld := trivial
          try simp only [Act.put, List.setIfInBounds_toArray, List.set_cons_zero, List.set_cons_succ]
          refine anyS_done (by kernel_rfl) ?_ _
          refine NoPanic.normal ?_
          have hsz2 : W.heap.size < w3.heap.size + 1 := by simp at hsz; omega
          clear hHeld
          go_wp2_with fail
          go_meet
          refine ⟨w3.heap.size + 1 + 1, rfl, CnfIn.of_blocks (gr := w3.heap.size) (gt := w3.heap.size + 1) ?_ ?_ ?_ (by omega) (by omega), (by omega), ?_⟩
          · (repeat' (first | ((with_reducible refine hk_at ?_); (first | rfl | (simp; done) | (simp; omega))) | (with_reducible refine hk_below ?_ hb) | with_reducible apply hk_alloc | with_reducible apply hk_drew | with_reducible refine hk_set ?_ (by first | (simp; done) | (simp; omega)) _))
          · (repeat' (first | ((with_reducible refine hk_at ?_); (first | rfl | (simp; done) | (simp; omega))) | (with_reducible refine hk_below ?_ hb) | with_reducible apply hk_alloc | with_reducible apply hk_drew | with_reducible refine hk_set ?_ (by first | (simp; done) | (simp; omega)) _))
          · (repeat' (first | ((with_reducible refine hk_at ?_); (first | rfl | (simp; done) | (simp; omega))) | (with_reducible refine hk_below ?_ hb) | with_reducible apply hk_alloc | with_reducible apply hk_drew | with_reducible refine hk_set ?_ (by first | (simp; done) | (simp; omega)) _))
          · (repeat' (first | with_reducible exact Below.refl _ _ | with_reducible exact hb | with_reducible apply Below.drew | with_reducible apply below_step | (with_reducible refine below_two ?_ hb) | (with_reducible refine Below.setCell ?_ (by first | exact Nat.le_refl _ | (simp; done) | (simp; omega)) _)))
        · skip
          go_simp
          have KDcra := KDcr.alloc (.cells #[.int .i64 0, .slice none 0 0] 54)
          try go_simp
          refine hKK.out _ _ (⟨KDcra.cells.1, KDcra.cells.2.1⟩) (fun hHeld => ?_)
          clear hKK KK
          try simp only [Act.put, List.setIfInBounds_toArray, List.set_cons_zero, List.set_cons_succ]
          refine anyS_ready (rs := [12]) (by kernel_rfl) (by simp) ?_
          refine readyS_cons (o := { dst := some 18, op := Go.Op.buildSlice 52 1 #[(0, Go.Operand.tmp 17)], type := 52, pos := _, after := #[{ on := 11, ground := Go.Ground.data }], guard := none }) rfl (fun KK hKK => ?_) (readyS_nil)
          go_simp
          have KDcrao := KDcra.alloc (.cells #[.slice (some ⟨w3.heap.size, 0, none⟩) 1 1] 30)
          try go_simp
          refine hKK.out _ _ (⟨KDcrao.cells.1, KDcrao.cells.2.1⟩) (fun hHeld => ?_)
          clear hKK KK
          try simp only [Act.put, List.setIfInBounds_toArray, List.set_cons_zero, List.set_cons_succ]
          refine anyS_take (i := 13) (oi := { dst := some 19, op := Go.Op.build 54 #[(0, Go.Operand.tmp 16), (1, Go.Operand.tmp 18)], type := 54, pos := _, after := #[{ on := 10, ground := Go.Ground.data }, { on := 12, ground := Go.Ground.data }], guard := none }) (v := ?_) rfl (by kernel_rfl) (by kernel_rfl) (by kernel_rfl) (by kernel_rfl) (by kernel_rfl) (fun _ _ _ h => h) (Or.inl ⟨by rfl, ?_⟩) hHeld ?_
          rotate_left
          · (intro wq hSw; (try dsimp only at hSw); (try go_simp); (try with_reducible rfl))
          try simp only [Act.put, List.setIfInBounds_toArray, List.set_cons_zero, List.set_cons_succ]
          refine anyS_ready (rs := [15]) (by kernel_rfl) (by simp) ?_
          refine readyS_last (o := { dst := none, op := Go.Op.store 54 (Go.Operand.tmp 3) (Go.Operand.tmp 19), type := 0, pos := _, after := #[{ on := 14, ground := Go.Ground.data }, { on := 13, ground := Go.Ground.data }, { on := 10, ground := Go.Ground.chain }, { on := 0, ground := Go.Ground.phase }, { on := 1, ground := Go.Ground.phase }, { on := 2, ground := Go.Ground.phase }, { on := 3, ground := Go.Ground.phase }, { on := 4, ground := Go.Ground.phase }, { on := 5, ground := Go.Ground.phase }, { on := 6, ground := Go.Ground.phase }, { on := 7, ground := Go.Ground.phase }, { on := 8, ground := Go.Ground.phase }, { on := 9, ground := Go.Ground.phase }, { on := 10, ground := Go.Ground.phase }, { on := 11, ground := Go.Ground.phase }, { on := 12, ground := Go.Ground.phase }, { on := 13, ground := Go.Ground.phase }, { on := 14, ground := Go.Ground.phase }], guard := none }) rfl (by kernel_rfl) (fun KK hKK => ?_) (readyS_nil)
          go_simp
          refine hKK.out _ _ ?_
          clear hKK KK hHeld
          have hHeld := trivial
          try simp only [Act.put, List.setIfInBounds_toArray, List.set_cons_zero, List.set_cons_succ]
          refine anyS_done (by kernel_rfl) ?_ _
          refine NoPanic.normal ?_
          have hsz2 : W.heap.size < w3.heap.size + 1 := by simp at hsz; omega
          clear hHeld
          go_wp2_with fail
          go_meet
          refine ⟨w3.heap.size + 1, rfl, CnfIn.of_blocks (gr := w3.heap.size) (gt := w3.heap.size + 1 + 1) ?_ ?_ ?_ (by omega) (by omega), (by omega), ?_⟩
          · (repeat' (first | ((with_reducible refine hk_at ?_); (first | rfl | (simp; done) | (simp; omega))) | (with_reducible refine hk_below ?_ hb) | with_reducible apply hk_alloc | with_reducible apply hk_drew | with_reducible refine hk_set ?_ (by first | (simp; done) | (simp; omega)) _))
          · (repeat' (first | ((with_reducible refine hk_at ?_); (first | rfl | (simp; done) | (simp; omega))) | (with_reducible refine hk_below ?_ hb) | with_reducible apply hk_alloc | with_reducible apply hk_drew | with_reducible refine hk_set ?_ (by first | (simp; done) | (simp; omega)) _))
          · (repeat' (first | ((with_reducible refine hk_at ?_); (first | rfl | (simp; done) | (simp; omega))) | (with_reducible refine hk_below ?_ hb) | with_reducible apply hk_alloc | with_reducible apply hk_drew | with_reducible refine hk_set ?_ (by first | (simp; done) | (simp; omega)) _))
          · (repeat' (first | with_reducible exact Below.refl _ _ | with_reducible exact hb | with_reducible apply Below.drew | with_reducible apply below_step | (with_reducible refine below_two ?_ hb) | (with_reducible refine Below.setCell ?_ (by first | exact Nat.le_refl _ | (simp; done) | (simp; omega)) _)))
      · skip
        go_simp
        have KDca := KDc.alloc (.cells #[.int .i64 0, .slice none 0 0] 54)
        try go_simp
        refine hKK.out _ _ (⟨KDca.cells.1, KDca.cells.2.1⟩) (fun hHeld => ?_)
        clear hKK KK
        try simp only [Act.put, List.setIfInBounds_toArray, List.set_cons_zero, List.set_cons_succ]
        refine anyS_ready (rs := [11]) (by kernel_rfl) (by simp) ?_
        refine readyS_cons (o := { dst := some 17, op := Go.Op.buildSlice 30 1 #[(0, Go.Operand.const (Go.Value.int Go.IntKind.i64 1))], type := 30, pos := _, after := #[], guard := none }) rfl (fun KK hKK => ?_) (readyS_nil)
        go_simp
        have KDcar := KDca.alloc (.cells #[.int .i64 1] 3)
        try go_simp
        refine hKK.out _ _ (⟨KDcar.cells.1, KDcar.cells.2.1⟩) (fun hHeld => ?_)
        clear hKK KK
        try simp only [Act.put, List.setIfInBounds_toArray, List.set_cons_zero, List.set_cons_succ]
        refine anyS_ready (rs := [12]) (by kernel_rfl) (by simp) ?_
        refine readyS_cons (o := { dst := some 18, op := Go.Op.buildSlice 52 1 #[(0, Go.Operand.tmp 17)], type := 52, pos := _, after := #[{ on := 11, ground := Go.Ground.data }], guard := none }) rfl (fun KK hKK => ?_) (readyS_nil)
        go_simp
        have KDcaro := KDcar.alloc (.cells #[.slice (some ⟨w3.heap.size + 1, 0, none⟩) 1 1] 30)
        try go_simp
        refine hKK.out _ _ (⟨KDcaro.cells.1, KDcaro.cells.2.1⟩) (fun hHeld => ?_)
        clear hKK KK
        try simp only [Act.put, List.setIfInBounds_toArray, List.set_cons_zero, List.set_cons_succ]
        refine anyS_take (i := 13) (oi := { dst := some 19, op := Go.Op.build 54 #[(0, Go.Operand.tmp 16), (1, Go.Operand.tmp 18)], type := 54, pos := _, after := #[{ on := 10, ground := Go.Ground.data }, { on := 12, ground := Go.Ground.data }], guard := none }) (v := ?_) rfl (by kernel_rfl) (by kernel_rfl) (by kernel_rfl) (by kernel_rfl) (by kernel_rfl) (fun _ _ _ h => h) (Or.inl ⟨by rfl, ?_⟩) hHeld ?_
        rotate_left
        · (intro wq hSw; (try dsimp only at hSw); (try go_simp); (try with_reducible rfl))
        try simp only [Act.put, List.setIfInBounds_toArray, List.set_cons_zero, List.set_cons_succ]
        refine anyS_ready (rs := [15]) (by kernel_rfl) (by simp) ?_
        refine readyS_last (o := { dst := none, op := Go.Op.store 54 (Go.Operand.tmp 3) (Go.Operand.tmp 19), type := 0, pos := _, after := #[{ on := 14, ground := Go.Ground.data }, { on := 13, ground := Go.Ground.data }, { on := 10, ground := Go.Ground.chain }, { on := 0, ground := Go.Ground.phase }, { on := 1, ground := Go.Ground.phase }, { on := 2, ground := Go.Ground.phase }, { on := 3, ground := Go.Ground.phase }, { on := 4, ground := Go.Ground.phase }, { on := 5, ground := Go.Ground.phase }, { on := 6, ground := Go.Ground.phase }, { on := 7, ground := Go.Ground.phase }, { on := 8, ground := Go.Ground.phase }, { on := 9, ground := Go.Ground.phase }, { on := 10, ground := Go.Ground.phase }, { on := 11, ground := Go.Ground.phase }, { on := 12, ground := Go.Ground.phase }, { on := 13, ground := Go.Ground.phase }, { on := 14, ground := Go.Ground.phase }], guard := none }) rfl (by kernel_rfl) (fun KK hKK => ?_) (readyS_nil)
        go_simp
        refine hKK.out _ _ ?_
        clear hKK KK hHeld
        have hHeld := trivial
        try simp only [Act.put, List.setIfInBounds_toArray, List.set_cons_zero, List.set_cons_succ]
        refine anyS_done (by kernel_rfl) ?_ _
        refine NoPanic.normal ?_
        have hsz2 : W.heap.size < w3.heap.size + 1 := by simp at hsz; omega
        clear hHeld
        go_wp2_with fail
        go_meet
        refine ⟨w3.heap.size, rfl, CnfIn.of_blocks (gr := w3.heap.size + 1) (gt := w3.heap.size + 1 + 1) ?_ ?_ ?_ (by omega) (by omega), (by omega), ?_⟩
        · (repeat' (first | ((with_reducible refine hk_at ?_); (first | rfl | (simp; done) | (simp; omega))) | (with_reducible refine hk_below ?_ hb) | with_reducible apply hk_alloc | with_reducible apply hk_drew | with_reducible refine hk_set ?_ (by first | (simp; done) | (simp; omega)) _))
        · (repeat' (first | ((with_reducible refine hk_at ?_); (first | rfl | (simp; done) | (simp; omega))) | (with_reducible refine hk_below ?_ hb) | with_reducible apply hk_alloc | with_reducible apply hk_drew | with_reducible refine hk_set ?_ (by first | (simp; done) | (simp; omega)) _))
        · (repeat' (first | ((with_reducible refine hk_at ?_); (first | rfl | (simp; done) | (simp; omega))) | (with_reducible refine hk_below ?_ hb) | with_reducible apply hk_alloc | with_reducible apply hk_drew | with_reducible refine hk_set ?_ (by first | (simp; done) | (simp; omega)) _))
        · (repeat' (first | with_reducible exact Below.refl _ _ | with_reducible exact hb | with_reducible apply Below.drew | with_reducible apply below_step | (with_reducible refine below_two ?_ hb) | (with_reducible refine Below.setCell ?_ (by first | exact Nat.le_refl _ | (simp; done) | (simp; omega)) _)))
    · skip
      go_simp
      have KDr := KD.alloc (.cells #[.int .i64 1] 3)
      try go_simp
      refine hKK.out _ _ (⟨KDr.cells.1, KDr.cells.2.1⟩) (fun hHeld => ?_)
      clear hKK KK
      try simp only [Act.put, List.setIfInBounds_toArray, List.set_cons_zero, List.set_cons_succ]
      refine anyS_ready (rs := [10, 12, 14]) (by kernel_rfl) (by simp) ?_
      refine readyS_cons (o := { dst := some 16, op := Go.Op.call { callee := Go.Callee.value (Go.Operand.func 69), args := #[Go.Operand.tmp 9, Go.Operand.tmp 15], argTypes := #[39, 3] }, type := 3, pos := _, after := #[{ on := 3, ground := Go.Ground.data }, { on := 9, ground := Go.Ground.data }], guard := none }) rfl (fun KK hKK => ?_) (readyS_cons (o := { dst := some 18, op := Go.Op.buildSlice 52 1 #[(0, Go.Operand.tmp 17)], type := 52, pos := _, after := #[{ on := 11, ground := Go.Ground.data }], guard := none }) rfl (fun KK hKK => ?_) (readyS_cons (o := { dst := some 3, op := Go.Op.alloc 54, type := 0, pos := _, after := #[], guard := none }) rfl (fun KK hKK => ?_) (readyS_nil)))
      · skip
        go_simp
        go_at_call 69
        refine (NC.out _).mono ?_
        rintro e w3 ⟨rfl, hb⟩
        have KDrc := KDr.keep hb
        have hsz := hb.size
        try go_simp
        refine hKK.out _ _ (⟨KDrc.cells.1, KDrc.cells.2.1⟩) (fun hHeld => ?_)
        clear hKK KK
        try simp only [Act.put, List.setIfInBounds_toArray, List.set_cons_zero, List.set_cons_succ]
        refine anyS_ready (rs := [12, 14]) (by kernel_rfl) (by simp) ?_
        refine readyS_cons (o := { dst := some 18, op := Go.Op.buildSlice 52 1 #[(0, Go.Operand.tmp 17)], type := 52, pos := _, after := #[{ on := 11, ground := Go.Ground.data }], guard := none }) rfl (fun KK hKK => ?_) (readyS_cons (o := { dst := some 3, op := Go.Op.alloc 54, type := 0, pos := _, after := #[], guard := none }) rfl (fun KK hKK => ?_) (readyS_nil))
        · skip
          go_simp
          have KDrco := KDrc.alloc (.cells #[.slice (some ⟨W.heap.size, 0, none⟩) 1 1] 30)
          try go_simp
          refine hKK.out _ _ (⟨KDrco.cells.1, KDrco.cells.2.1⟩) (fun hHeld => ?_)
          clear hKK KK
          try simp only [Act.put, List.setIfInBounds_toArray, List.set_cons_zero, List.set_cons_succ]
          refine anyS_take (i := 13) (oi := { dst := some 19, op := Go.Op.build 54 #[(0, Go.Operand.tmp 16), (1, Go.Operand.tmp 18)], type := 54, pos := _, after := #[{ on := 10, ground := Go.Ground.data }, { on := 12, ground := Go.Ground.data }], guard := none }) (v := ?_) rfl (by kernel_rfl) (by kernel_rfl) (by kernel_rfl) (by kernel_rfl) (by kernel_rfl) (fun _ _ _ h => h) (Or.inl ⟨by rfl, ?_⟩) hHeld ?_
          rotate_left
          · (intro wq hSw; (try dsimp only at hSw); (try go_simp); (try with_reducible rfl))
          try simp only [Act.put, List.setIfInBounds_toArray, List.set_cons_zero, List.set_cons_succ]
          refine anyS_ready (rs := [14]) (by kernel_rfl) (by simp) ?_
          refine readyS_cons (o := { dst := some 3, op := Go.Op.alloc 54, type := 0, pos := _, after := #[], guard := none }) rfl (fun KK hKK => ?_) (readyS_nil)
          go_simp
          have KDrcoa := KDrco.alloc (.cells #[.int .i64 0, .slice none 0 0] 54)
          try go_simp
          refine hKK.out _ _ (⟨KDrcoa.cells.1, KDrcoa.cells.2.1⟩) (fun hHeld => ?_)
          clear hKK KK
          try simp only [Act.put, List.setIfInBounds_toArray, List.set_cons_zero, List.set_cons_succ]
          refine anyS_ready (rs := [15]) (by kernel_rfl) (by simp) ?_
          refine readyS_last (o := { dst := none, op := Go.Op.store 54 (Go.Operand.tmp 3) (Go.Operand.tmp 19), type := 0, pos := _, after := #[{ on := 14, ground := Go.Ground.data }, { on := 13, ground := Go.Ground.data }, { on := 10, ground := Go.Ground.chain }, { on := 0, ground := Go.Ground.phase }, { on := 1, ground := Go.Ground.phase }, { on := 2, ground := Go.Ground.phase }, { on := 3, ground := Go.Ground.phase }, { on := 4, ground := Go.Ground.phase }, { on := 5, ground := Go.Ground.phase }, { on := 6, ground := Go.Ground.phase }, { on := 7, ground := Go.Ground.phase }, { on := 8, ground := Go.Ground.phase }, { on := 9, ground := Go.Ground.phase }, { on := 10, ground := Go.Ground.phase }, { on := 11, ground := Go.Ground.phase }, { on := 12, ground := Go.Ground.phase }, { on := 13, ground := Go.Ground.phase }, { on := 14, ground := Go.Ground.phase }], guard := none }) rfl (by kernel_rfl) (fun KK hKK => ?_) (readyS_nil)
          go_simp
          refine hKK.out _ _ ?_
          clear hKK KK hHeld
          have hHeld := trivial
          try simp only [Act.put, List.setIfInBounds_toArray, List.set_cons_zero, List.set_cons_succ]
          refine anyS_done (by kernel_rfl) ?_ _
          refine NoPanic.normal ?_
          have hsz2 : W.heap.size < w3.heap.size + 1 := by simp at hsz; omega
          clear hHeld
          go_wp2_with fail
          go_meet
          refine ⟨w3.heap.size + 1, rfl, CnfIn.of_blocks (gr := W.heap.size) (gt := w3.heap.size) ?_ ?_ ?_ (by omega) (by omega), (by omega), ?_⟩
          · (repeat' (first | ((with_reducible refine hk_at ?_); (first | rfl | (simp; done) | (simp; omega))) | (with_reducible refine hk_below ?_ hb) | with_reducible apply hk_alloc | with_reducible apply hk_drew | with_reducible refine hk_set ?_ (by first | (simp; done) | (simp; omega)) _))
          · (repeat' (first | ((with_reducible refine hk_at ?_); (first | rfl | (simp; done) | (simp; omega))) | (with_reducible refine hk_below ?_ hb) | with_reducible apply hk_alloc | with_reducible apply hk_drew | with_reducible refine hk_set ?_ (by first | (simp; done) | (simp; omega)) _))
          · (repeat' (first | ((with_reducible refine hk_at ?_); (first | rfl | (simp; done) | (simp; omega))) | (with_reducible refine hk_below ?_ hb) | with_reducible apply hk_alloc | with_reducible apply hk_drew | with_reducible refine hk_set ?_ (by first | (simp; done) | (simp; omega)) _))
          · (repeat' (first | with_reducible exact Below.refl _ _ | with_reducible exact hb | with_reducible apply Below.drew | with_reducible apply below_step | (with_reducible refine below_two ?_ hb) | (with_reducible refine Below.setCell ?_ (by first | exact Nat.le_refl _ | (simp; done) | (simp; omega)) _)))
        · skip
          go_simp
          have KDrca := KDrc.alloc (.cells #[.int .i64 0, .slice none 0 0] 54)
          try go_simp
          refine hKK.out _ _ (⟨KDrca.cells.1, KDrca.cells.2.1⟩) (fun hHeld => ?_)
          clear hKK KK
          try simp only [Act.put, List.setIfInBounds_toArray, List.set_cons_zero, List.set_cons_succ]
          refine anyS_ready (rs := [12]) (by kernel_rfl) (by simp) ?_
          refine readyS_cons (o := { dst := some 18, op := Go.Op.buildSlice 52 1 #[(0, Go.Operand.tmp 17)], type := 52, pos := _, after := #[{ on := 11, ground := Go.Ground.data }], guard := none }) rfl (fun KK hKK => ?_) (readyS_nil)
          go_simp
          have KDrcao := KDrca.alloc (.cells #[.slice (some ⟨W.heap.size, 0, none⟩) 1 1] 30)
          try go_simp
          refine hKK.out _ _ (⟨KDrcao.cells.1, KDrcao.cells.2.1⟩) (fun hHeld => ?_)
          clear hKK KK
          try simp only [Act.put, List.setIfInBounds_toArray, List.set_cons_zero, List.set_cons_succ]
          refine anyS_take (i := 13) (oi := { dst := some 19, op := Go.Op.build 54 #[(0, Go.Operand.tmp 16), (1, Go.Operand.tmp 18)], type := 54, pos := _, after := #[{ on := 10, ground := Go.Ground.data }, { on := 12, ground := Go.Ground.data }], guard := none }) (v := ?_) rfl (by kernel_rfl) (by kernel_rfl) (by kernel_rfl) (by kernel_rfl) (by kernel_rfl) (fun _ _ _ h => h) (Or.inl ⟨by rfl, ?_⟩) hHeld ?_
          rotate_left
          · (intro wq hSw; (try dsimp only at hSw); (try go_simp); (try with_reducible rfl))
          try simp only [Act.put, List.setIfInBounds_toArray, List.set_cons_zero, List.set_cons_succ]
          refine anyS_ready (rs := [15]) (by kernel_rfl) (by simp) ?_
          refine readyS_last (o := { dst := none, op := Go.Op.store 54 (Go.Operand.tmp 3) (Go.Operand.tmp 19), type := 0, pos := _, after := #[{ on := 14, ground := Go.Ground.data }, { on := 13, ground := Go.Ground.data }, { on := 10, ground := Go.Ground.chain }, { on := 0, ground := Go.Ground.phase }, { on := 1, ground := Go.Ground.phase }, { on := 2, ground := Go.Ground.phase }, { on := 3, ground := Go.Ground.phase }, { on := 4, ground := Go.Ground.phase }, { on := 5, ground := Go.Ground.phase }, { on := 6, ground := Go.Ground.phase }, { on := 7, ground := Go.Ground.phase }, { on := 8, ground := Go.Ground.phase }, { on := 9, ground := Go.Ground.phase }, { on := 10, ground := Go.Ground.phase }, { on := 11, ground := Go.Ground.phase }, { on := 12, ground := Go.Ground.phase }, { on := 13, ground := Go.Ground.phase }, { on := 14, ground := Go.Ground.phase }], guard := none }) rfl (by kernel_rfl) (fun KK hKK => ?_) (readyS_nil)
          go_simp
          refine hKK.out _ _ ?_
          clear hKK KK hHeld
          have hHeld := trivial
          try simp only [Act.put, List.setIfInBounds_toArray, List.set_cons_zero, List.set_cons_succ]
          refine anyS_done (by kernel_rfl) ?_ _
          refine NoPanic.normal ?_
          have hsz2 : W.heap.size < w3.heap.size + 1 := by simp at hsz; omega
          clear hHeld
          go_wp2_with fail
          go_meet
          refine ⟨w3.heap.size, rfl, CnfIn.of_blocks (gr := W.heap.size) (gt := w3.heap.size + 1) ?_ ?_ ?_ (by omega) (by omega), (by omega), ?_⟩
          · (repeat' (first | ((with_reducible refine hk_at ?_); (first | rfl | (simp; done) | (simp; omega))) | (with_reducible refine hk_below ?_ hb) | with_reducible apply hk_alloc | with_reducible apply hk_drew | with_reducible refine hk_set ?_ (by first | (simp; done) | (simp; omega)) _))
          · (repeat' (first | ((with_reducible refine hk_at ?_); (first | rfl | (simp; done) | (simp; omega))) | (with_reducible refine hk_below ?_ hb) | with_reducible apply hk_alloc | with_reducible apply hk_drew | with_reducible refine hk_set ?_ (by first | (simp; done) | (simp; omega)) _))
          · (repeat' (first | ((with_reducible refine hk_at ?_); (first | rfl | (simp; done) | (simp; omega))) | (with_reducible refine hk_below ?_ hb) | with_reducible apply hk_alloc | with_reducible apply hk_drew | with_reducible refine hk_set ?_ (by first | (simp; done) | (simp; omega)) _))
          · (repeat' (first | with_reducible exact Below.refl _ _ | with_reducible exact hb | with_reducible apply Below.drew | with_reducible apply below_step | (with_reducible refine below_two ?_ hb) | (with_reducible refine Below.setCell ?_ (by first | exact Nat.le_refl _ | (simp; done) | (simp; omega)) _)))
      · skip
        go_simp
        have KDro := KDr.alloc (.cells #[.slice (some ⟨W.heap.size, 0, none⟩) 1 1] 30)
        try go_simp
        refine hKK.out _ _ (⟨KDro.cells.1, KDro.cells.2.1⟩) (fun hHeld => ?_)
        clear hKK KK
        try simp only [Act.put, List.setIfInBounds_toArray, List.set_cons_zero, List.set_cons_succ]
        refine anyS_ready (rs := [10, 14]) (by kernel_rfl) (by simp) ?_
        refine readyS_cons (o := { dst := some 16, op := Go.Op.call { callee := Go.Callee.value (Go.Operand.func 69), args := #[Go.Operand.tmp 9, Go.Operand.tmp 15], argTypes := #[39, 3] }, type := 3, pos := _, after := #[{ on := 3, ground := Go.Ground.data }, { on := 9, ground := Go.Ground.data }], guard := none }) rfl (fun KK hKK => ?_) (readyS_cons (o := { dst := some 3, op := Go.Op.alloc 54, type := 0, pos := _, after := #[], guard := none }) rfl (fun KK hKK => ?_) (readyS_nil))
        · skip
          go_simp
          go_at_call 69
          refine (NC.out _).mono ?_
          rintro e w3 ⟨rfl, hb⟩
          have KDroc := KDro.keep hb
          have hsz := hb.size
          try go_simp
          refine hKK.out _ _ (⟨KDroc.cells.1, KDroc.cells.2.1⟩) (fun hHeld => ?_)
          clear hKK KK
          try simp only [Act.put, List.setIfInBounds_toArray, List.set_cons_zero, List.set_cons_succ]
          refine anyS_take (i := 13) (oi := { dst := some 19, op := Go.Op.build 54 #[(0, Go.Operand.tmp 16), (1, Go.Operand.tmp 18)], type := 54, pos := _, after := #[{ on := 10, ground := Go.Ground.data }, { on := 12, ground := Go.Ground.data }], guard := none }) (v := ?_) rfl (by kernel_rfl) (by kernel_rfl) (by kernel_rfl) (by kernel_rfl) (by kernel_rfl) (fun _ _ _ h => h) (Or.inl ⟨by rfl, ?_⟩) hHeld ?_
          rotate_left
          · (intro wq hSw; (try dsimp only at hSw); (try go_simp); (try with_reducible rfl))
          try simp only [Act.put, List.setIfInBounds_toArray, List.set_cons_zero, List.set_cons_succ]
          refine anyS_ready (rs := [14]) (by kernel_rfl) (by simp) ?_
          refine readyS_cons (o := { dst := some 3, op := Go.Op.alloc 54, type := 0, pos := _, after := #[], guard := none }) rfl (fun KK hKK => ?_) (readyS_nil)
          go_simp
          have KDroca := KDroc.alloc (.cells #[.int .i64 0, .slice none 0 0] 54)
          try go_simp
          refine hKK.out _ _ (⟨KDroca.cells.1, KDroca.cells.2.1⟩) (fun hHeld => ?_)
          clear hKK KK
          try simp only [Act.put, List.setIfInBounds_toArray, List.set_cons_zero, List.set_cons_succ]
          refine anyS_ready (rs := [15]) (by kernel_rfl) (by simp) ?_
          refine readyS_last (o := { dst := none, op := Go.Op.store 54 (Go.Operand.tmp 3) (Go.Operand.tmp 19), type := 0, pos := _, after := #[{ on := 14, ground := Go.Ground.data }, { on := 13, ground := Go.Ground.data }, { on := 10, ground := Go.Ground.chain }, { on := 0, ground := Go.Ground.phase }, { on := 1, ground := Go.Ground.phase }, { on := 2, ground := Go.Ground.phase }, { on := 3, ground := Go.Ground.phase }, { on := 4, ground := Go.Ground.phase }, { on := 5, ground := Go.Ground.phase }, { on := 6, ground := Go.Ground.phase }, { on := 7, ground := Go.Ground.phase }, { on := 8, ground := Go.Ground.phase }, { on := 9, ground := Go.Ground.phase }, { on := 10, ground := Go.Ground.phase }, { on := 11, ground := Go.Ground.phase }, { on := 12, ground := Go.Ground.phase }, { on := 13, ground := Go.Ground.phase }, { on := 14, ground := Go.Ground.phase }], guard := none }) rfl (by kernel_rfl) (fun KK hKK => ?_) (readyS_nil)
          go_simp
          refine hKK.out _ _ ?_
          clear hKK KK hHeld
          have hHeld := trivial
          try simp only [Act.put, List.setIfInBounds_toArray, List.set_cons_zero, List.set_cons_succ]
          refine anyS_done (by kernel_rfl) ?_ _
          refine NoPanic.normal ?_
          have hsz2 : W.heap.size < w3.heap.size + 1 := by simp at hsz; omega
          clear hHeld
          go_wp2_with fail
          go_meet
          refine ⟨w3.heap.size, rfl, CnfIn.of_blocks (gr := W.heap.size) (gt := W.heap.size + 1) ?_ ?_ ?_ (by omega) (by omega), (by omega), ?_⟩
          · (repeat' (first | ((with_reducible refine hk_at ?_); (first | rfl | (simp; done) | (simp; omega))) | (with_reducible refine hk_below ?_ hb) | with_reducible apply hk_alloc | with_reducible apply hk_drew | with_reducible refine hk_set ?_ (by first | (simp; done) | (simp; omega)) _))
          · (repeat' (first | ((with_reducible refine hk_at ?_); (first | rfl | (simp; done) | (simp; omega))) | (with_reducible refine hk_below ?_ hb) | with_reducible apply hk_alloc | with_reducible apply hk_drew | with_reducible refine hk_set ?_ (by first | (simp; done) | (simp; omega)) _))
          · (repeat' (first | ((with_reducible refine hk_at ?_); (first | rfl | (simp; done) | (simp; omega))) | (with_reducible refine hk_below ?_ hb) | with_reducible apply hk_alloc | with_reducible apply hk_drew | with_reducible refine hk_set ?_ (by first | (simp; done) | (simp; omega)) _))
          · (repeat' (first | with_reducible exact Below.refl _ _ | with_reducible exact hb | with_reducible apply Below.drew | with_reducible apply below_step | (with_reducible refine below_two ?_ hb) | (with_reducible refine Below.setCell ?_ (by first | exact Nat.le_refl _ | (simp; done) | (simp; omega)) _)))
        · skip
          go_simp
          have KDroa := KDro.alloc (.cells #[.int .i64 0, .slice none 0 0] 54)
          try go_simp
          refine hKK.out _ _ (⟨KDroa.cells.1, KDroa.cells.2.1⟩) (fun hHeld => ?_)
          clear hKK KK
          try simp only [Act.put, List.setIfInBounds_toArray, List.set_cons_zero, List.set_cons_succ]
          refine anyS_ready (rs := [10]) (by kernel_rfl) (by simp) ?_
          refine readyS_cons (o := { dst := some 16, op := Go.Op.call { callee := Go.Callee.value (Go.Operand.func 69), args := #[Go.Operand.tmp 9, Go.Operand.tmp 15], argTypes := #[39, 3] }, type := 3, pos := _, after := #[{ on := 3, ground := Go.Ground.data }, { on := 9, ground := Go.Ground.data }], guard := none }) rfl (fun KK hKK => ?_) (readyS_nil)
          go_simp
          go_at_call 69
          refine (NC.out _).mono ?_
          rintro e w3 ⟨rfl, hb⟩
          have KDroac := KDroa.keep hb
          have hsz := hb.size
          have Aa : Blk w3 (W.heap.size + 1 + 1) (.int .i64 0) (.slice none 0 0) 54 := by
            unfold Blk
            (repeat' (first | ((with_reducible refine hk_at ?_); (first | rfl | (simp; done) | (simp; omega))) | (with_reducible refine hk_below ?_ hb) | with_reducible apply hk_alloc | with_reducible apply hk_drew | with_reducible refine hk_set ?_ (by first | (simp; done) | (simp; omega)) _))
          have Al := Aa.lt
          obtain ⟨E0, E1, _⟩ := Aa.cells; obtain ⟨F0, F1⟩ := Aa.frozen
          have nA0 : ¬ W.heap.size + 1 + 1 = w3.heap.size := by omega
          have nA1 : ¬ W.heap.size + 1 + 1 = w3.heap.size + 1 := by omega
          try go_simp
          refine hKK.out _ _ (⟨KDroac.cells.1, KDroac.cells.2.1⟩) (fun hHeld => ?_)
          clear hKK KK
          try simp only [Act.put, List.setIfInBounds_toArray, List.set_cons_zero, List.set_cons_succ]
          refine anyS_take (i := 13) (oi := { dst := some 19, op := Go.Op.build 54 #[(0, Go.Operand.tmp 16), (1, Go.Operand.tmp 18)], type := 54, pos := _, after := #[{ on := 10, ground := Go.Ground.data }, { on := 12, ground := Go.Ground.data }], guard := none }) (v := ?_) rfl (by kernel_rfl) (by kernel_rfl) (by kernel_rfl) (by kernel_rfl) (by kernel_rfl) (fun _ _ _ h => h) (Or.inl ⟨by rfl, ?_⟩) hHeld ?_
          rotate_left
          · (intro wq hSw; (try dsimp only at hSw); (try go_simp); (try with_reducible rfl))
          try simp only [Act.put, List.setIfInBounds_toArray, List.set_cons_zero, List.set_cons_succ]
          refine anyS_ready (rs := [15]) (by kernel_rfl) (by simp) ?_
          refine readyS_last (o := { dst := none, op := Go.Op.store 54 (Go.Operand.tmp 3) (Go.Operand.tmp 19), type := 0, pos := _, after := #[{ on := 14, ground := Go.Ground.data }, { on := 13, ground := Go.Ground.data }, { on := 10, ground := Go.Ground.chain }, { on := 0, ground := Go.Ground.phase }, { on := 1, ground := Go.Ground.phase }, { on := 2, ground := Go.Ground.phase }, { on := 3, ground := Go.Ground.phase }, { on := 4, ground := Go.Ground.phase }, { on := 5, ground := Go.Ground.phase }, { on := 6, ground := Go.Ground.phase }, { on := 7, ground := Go.Ground.phase }, { on := 8, ground := Go.Ground.phase }, { on := 9, ground := Go.Ground.phase }, { on := 10, ground := Go.Ground.phase }, { on := 11, ground := Go.Ground.phase }, { on := 12, ground := Go.Ground.phase }, { on := 13, ground := Go.Ground.phase }, { on := 14, ground := Go.Ground.phase }], guard := none }) rfl (by kernel_rfl) (fun KK hKK => ?_) (readyS_nil)
          go_simp
          refine hKK.out _ _ ?_
          clear hKK KK hHeld
          have hHeld := trivial
          try simp only [Act.put, List.setIfInBounds_toArray, List.set_cons_zero, List.set_cons_succ]
          refine anyS_done (by kernel_rfl) ?_ _
          refine NoPanic.normal ?_
          have hsz2 : W.heap.size < w3.heap.size + 1 := by simp at hsz; omega
          clear hHeld
          go_wp2_with fail
          go_meet
          refine ⟨W.heap.size + 1 + 1, rfl, CnfIn.of_blocks (gr := W.heap.size) (gt := W.heap.size + 1) ?_ ?_ ?_ (by omega) (by omega), (by omega), ?_⟩
          · (repeat' (first | ((with_reducible refine hk_at ?_); (first | rfl | (simp; done) | (simp; omega))) | (with_reducible refine hk_below ?_ hb) | with_reducible apply hk_alloc | with_reducible apply hk_drew | with_reducible refine hk_set ?_ (by first | (simp; done) | (simp; omega)) _))
          · (repeat' (first | ((with_reducible refine hk_at ?_); (first | rfl | (simp; done) | (simp; omega))) | (with_reducible refine hk_below ?_ hb) | with_reducible apply hk_alloc | with_reducible apply hk_drew | with_reducible refine hk_set ?_ (by first | (simp; done) | (simp; omega)) _))
          · exact ((Aa.set0 _).set1 _)
          · (repeat' (first | with_reducible exact Below.refl _ _ | with_reducible exact hb | with_reducible apply Below.drew | with_reducible apply below_step | (with_reducible refine below_two ?_ hb) | (with_reducible refine Below.setCell ?_ (by first | exact Nat.le_refl _ | (simp; done) | (simp; omega)) _)))
      · skip
        go_simp
        have KDra := KDr.alloc (.cells #[.int .i64 0, .slice none 0 0] 54)
        try go_simp
        refine hKK.out _ _ (⟨KDra.cells.1, KDra.cells.2.1⟩) (fun hHeld => ?_)
        clear hKK KK
        try simp only [Act.put, List.setIfInBounds_toArray, List.set_cons_zero, List.set_cons_succ]
        refine anyS_ready (rs := [10, 12]) (by kernel_rfl) (by simp) ?_
        refine readyS_cons (o := { dst := some 16, op := Go.Op.call { callee := Go.Callee.value (Go.Operand.func 69), args := #[Go.Operand.tmp 9, Go.Operand.tmp 15], argTypes := #[39, 3] }, type := 3, pos := _, after := #[{ on := 3, ground := Go.Ground.data }, { on := 9, ground := Go.Ground.data }], guard := none }) rfl (fun KK hKK => ?_) (readyS_cons (o := { dst := some 18, op := Go.Op.buildSlice 52 1 #[(0, Go.Operand.tmp 17)], type := 52, pos := _, after := #[{ on := 11, ground := Go.Ground.data }], guard := none }) rfl (fun KK hKK => ?_) (readyS_nil))
        · skip
          go_simp
          go_at_call 69
          refine (NC.out _).mono ?_
          rintro e w3 ⟨rfl, hb⟩
          have KDrac := KDra.keep hb
          have hsz := hb.size
          have Aa : Blk w3 (W.heap.size + 1) (.int .i64 0) (.slice none 0 0) 54 := by
            unfold Blk
            (repeat' (first | ((with_reducible refine hk_at ?_); (first | rfl | (simp; done) | (simp; omega))) | (with_reducible refine hk_below ?_ hb) | with_reducible apply hk_alloc | with_reducible apply hk_drew | with_reducible refine hk_set ?_ (by first | (simp; done) | (simp; omega)) _))
          have Al := Aa.lt
          obtain ⟨E0, E1, _⟩ := Aa.cells; obtain ⟨F0, F1⟩ := Aa.frozen
          have nA0 : ¬ W.heap.size + 1 = w3.heap.size := by omega
          have nA1 : ¬ W.heap.size + 1 = w3.heap.size + 1 := by omega
          try go_simp
          refine hKK.out _ _ (⟨KDrac.cells.1, KDrac.cells.2.1⟩) (fun hHeld => ?_)
          clear hKK KK
          try simp only [Act.put, List.setIfInBounds_toArray, List.set_cons_zero, List.set_cons_succ]
          refine anyS_ready (rs := [12]) (by kernel_rfl) (by simp) ?_
          refine readyS_cons (o := { dst := some 18, op := Go.Op.buildSlice 52 1 #[(0, Go.Operand.tmp 17)], type := 52, pos := _, after := #[{ on := 11, ground := Go.Ground.data }], guard := none }) rfl (fun KK hKK => ?_) (readyS_nil)
          go_simp
          have KDraco := KDrac.alloc (.cells #[.slice (some ⟨W.heap.size, 0, none⟩) 1 1] 30)
          try go_simp
          refine hKK.out _ _ (⟨KDraco.cells.1, KDraco.cells.2.1⟩) (fun hHeld => ?_)
          clear hKK KK
          try simp only [Act.put, List.setIfInBounds_toArray, List.set_cons_zero, List.set_cons_succ]
          refine anyS_take (i := 13) (oi := { dst := some 19, op := Go.Op.build 54 #[(0, Go.Operand.tmp 16), (1, Go.Operand.tmp 18)], type := 54, pos := _, after := #[{ on := 10, ground := Go.Ground.data }, { on := 12, ground := Go.Ground.data }], guard := none }) (v := ?_) rfl (by kernel_rfl) (by kernel_rfl) (by kernel_rfl) (by kernel_rfl) (by kernel_rfl) (fun _ _ _ h => h) (Or.inl ⟨by rfl, ?_⟩) hHeld ?_
          rotate_left
          · (intro wq hSw; (try dsimp only at hSw); (try go_simp); (try with_reducible rfl))
          try simp only [Act.put, List.setIfInBounds_toArray, List.set_cons_zero, List.set_cons_succ]
          refine anyS_ready (rs := [15]) (by kernel_rfl) (by simp) ?_
          refine readyS_last (o := { dst := none, op := Go.Op.store 54 (Go.Operand.tmp 3) (Go.Operand.tmp 19), type := 0, pos := _, after := #[{ on := 14, ground := Go.Ground.data }, { on := 13, ground := Go.Ground.data }, { on := 10, ground := Go.Ground.chain }, { on := 0, ground := Go.Ground.phase }, { on := 1, ground := Go.Ground.phase }, { on := 2, ground := Go.Ground.phase }, { on := 3, ground := Go.Ground.phase }, { on := 4, ground := Go.Ground.phase }, { on := 5, ground := Go.Ground.phase }, { on := 6, ground := Go.Ground.phase }, { on := 7, ground := Go.Ground.phase }, { on := 8, ground := Go.Ground.phase }, { on := 9, ground := Go.Ground.phase }, { on := 10, ground := Go.Ground.phase }, { on := 11, ground := Go.Ground.phase }, { on := 12, ground := Go.Ground.phase }, { on := 13, ground := Go.Ground.phase }, { on := 14, ground := Go.Ground.phase }], guard := none }) rfl (by kernel_rfl) (fun KK hKK => ?_) (readyS_nil)
          go_simp
          refine hKK.out _ _ ?_
          clear hKK KK hHeld
          have hHeld := trivial
          try simp only [Act.put, List.setIfInBounds_toArray, List.set_cons_zero, List.set_cons_succ]
          refine anyS_done (by kernel_rfl) ?_ _
          refine NoPanic.normal ?_
          have hsz2 : W.heap.size < w3.heap.size + 1 := by simp at hsz; omega
          clear hHeld
          go_wp2_with fail
          go_meet
          refine ⟨W.heap.size + 1, rfl, CnfIn.of_blocks (gr := W.heap.size) (gt := w3.heap.size) ?_ ?_ ?_ (by omega) (by omega), (by omega), ?_⟩
          · (repeat' (first | ((with_reducible refine hk_at ?_); (first | rfl | (simp; done) | (simp; omega))) | (with_reducible refine hk_below ?_ hb) | with_reducible apply hk_alloc | with_reducible apply hk_drew | with_reducible refine hk_set ?_ (by first | (simp; done) | (simp; omega)) _))
          · (repeat' (first | ((with_reducible refine hk_at ?_); (first | rfl | (simp; done) | (simp; omega))) | (with_reducible refine hk_below ?_ hb) | with_reducible apply hk_alloc | with_reducible apply hk_drew | with_reducible refine hk_set ?_ (by first | (simp; done) | (simp; omega)) _))
          · exact (((Aa.set0 _).set1 _).alloc _)
          · (repeat' (first | with_reducible exact Below.refl _ _ | with_reducible exact hb | with_reducible apply Below.drew | with_reducible apply below_step | (with_reducible refine below_two ?_ hb) | (with_reducible refine Below.setCell ?_ (by first | exact Nat.le_refl _ | (simp; done) | (simp; omega)) _)))
        · skip
          go_simp
          have KDrao := KDra.alloc (.cells #[.slice (some ⟨W.heap.size, 0, none⟩) 1 1] 30)
          try go_simp
          refine hKK.out _ _ (⟨KDrao.cells.1, KDrao.cells.2.1⟩) (fun hHeld => ?_)
          clear hKK KK
          try simp only [Act.put, List.setIfInBounds_toArray, List.set_cons_zero, List.set_cons_succ]
          refine anyS_ready (rs := [10]) (by kernel_rfl) (by simp) ?_
          refine readyS_cons (o := { dst := some 16, op := Go.Op.call { callee := Go.Callee.value (Go.Operand.func 69), args := #[Go.Operand.tmp 9, Go.Operand.tmp 15], argTypes := #[39, 3] }, type := 3, pos := _, after := #[{ on := 3, ground := Go.Ground.data }, { on := 9, ground := Go.Ground.data }], guard := none }) rfl (fun KK hKK => ?_) (readyS_nil)
          go_simp
          go_at_call 69
          refine (NC.out _).mono ?_
          rintro e w3 ⟨rfl, hb⟩
          have KDraoc := KDrao.keep hb
          have hsz := hb.size
          have Aa : Blk w3 (W.heap.size + 1) (.int .i64 0) (.slice none 0 0) 54 := by
            unfold Blk
            (repeat' (first | ((with_reducible refine hk_at ?_); (first | rfl | (simp; done) | (simp; omega))) | (with_reducible refine hk_below ?_ hb) | with_reducible apply hk_alloc | with_reducible apply hk_drew | with_reducible refine hk_set ?_ (by first | (simp; done) | (simp; omega)) _))
          have Al := Aa.lt
          obtain ⟨E0, E1, _⟩ := Aa.cells; obtain ⟨F0, F1⟩ := Aa.frozen
          have nA0 : ¬ W.heap.size + 1 = w3.heap.size := by omega
          have nA1 : ¬ W.heap.size + 1 = w3.heap.size + 1 := by omega
          try go_simp
          refine hKK.out _ _ (⟨KDraoc.cells.1, KDraoc.cells.2.1⟩) (fun hHeld => ?_)
          clear hKK KK
          try simp only [Act.put, List.setIfInBounds_toArray, List.set_cons_zero, List.set_cons_succ]
          refine anyS_take (i := 13) (oi := { dst := some 19, op := Go.Op.build 54 #[(0, Go.Operand.tmp 16), (1, Go.Operand.tmp 18)], type := 54, pos := _, after := #[{ on := 10, ground := Go.Ground.data }, { on := 12, ground := Go.Ground.data }], guard := none }) (v := ?_) rfl (by kernel_rfl) (by kernel_rfl) (by kernel_rfl) (by kernel_rfl) (by kernel_rfl) (fun _ _ _ h => h) (Or.inl ⟨by rfl, ?_⟩) hHeld ?_
          rotate_left
          · (intro wq hSw; (try dsimp only at hSw); (try go_simp); (try with_reducible rfl))
          try simp only [Act.put, List.setIfInBounds_toArray, List.set_cons_zero, List.set_cons_succ]
          refine anyS_ready (rs := [15]) (by kernel_rfl) (by simp) ?_
          refine readyS_last (o := { dst := none, op := Go.Op.store 54 (Go.Operand.tmp 3) (Go.Operand.tmp 19), type := 0, pos := _, after := #[{ on := 14, ground := Go.Ground.data }, { on := 13, ground := Go.Ground.data }, { on := 10, ground := Go.Ground.chain }, { on := 0, ground := Go.Ground.phase }, { on := 1, ground := Go.Ground.phase }, { on := 2, ground := Go.Ground.phase }, { on := 3, ground := Go.Ground.phase }, { on := 4, ground := Go.Ground.phase }, { on := 5, ground := Go.Ground.phase }, { on := 6, ground := Go.Ground.phase }, { on := 7, ground := Go.Ground.phase }, { on := 8, ground := Go.Ground.phase }, { on := 9, ground := Go.Ground.phase }, { on := 10, ground := Go.Ground.phase }, { on := 11, ground := Go.Ground.phase }, { on := 12, ground := Go.Ground.phase }, { on := 13, ground := Go.Ground.phase }, { on := 14, ground := Go.Ground.phase }], guard := none }) rfl (by kernel_rfl) (fun KK hKK => ?_) (readyS_nil)
          go_simp
          refine hKK.out _ _ ?_
          clear hKK KK hHeld
          have hHeld := trivial
          try simp only [Act.put, List.setIfInBounds_toArray, List.set_cons_zero, List.set_cons_succ]
          refine anyS_done (by kernel_rfl) ?_ _
          refine NoPanic.normal ?_
          have hsz2 : W.heap.size < w3.heap.size + 1 := by simp at hsz; omega
          clear hHeld
          go_wp2_with fail
          go_meet
          refine ⟨W.heap.size + 1, rfl, CnfIn.of_blocks (gr := W.heap.size) (gt := W.heap.size + 1 + 1) ?_ ?_ ?_ (by omega) (by omega), (by omega), ?_⟩
          · (repeat' (first | ((with_reducible refine hk_at ?_); (first | rfl | (simp; done) | (simp; omega))) | (with_reducible refine hk_below ?_ hb) | with_reducible apply hk_alloc | with_reducible apply hk_drew | with_reducible refine hk_set ?_ (by first | (simp; done) | (simp; omega)) _))
          · (repeat' (first | ((with_reducible refine hk_at ?_); (first | rfl | (simp; done) | (simp; omega))) | (with_reducible refine hk_below ?_ hb) | with_reducible apply hk_alloc | with_reducible apply hk_drew | with_reducible refine hk_set ?_ (by first | (simp; done) | (simp; omega)) _))
          · exact ((Aa.set0 _).set1 _)
          · (repeat' (first | with_reducible exact Below.refl _ _ | with_reducible exact hb | with_reducible apply Below.drew | with_reducible apply below_step | (with_reducible refine below_two ?_ hb) | (with_reducible refine Below.setCell ?_ (by first | exact Nat.le_refl _ | (simp; done) | (simp; omega)) _)))
    · skip
      go_simp
      have KDa := KD.alloc (.cells #[.int .i64 0, .slice none 0 0] 54)
      try go_simp
      refine hKK.out _ _ (⟨KDa.cells.1, KDa.cells.2.1⟩) (fun hHeld => ?_)
      clear hKK KK
      try simp only [Act.put, List.setIfInBounds_toArray, List.set_cons_zero, List.set_cons_succ]
      refine anyS_ready (rs := [10, 11]) (by kernel_rfl) (by simp) ?_
      refine readyS_cons (o := { dst := some 16, op := Go.Op.call { callee := Go.Callee.value (Go.Operand.func 69), args := #[Go.Operand.tmp 9, Go.Operand.tmp 15], argTypes := #[39, 3] }, type := 3, pos := _, after := #[{ on := 3, ground := Go.Ground.data }, { on := 9, ground := Go.Ground.data }], guard := none }) rfl (fun KK hKK => ?_) (readyS_cons (o := { dst := some 17, op := Go.Op.buildSlice 30 1 #[(0, Go.Operand.const (Go.Value.int Go.IntKind.i64 1))], type := 30, pos := _, after := #[], guard := none }) rfl (fun KK hKK => ?_) (readyS_nil))
      · skip
        go_simp
        go_at_call 69
        refine (NC.out _).mono ?_
        rintro e w3 ⟨rfl, hb⟩
        have KDac := KDa.keep hb
        have hsz := hb.size
        have Aa : Blk w3 (W.heap.size) (.int .i64 0) (.slice none 0 0) 54 := by
          unfold Blk
          (repeat' (first | ((with_reducible refine hk_at ?_); (first | rfl | (simp; done) | (simp; omega))) | (with_reducible refine hk_below ?_ hb) | with_reducible apply hk_alloc | with_reducible apply hk_drew | with_reducible refine hk_set ?_ (by first | (simp; done) | (simp; omega)) _))
        have Al := Aa.lt
        obtain ⟨E0, E1, _⟩ := Aa.cells; obtain ⟨F0, F1⟩ := Aa.frozen
        have nA0 : ¬ W.heap.size = w3.heap.size := by omega
        have nA1 : ¬ W.heap.size = w3.heap.size + 1 := by omega
        try go_simp
        refine hKK.out _ _ (⟨KDac.cells.1, KDac.cells.2.1⟩) (fun hHeld => ?_)
        clear hKK KK
        try simp only [Act.put, List.setIfInBounds_toArray, List.set_cons_zero, List.set_cons_succ]
        refine anyS_ready (rs := [11]) (by kernel_rfl) (by simp) ?_
        refine readyS_cons (o := { dst := some 17, op := Go.Op.buildSlice 30 1 #[(0, Go.Operand.const (Go.Value.int Go.IntKind.i64 1))], type := 30, pos := _, after := #[], guard := none }) rfl (fun KK hKK => ?_) (readyS_nil)
        go_simp
        have KDacr := KDac.alloc (.cells #[.int .i64 1] 3)
        try go_simp
        refine hKK.out _ _ (⟨KDacr.cells.1, KDacr.cells.2.1⟩) (fun hHeld => ?_)
        clear hKK KK
        try simp only [Act.put, List.setIfInBounds_toArray, List.set_cons_zero, List.set_cons_succ]
        refine anyS_ready (rs := [12]) (by kernel_rfl) (by simp) ?_
        refine readyS_cons (o := { dst := some 18, op := Go.Op.buildSlice 52 1 #[(0, Go.Operand.tmp 17)], type := 52, pos := _, after := #[{ on := 11, ground := Go.Ground.data }], guard := none }) rfl (fun KK hKK => ?_) (readyS_nil)
        go_simp
        have KDacro := KDacr.alloc (.cells #[.slice (some ⟨w3.heap.size, 0, none⟩) 1 1] 30)
        try go_simp
        refine hKK.out _ _ (⟨KDacro.cells.1, KDacro.cells.2.1⟩) (fun hHeld => ?_)
        clear hKK KK
        try simp only [Act.put, List.setIfInBounds_toArray, List.set_cons_zero, List.set_cons_succ]
        refine anyS_take (i := 13) (oi := { dst := some 19, op := Go.Op.build 54 #[(0, Go.Operand.tmp 16), (1, Go.Operand.tmp 18)], type := 54, pos := _, after := #[{ on := 10, ground := Go.Ground.data }, { on := 12, ground := Go.Ground.data }], guard := none }) (v := ?_) rfl (by kernel_rfl) (by kernel_rfl) (by kernel_rfl) (by kernel_rfl) (by kernel_rfl) (fun _ _ _ h => h) (Or.inl ⟨by rfl, ?_⟩) hHeld ?_
        rotate_left
        · (intro wq hSw; (try dsimp only at hSw); (try go_simp); (try with_reducible rfl))
        try simp only [Act.put, List.setIfInBounds_toArray, List.set_cons_zero, List.set_cons_succ]
        refine anyS_ready (rs := [15]) (by kernel_rfl) (by simp) ?_
        refine readyS_last (o := { dst := none, op := Go.Op.store 54 (Go.Operand.tmp 3) (Go.Operand.tmp 19), type := 0, pos := _, after := #[{ on := 14, ground := Go.Ground.data }, { on := 13, ground := Go.Ground.data }, { on := 10, ground := Go.Ground.chain }, { on := 0, ground := Go.Ground.phase }, { on := 1, ground := Go.Ground.phase }, { on := 2, ground := Go.Ground.phase }, { on := 3, ground := Go.Ground.phase }, { on := 4, ground := Go.Ground.phase }, { on := 5, ground := Go.Ground.phase }, { on := 6, ground := Go.Ground.phase }, { on := 7, ground := Go.Ground.phase }, { on := 8, ground := Go.Ground.phase }, { on := 9, ground := Go.Ground.phase }, { on := 10, ground := Go.Ground.phase }, { on := 11, ground := Go.Ground.phase }, { on := 12, ground := Go.Ground.phase }, { on := 13, ground := Go.Ground.phase }, { on := 14, ground := Go.Ground.phase }], guard := none }) rfl (by kernel_rfl) (fun KK hKK => ?_) (readyS_nil)
        go_simp
        refine hKK.out _ _ ?_
        clear hKK KK hHeld
        have hHeld := trivial
        try simp only [Act.put, List.setIfInBounds_toArray, List.set_cons_zero, List.set_cons_succ]
        refine anyS_done (by kernel_rfl) ?_ _
        refine NoPanic.normal ?_
        have hsz2 : W.heap.size < w3.heap.size + 1 := by simp at hsz; omega
        clear hHeld
        go_wp2_with fail
        go_meet
        refine ⟨W.heap.size, rfl, CnfIn.of_blocks (gr := w3.heap.size) (gt := w3.heap.size + 1) ?_ ?_ ?_ (by omega) (by omega), (by omega), ?_⟩
        · (repeat' (first | ((with_reducible refine hk_at ?_); (first | rfl | (simp; done) | (simp; omega))) | (with_reducible refine hk_below ?_ hb) | with_reducible apply hk_alloc | with_reducible apply hk_drew | with_reducible refine hk_set ?_ (by first | (simp; done) | (simp; omega)) _))
        · (repeat' (first | ((with_reducible refine hk_at ?_); (first | rfl | (simp; done) | (simp; omega))) | (with_reducible refine hk_below ?_ hb) | with_reducible apply hk_alloc | with_reducible apply hk_drew | with_reducible refine hk_set ?_ (by first | (simp; done) | (simp; omega)) _))
        · exact ((((Aa.set0 _).set1 _).alloc _).alloc _)
        · (repeat' (first | with_reducible exact Below.refl _ _ | with_reducible exact hb | with_reducible apply Below.drew | with_reducible apply below_step | (with_reducible refine below_two ?_ hb) | (with_reducible refine Below.setCell ?_ (by first | exact Nat.le_refl _ | (simp; done) | (simp; omega)) _)))
      · skip
        go_simp
        have KDar := KDa.alloc (.cells #[.int .i64 1] 3)
        try go_simp
        refine hKK.out _ _ (⟨KDar.cells.1, KDar.cells.2.1⟩) (fun hHeld => ?_)
        clear hKK KK
        try simp only [Act.put, List.setIfInBounds_toArray, List.set_cons_zero, List.set_cons_succ]
        refine anyS_ready (rs := [10, 12]) (by kernel_rfl) (by simp) ?_
        refine readyS_cons (o := { dst := some 16, op := Go.Op.call { callee := Go.Callee.value (Go.Operand.func 69), args := #[Go.Operand.tmp 9, Go.Operand.tmp 15], argTypes := #[39, 3] }, type := 3, pos := _, after := #[{ on := 3, ground := Go.Ground.data }, { on := 9, ground := Go.Ground.data }], guard := none }) rfl (fun KK hKK => ?_) (readyS_cons (o := { dst := some 18, op := Go.Op.buildSlice 52 1 #[(0, Go.Operand.tmp 17)], type := 52, pos := _, after := #[{ on := 11, ground := Go.Ground.data }], guard := none }) rfl (fun KK hKK => ?_) (readyS_nil))
        · skip
          go_simp
          go_at_call 69
          refine (NC.out _).mono ?_
          rintro e w3 ⟨rfl, hb⟩
          have KDarc := KDar.keep hb
          have hsz := hb.size
          have Aa : Blk w3 (W.heap.size) (.int .i64 0) (.slice none 0 0) 54 := by
            unfold Blk
            (repeat' (first | ((with_reducible refine hk_at ?_); (first | rfl | (simp; done) | (simp; omega))) | (with_reducible refine hk_below ?_ hb) | with_reducible apply hk_alloc | with_reducible apply hk_drew | with_reducible refine hk_set ?_ (by first | (simp; done) | (simp; omega)) _))
          have Al := Aa.lt
          obtain ⟨E0, E1, _⟩ := Aa.cells; obtain ⟨F0, F1⟩ := Aa.frozen
          have nA0 : ¬ W.heap.size = w3.heap.size := by omega
          have nA1 : ¬ W.heap.size = w3.heap.size + 1 := by omega
          try go_simp
          refine hKK.out _ _ (⟨KDarc.cells.1, KDarc.cells.2.1⟩) (fun hHeld => ?_)
          clear hKK KK
          try simp only [Act.put, List.setIfInBounds_toArray, List.set_cons_zero, List.set_cons_succ]
          refine anyS_ready (rs := [12]) (by kernel_rfl) (by simp) ?_
          refine readyS_cons (o := { dst := some 18, op := Go.Op.buildSlice 52 1 #[(0, Go.Operand.tmp 17)], type := 52, pos := _, after := #[{ on := 11, ground := Go.Ground.data }], guard := none }) rfl (fun KK hKK => ?_) (readyS_nil)
          go_simp
          have KDarco := KDarc.alloc (.cells #[.slice (some ⟨W.heap.size + 1, 0, none⟩) 1 1] 30)
          try go_simp
          refine hKK.out _ _ (⟨KDarco.cells.1, KDarco.cells.2.1⟩) (fun hHeld => ?_)
          clear hKK KK
          try simp only [Act.put, List.setIfInBounds_toArray, List.set_cons_zero, List.set_cons_succ]
          refine anyS_take (i := 13) (oi := { dst := some 19, op := Go.Op.build 54 #[(0, Go.Operand.tmp 16), (1, Go.Operand.tmp 18)], type := 54, pos := _, after := #[{ on := 10, ground := Go.Ground.data }, { on := 12, ground := Go.Ground.data }], guard := none }) (v := ?_) rfl (by kernel_rfl) (by kernel_rfl) (by kernel_rfl) (by kernel_rfl) (by kernel_rfl) (fun _ _ _ h => h) (Or.inl ⟨by rfl, ?_⟩) hHeld ?_
          rotate_left
          · (intro wq hSw; (try dsimp only at hSw); (try go_simp); (try with_reducible rfl))
          try simp only [Act.put, List.setIfInBounds_toArray, List.set_cons_zero, List.set_cons_succ]
          refine anyS_ready (rs := [15]) (by kernel_rfl) (by simp) ?_
          refine readyS_last (o := { dst := none, op := Go.Op.store 54 (Go.Operand.tmp 3) (Go.Operand.tmp 19), type := 0, pos := _, after := #[{ on := 14, ground := Go.Ground.data }, { on := 13, ground := Go.Ground.data }, { on := 10, ground := Go.Ground.chain }, { on := 0, ground := Go.Ground.phase }, { on := 1, ground := Go.Ground.phase }, { on := 2, ground := Go.Ground.phase }, { on := 3, ground := Go.Ground.phase }, { on := 4, ground := Go.Ground.phase }, { on := 5, ground := Go.Ground.phase }, { on := 6, ground := Go.Ground.phase }, { on := 7, ground := Go.Ground.phase }, { on := 8, ground := Go.Ground.phase }, { on := 9, ground := Go.Ground.phase }, { on := 10, ground := Go.Ground.phase }, { on := 11, ground := Go.Ground.phase }, { on := 12, ground := Go.Ground.phase }, { on := 13, ground := Go.Ground.phase }, { on := 14, ground := Go.Ground.phase }], guard := none }) rfl (by kernel_rfl) (fun KK hKK => ?_) (readyS_nil)
          go_simp
          refine hKK.out _ _ ?_
          clear hKK KK hHeld
          have hHeld := trivial
          try simp only [Act.put, List.setIfInBounds_toArray, List.set_cons_zero, List.set_cons_succ]
          refine anyS_done (by kernel_rfl) ?_ _
          refine NoPanic.normal ?_
          have hsz2 : W.heap.size < w3.heap.size + 1 := by simp at hsz; omega
          clear hHeld
          go_wp2_with fail
          go_meet
          refine ⟨W.heap.size, rfl, CnfIn.of_blocks (gr := W.heap.size + 1) (gt := w3.heap.size) ?_ ?_ ?_ (by omega) (by omega), (by omega), ?_⟩
          · (repeat' (first | ((with_reducible refine hk_at ?_); (first | rfl | (simp; done) | (simp; omega))) | (with_reducible refine hk_below ?_ hb) | with_reducible apply hk_alloc | with_reducible apply hk_drew | with_reducible refine hk_set ?_ (by first | (simp; done) | (simp; omega)) _))
          · (repeat' (first | ((with_reducible refine hk_at ?_); (first | rfl | (simp; done) | (simp; omega))) | (with_reducible refine hk_below ?_ hb) | with_reducible apply hk_alloc | with_reducible apply hk_drew | with_reducible refine hk_set ?_ (by first | (simp; done) | (simp; omega)) _))
          · exact (((Aa.set0 _).set1 _).alloc _)
          · (repeat' (first | with_reducible exact Below.refl _ _ | with_reducible exact hb | with_reducible apply Below.drew | with_reducible apply below_step | (with_reducible refine below_two ?_ hb) | (with_reducible refine Below.setCell ?_ (by first | exact Nat.le_refl _ | (simp; done) | (simp; omega)) _)))
        · skip
          go_simp
          have KDaro := KDar.alloc (.cells #[.slice (some ⟨W.heap.size + 1, 0, none⟩) 1 1] 30)
          try go_simp
          refine hKK.out _ _ (⟨KDaro.cells.1, KDaro.cells.2.1⟩) (fun hHeld => ?_)
          clear hKK KK
          try simp only [Act.put, List.setIfInBounds_toArray, List.set_cons_zero, List.set_cons_succ]
          refine anyS_ready (rs := [10]) (by kernel_rfl) (by simp) ?_
          refine readyS_cons (o := { dst := some 16, op := Go.Op.call { callee := Go.Callee.value (Go.Operand.func 69), args := #[Go.Operand.tmp 9, Go.Operand.tmp 15], argTypes := #[39, 3] }, type := 3, pos := _, after := #[{ on := 3, ground := Go.Ground.data }, { on := 9, ground := Go.Ground.data }], guard := none }) rfl (fun KK hKK => ?_) (readyS_nil)
          go_simp
          go_at_call 69
          refine (NC.out _).mono ?_
          rintro e w3 ⟨rfl, hb⟩
          have KDaroc := KDaro.keep hb
          have hsz := hb.size
          have Aa : Blk w3 (W.heap.size) (.int .i64 0) (.slice none 0 0) 54 := by
            unfold Blk
            (repeat' (first | ((with_reducible refine hk_at ?_); (first | rfl | (simp; done) | (simp; omega))) | (with_reducible refine hk_below ?_ hb) | with_reducible apply hk_alloc | with_reducible apply hk_drew | with_reducible refine hk_set ?_ (by first | (simp; done) | (simp; omega)) _))
          have Al := Aa.lt
          obtain ⟨E0, E1, _⟩ := Aa.cells; obtain ⟨F0, F1⟩ := Aa.frozen
          have nA0 : ¬ W.heap.size = w3.heap.size := by omega
          have nA1 : ¬ W.heap.size = w3.heap.size + 1 := by omega
          try go_simp
          refine hKK.out _ _ (⟨KDaroc.cells.1, KDaroc.cells.2.1⟩) (fun hHeld => ?_)
          clear hKK KK
          try simp only [Act.put, List.setIfInBounds_toArray, List.set_cons_zero, List.set_cons_succ]
          refine anyS_take (i := 13) (oi := { dst := some 19, op := Go.Op.build 54 #[(0, Go.Operand.tmp 16), (1, Go.Operand.tmp 18)], type := 54, pos := _, after := #[{ on := 10, ground := Go.Ground.data }, { on := 12, ground := Go.Ground.data }], guard := none }) (v := ?_) rfl (by kernel_rfl) (by kernel_rfl) (by kernel_rfl) (by kernel_rfl) (by kernel_rfl) (fun _ _ _ h => h) (Or.inl ⟨by rfl, ?_⟩) hHeld ?_
          rotate_left
          · (intro wq hSw; (try dsimp only at hSw); (try go_simp); (try with_reducible rfl))
          try simp only [Act.put, List.setIfInBounds_toArray, List.set_cons_zero, List.set_cons_succ]
          refine anyS_ready (rs := [15]) (by kernel_rfl) (by simp) ?_
          refine readyS_last (o := { dst := none, op := Go.Op.store 54 (Go.Operand.tmp 3) (Go.Operand.tmp 19), type := 0, pos := _, after := #[{ on := 14, ground := Go.Ground.data }, { on := 13, ground := Go.Ground.data }, { on := 10, ground := Go.Ground.chain }, { on := 0, ground := Go.Ground.phase }, { on := 1, ground := Go.Ground.phase }, { on := 2, ground := Go.Ground.phase }, { on := 3, ground := Go.Ground.phase }, { on := 4, ground := Go.Ground.phase }, { on := 5, ground := Go.Ground.phase }, { on := 6, ground := Go.Ground.phase }, { on := 7, ground := Go.Ground.phase }, { on := 8, ground := Go.Ground.phase }, { on := 9, ground := Go.Ground.phase }, { on := 10, ground := Go.Ground.phase }, { on := 11, ground := Go.Ground.phase }, { on := 12, ground := Go.Ground.phase }, { on := 13, ground := Go.Ground.phase }, { on := 14, ground := Go.Ground.phase }], guard := none }) rfl (by kernel_rfl) (fun KK hKK => ?_) (readyS_nil)
          go_simp
          refine hKK.out _ _ ?_
          clear hKK KK hHeld
          have hHeld := trivial
          try simp only [Act.put, List.setIfInBounds_toArray, List.set_cons_zero, List.set_cons_succ]
          refine anyS_done (by kernel_rfl) ?_ _
          refine NoPanic.normal ?_
          have hsz2 : W.heap.size < w3.heap.size + 1 := by simp at hsz; omega
          clear hHeld
          go_wp2_with fail
          go_meet
          refine ⟨W.heap.size, rfl, CnfIn.of_blocks (gr := W.heap.size + 1) (gt := W.heap.size + 1 + 1) ?_ ?_ ?_ (by omega) (by omega), (by omega), ?_⟩
          · (repeat' (first | ((with_reducible refine hk_at ?_); (first | rfl | (simp; done) | (simp; omega))) | (with_reducible refine hk_below ?_ hb) | with_reducible apply hk_alloc | with_reducible apply hk_drew | with_reducible refine hk_set ?_ (by first | (simp; done) | (simp; omega)) _))
          · (repeat' (first | ((with_reducible refine hk_at ?_); (first | rfl | (simp; done) | (simp; omega))) | (with_reducible refine hk_below ?_ hb) | with_reducible apply hk_alloc | with_reducible apply hk_drew | with_reducible refine hk_set ?_ (by first | (simp; done) | (simp; omega)) _))
          · exact ((Aa.set0 _).set1 _)
          · (repeat' (first | with_reducible exact Below.refl _ _ | with_reducible exact hb | with_reducible apply Below.drew | with_reducible apply below_step | (with_reducible refine below_two ?_ hb) | (with_reducible refine Below.setCell ?_ (by first | exact Nat.le_refl _ | (simp; done) | (simp; omega)) _)))
  case rest =>
    obtain ⟨go, rfl, HC, hgo, B⟩ := hcut
    have HCC := Lib.hid HC
    have KCr := KC.keep B
    have hr := h.below B
    have hsW := B.size
    clear HW HC
    obtain ⟨K0, K1, K2, K3⟩ := KCr.cells
    go_wp2_with fail
    clear K0 K1 K2 K3
    go_loopw [26] (fun i wr => ∃ k : Nat, i = .int .i64 k ∧ k ≤ gs.length ∧ Hid (CnfIn wr W.heap.size go mc (cnfTo m gs k)) ∧ Below W.heap.size W wr) (fun i _ => gs.length - (intOf i).toNat)
    case atStart => exact ⟨0, rfl, Nat.zero_le _, HCC, by first | exact B | exact below_drewN B _⟩
    case round =>
      clear HCC B KCr hr hsW
      obtain ⟨k, rfl, hk, HC, B⟩ := hrel
      by_cases hlt : k < gs.length
      · obtain ⟨bb, off, rfl, hbl, c4, c5, c6⟩ := RowS.three (Gates.row (h.below B)) hlt
        obtain ⟨⟨d1, d2⟩, d3, d4⟩ := hbd.out k hlt
        have CS : Hid (cnfTo m gs (k + 1) = cnfTo m gs k ++ clau (gs.getD k gz) (1 + m + (k : Int) + 1)) := by
          show _ = _
          rw [show 1 + m + (k : Int) + 1 = 2 + m + k by omega]
          rfl
        obtain ⟨y, hy⟩ : ∃ y, y = gs.getD k gz := ⟨_, rfl⟩
        rw [← hy] at c4 c5 c6 d1 d2 d3 d4 CS
        clear hy
        obtain ⟨x0, x1, x2⟩ := y
        dsimp only at c4 c5 c6 d1 d2 d3 d4
        have hll := cnfTo_len m gs k
        generalize cnfTo m gs k = L at *
        obtain ⟨g, cp, fs, hB, hO, hF⟩ := HC.out
        have hk1 : (k : Int) < (gs.length : Int) := by omega
        have hk2 : (0 : Int) ≤ (k : Int) := by omega
        have hll2 : L.length ≤ 2500 := by omega
        have hwk : IntKind.i64.wrap (1 + m + (k : Int) + 1) = 1 + m + (k : Int) + 1 := IntWalk.i64_in _ (by omega)
        obtain ⟨V, hV⟩ : ∃ V, V = wr.alloc (.cells #[.bool x0, .int .i64 x1, .int .i64 x2] 47) := ⟨_, rfl⟩
        have BV : Below wr.heap.size wr V := by rw [hV]; exact below_self_alloc _ _
        have E : Blk3 V wr.heap.size (.bool x0) (.int .i64 x1) (.int .i64 x2) 47 := by rw [hV]; exact blk3_new _ _ _ _ _
        have HV := Lib.hid hV
        have hgw := hO.top.lt g rfl
        have hwr := B.size
        have KV := (KC.keep B).keep BV
        replace hB := hB.keep BV
        replace hO := hO.below BV
        have BB := below_two B BV
        have FB := Lib.hid B
        have HF := Lib.hid hF
        have HOd := Lib.hid (OwnSS.drew hO)
        clear hll HC hV BV B hF hO
        go_upto_region 5 with (rw [← HV.out])
        have HBd := hB.drew
        have Ed := E.drew
        have KVd := KV.drew
        have BBd := BB.drew
        clear hB E KV BB HV c4 c5 c6 hbl
        refine wp_region_noPanic ?_
        refine wp_regionS 13 (fun wx : World => wx.cell? ⟨go, 1, none⟩ = some (.slice (some ⟨g, 0, none⟩) L.length cp) ∧ wx.cell? ⟨wr.heap.size, 0, none⟩ = some (.bool x0) ∧ wx.cell? ⟨wr.heap.size, 1, none⟩ = some (.int .i64 x1) ∧ wx.cell? ⟨wr.heap.size, 2, none⟩ = some (.int .i64 x2) ∧ wx.cell? ⟨gc, 0, none⟩ = some (.int .i64 m) ∧ wx.cell? ⟨gc, 1, none⟩ = some (.slice (some ⟨bb, off, none⟩) gs.length cap)) (by kernel_rfl) (⟨HBd.cells.2.1, Ed.cells.1, Ed.cells.2.1, Ed.cells.2.2.1, KVd.cells.1, KVd.cells.2.1⟩) (fun hHeld => ?_)
        refine anyS_take (i := 0) (oi := { dst := some 31, op := Go.Op.fieldAddr 54 (Go.Operand.tmp 3) 1, type := 0, pos := _, after := #[], guard := none }) (v := ?_) rfl (by kernel_rfl) (by kernel_rfl) (by kernel_rfl) (by kernel_rfl) (by kernel_rfl) (fun _ _ _ h => h) (Or.inl ⟨by rfl, ?_⟩) hHeld ?_
        rotate_left
        · (intro wq hSw; (try dsimp only at hSw); (try go_simp); (try with_reducible rfl))
        try simp only [Act.put, List.setIfInBounds_toArray, List.set_cons_zero, List.set_cons_succ]
        refine anyS_take (i := 1) (oi := { dst := some 32, op := Go.Op.load 52 (Go.Operand.tmp 31), type := 52, pos := _, after := #[{ on := 0, ground := Go.Ground.data }], guard := none }) (v := ?_) rfl (by kernel_rfl) (by kernel_rfl) (by kernel_rfl) (by kernel_rfl) (by kernel_rfl) (fun _ _ _ h => h) (Or.inl ⟨by rfl, ?_⟩) hHeld ?_
        rotate_left
        · (intro wq hSw; (try dsimp only at hSw); (try go_simp); (try with_reducible rfl))
        try simp only [Act.put, List.setIfInBounds_toArray, List.set_cons_zero, List.set_cons_succ]
        refine anyS_take (i := 2) (oi := { dst := some 33, op := Go.Op.load 47 (Go.Operand.tmp 5), type := 47, pos := _, after := #[], guard := none }) (v := ?_) rfl (by kernel_rfl) (by kernel_rfl) (by kernel_rfl) (by kernel_rfl) (by kernel_rfl) (fun _ _ _ h => h) (Or.inl ⟨by rfl, ?_⟩) hHeld ?_
        rotate_left
        · (intro wq hSw; (try dsimp only at hSw); (try go_simp); (try with_reducible rfl))
        try simp only [Act.put, List.setIfInBounds_toArray, List.set_cons_zero, List.set_cons_succ]
        refine anyS_take (i := 3) (oi := { dst := some 34, op := Go.Op.move (Go.Operand.tmp 0), type := 75, pos := _, after := #[], guard := none }) (v := ?_) rfl (by kernel_rfl) (by kernel_rfl) (by kernel_rfl) (by kernel_rfl) (by kernel_rfl) (fun _ _ _ h => h) (Or.inl ⟨by rfl, ?_⟩) hHeld ?_
        rotate_left
        · (intro wq hSw; (try dsimp only at hSw); (try go_simp); (try with_reducible rfl))
        try simp only [Act.put, List.setIfInBounds_toArray, List.set_cons_zero, List.set_cons_succ]
        refine anyS_take (i := 4) (oi := { dst := some 35, op := Go.Op.nilCheck (Go.Operand.tmp 34), type := 0, pos := _, after := #[{ on := 3, ground := Go.Ground.data }], guard := none }) (v := ?_) rfl (by kernel_rfl) (by kernel_rfl) (by kernel_rfl) (by kernel_rfl) (by kernel_rfl) (fun _ _ _ h => h) (Or.inl ⟨by rfl, ?_⟩) hHeld ?_
        rotate_left
        · (intro wq hSw; (try dsimp only at hSw); (try go_simp); (try with_reducible rfl))
        try simp only [Act.put, List.setIfInBounds_toArray, List.set_cons_zero, List.set_cons_succ]
        refine anyS_take (i := 5) (oi := { dst := some 36, op := Go.Op.fieldAddr 94 (Go.Operand.tmp 35) 0, type := 0, pos := _, after := #[{ on := 4, ground := Go.Ground.data }], guard := none }) (v := ?_) rfl (by kernel_rfl) (by kernel_rfl) (by kernel_rfl) (by kernel_rfl) (by kernel_rfl) (fun _ _ _ h => h) (Or.inl ⟨by rfl, ?_⟩) hHeld ?_
        rotate_left
        · (intro wq hSw; (try dsimp only at hSw); (try go_simp); (try with_reducible rfl))
        try simp only [Act.put, List.setIfInBounds_toArray, List.set_cons_zero, List.set_cons_succ]
        refine anyS_take (i := 6) (oi := { dst := some 37, op := Go.Op.load 39 (Go.Operand.tmp 36), type := 39, pos := _, after := #[{ on := 5, ground := Go.Ground.data }], guard := none }) (v := ?_) rfl (by kernel_rfl) (by kernel_rfl) (by kernel_rfl) (by kernel_rfl) (by kernel_rfl) (fun _ _ _ h => h) (Or.inl ⟨by rfl, ?_⟩) hHeld ?_
        rotate_left
        · (intro wq hSw; (try dsimp only at hSw); (try go_simp); (try with_reducible rfl))
        try simp only [Act.put, List.setIfInBounds_toArray, List.set_cons_zero, List.set_cons_succ]
        refine anyS_take (i := 7) (oi := { dst := some 38, op := Go.Op.move (Go.Operand.tmp 4), type := 3, pos := _, after := #[], guard := none }) (v := ?_) rfl (by kernel_rfl) (by kernel_rfl) (by kernel_rfl) (by kernel_rfl) (by kernel_rfl) (fun _ _ _ h => h) (Or.inl ⟨by rfl, ?_⟩) hHeld ?_
        rotate_left
        · (intro wq hSw; (try dsimp only at hSw); (try go_simp); (try with_reducible rfl))
        try simp only [Act.put, List.setIfInBounds_toArray, List.set_cons_zero, List.set_cons_succ]
        refine anyS_ready (rs := [8]) (by kernel_rfl) (by simp) ?_
        refine readyS_cons (o := { dst := some 39, op := Go.Op.call { callee := Go.Callee.value (Go.Operand.func 69), args := #[Go.Operand.tmp 37, Go.Operand.tmp 38], argTypes := #[39, 3] }, type := 3, pos := _, after := #[{ on := 6, ground := Go.Ground.data }, { on := 7, ground := Go.Ground.data }], guard := none }) rfl (fun KK hKK => ?_) (readyS_nil)
        go_simp
        go_at_call 69
        refine (nodes_any m _ k _ m0 (by omega) (by omega) (by omega)).mono ?_
        rintro e w3 ⟨rfl, hb3⟩
        have HB3 := HBd.keep hb3; have E3 := Ed.keep hb3; have KV3 := KVd.keep hb3; have HO3 := Lib.hid (HOd.out.below hb3); have BB3 := below_two BBd hb3
        have hsz3 := BB3.size
        clear HBd Ed KVd HOd BBd hb3
        try go_simp
        refine hKK.out _ _ (⟨HB3.cells.2.1, E3.cells.1, E3.cells.2.1, E3.cells.2.2.1, KV3.cells.1, KV3.cells.2.1⟩) (fun hHeld => ?_)
        clear hKK KK
        try simp only [Act.put, List.setIfInBounds_toArray, List.set_cons_zero, List.set_cons_succ]
        refine anyS_take (i := 9) (oi := { dst := some 40, op := Go.Op.binOp Go.BinOp.add 3 (Go.Operand.tmp 39) (Go.Operand.const (Go.Value.int Go.IntKind.i64 1)) 3, type := 3, pos := _, after := #[{ on := 8, ground := Go.Ground.data }], guard := none }) (v := ?_) rfl (by kernel_rfl) (by kernel_rfl) (by kernel_rfl) (by kernel_rfl) (by kernel_rfl) (fun _ _ _ h => h) (Or.inl ⟨by rfl, ?_⟩) hHeld ?_
        rotate_left
        · (intro wq hSw; (try dsimp only at hSw); (try go_simp); (try with_reducible rfl))
        try simp only [Act.put, List.setIfInBounds_toArray, List.set_cons_zero, List.set_cons_succ]
        refine anyS_ready (rs := [10]) (by kernel_rfl) (by simp) ?_
        refine readyS_cons (o := { dst := some 41, op := Go.Op.call { callee := Go.Callee.value (Go.Operand.func 75), args := #[Go.Operand.tmp 33, Go.Operand.tmp 40], argTypes := #[47, 3] }, type := 52, pos := _, after := #[{ on := 2, ground := Go.Ground.data }, { on := 9, ground := Go.Ground.data }, { on := 8, ground := Go.Ground.chain }], guard := none }) rfl (fun KK hKK => ?_) (readyS_nil)
        go_simp
        go_at_call 75
        try rw [hwk]
        refine (clauses_any x0 x1 x2 _ _ d1 d2 d3 d4 (by omega) (by omega)).mono ?_
        rintro e w4 ⟨q4, n4, ns, rfl, hcl, hn0, hn4, hN, hnew, hone, hb4⟩
        have HB4 := HB3.keep hb4; have E4 := E3.keep hb4; have KV4 := KV3.keep hb4; have BB4 := below_two BB3 hb4
        have own4 := own_keep HO3.out.top hb4
        have hnl : ns.length = n4 * 1 := by rw [hN.len, hcl, Nat.mul_one]
        have hsz4 := BB4.size
        have HHN := Lib.hid hN; have HCL := Lib.hid hcl
        clear hN hcl
        try go_simp
        refine hKK.out _ _ (⟨HB4.cells.2.1, E4.cells.1, E4.cells.2.1, E4.cells.2.2.1, KV4.cells.1, KV4.cells.2.1⟩) (fun hHeld => ?_)
        clear hKK KK
        try simp only [Act.put, List.setIfInBounds_toArray, List.set_cons_zero, List.set_cons_succ]
        refine anyS_ready (rs := [11]) (by kernel_rfl) (by simp) ?_
        refine readyS_cons (o := { dst := some 42, op := Go.Op.call { callee := Go.Callee.builtin Go.Builtin.append, args := #[Go.Operand.tmp 32, Go.Operand.tmp 41], argTypes := #[52, 52] }, type := 52, pos := _, after := #[{ on := 1, ground := Go.Ground.data }, { on := 10, ground := Go.Ground.data }, { on := 10, ground := Go.Ground.chain }], guard := none }) rfl (fun KK hKK => ?_) (readyS_nil)
        refine step_append_lies _ rfl (.tmp 32) (.tmp 41) _ rfl W.heap.size 30 i0 (.slice none 0 0) 1 24 Try.underlying52 hi hz0 hz1 hz2 rfl (by decide) (.slice (some ⟨g, 0, none⟩) L.length cp) L.length fs (by rfl) own4 ⟨q4, 0, none⟩ n4 n4 ns (by rfl) hnl hnew hone hn0 (by unfold maxLen; omega) (by omega) (by omega) _ rfl ?_
        intro g6 cap6 w6 own6 hg6 hat6 hlt6
        obtain ⟨HB6, hC6⟩ := CnfIn.step HB3 HO3.out HF.out hb4 HHN.out HCL.out hsz3 own6 hg6 hat6
        have HC6 := Lib.hid hC6
        have E6 := blk3_row E4 hg6 (fun e => by have e2 : g = wr.heap.size := (by cases e; rfl); omega)
        have KV6 := blk3_row KV4 hg6 (fun e => by have e2 : g = gc := (by cases e; rfl); omega)
        have B6 : Below W.heap.size W w6 := BB4.grown hg6 BB4.size (fun q hq => (own4.lt q hq).1)
        have B7 := Lib.hid (B6.setCell (p := ⟨go, 1, none⟩) hgo (.slice (some ⟨g6, 0, none⟩) (L.length + n4) cap6))
        obtain ⟨r0, r1, r2⟩ := HB6.cells
        obtain ⟨s0, s1⟩ := HB6.frozen
        clear hC6 own6 hg6 hat6 own4 hnew HB3 HO3 hb4 HHN HB4 E4 KV4 BB4 E3 KV3 BB3 B6 hone hnl HCL
        try go_simp
        refine hKK.out _ _ (⟨HB6.cells.2.1, E6.cells.1, E6.cells.2.1, E6.cells.2.2.1, KV6.cells.1, KV6.cells.2.1⟩) (fun hHeld => ?_)
        clear hKK KK
        try simp only [Act.put, List.setIfInBounds_toArray, List.set_cons_zero, List.set_cons_succ]
        refine anyS_take (i := 12) (oi := { dst := some 43, op := Go.Op.fieldAddr 54 (Go.Operand.tmp 3) 1, type := 0, pos := _, after := #[{ on := 0, ground := Go.Ground.phase }, { on := 1, ground := Go.Ground.phase }, { on := 2, ground := Go.Ground.phase }, { on := 3, ground := Go.Ground.phase }, { on := 4, ground := Go.Ground.phase }, { on := 5, ground := Go.Ground.phase }, { on := 6, ground := Go.Ground.phase }, { on := 7, ground := Go.Ground.phase }, { on := 8, ground := Go.Ground.phase }, { on := 9, ground := Go.Ground.phase }, { on := 10, ground := Go.Ground.phase }, { on := 11, ground := Go.Ground.phase }], guard := none }) (v := ?_) rfl (by kernel_rfl) (by kernel_rfl) (by kernel_rfl) (by kernel_rfl) (by kernel_rfl) (fun _ _ _ h => h) (Or.inl ⟨by rfl, ?_⟩) hHeld ?_
        rotate_left
        · (intro wq hSw; (try dsimp only at hSw); (try go_simp); (try with_reducible rfl))
        try simp only [Act.put, List.setIfInBounds_toArray, List.set_cons_zero, List.set_cons_succ]
        refine anyS_ready (rs := [13]) (by kernel_rfl) (by simp) ?_
        refine readyS_last (o := { dst := none, op := Go.Op.store 52 (Go.Operand.tmp 43) (Go.Operand.tmp 42), type := 0, pos := _, after := #[{ on := 12, ground := Go.Ground.data }, { on := 11, ground := Go.Ground.data }, { on := 11, ground := Go.Ground.chain }, { on := 0, ground := Go.Ground.phase }, { on := 1, ground := Go.Ground.phase }, { on := 2, ground := Go.Ground.phase }, { on := 3, ground := Go.Ground.phase }, { on := 4, ground := Go.Ground.phase }, { on := 5, ground := Go.Ground.phase }, { on := 6, ground := Go.Ground.phase }, { on := 7, ground := Go.Ground.phase }, { on := 8, ground := Go.Ground.phase }, { on := 9, ground := Go.Ground.phase }, { on := 10, ground := Go.Ground.phase }, { on := 11, ground := Go.Ground.phase }], guard := none }) rfl (by kernel_rfl) (fun KK hKK => ?_) (readyS_nil)
        go_simp
        refine hKK.out _ _ ?_
        clear hKK KK hHeld
        have hHeld := trivial
        try simp only [Act.put, List.setIfInBounds_toArray, List.set_cons_zero, List.set_cons_succ]
        refine anyS_done (by kernel_rfl) ?_ _
        refine NoPanic.normal ?_
        clear hHeld HB6 E6 KV6 r0 r1 r2 s0 s1
        go_wp2_with fail
        exact ⟨⟨k + 1, by go_num, by omega, by rw [CS.out]; exact HC6, B7.out⟩, by simp [intOf]; omega⟩
      · obtain rfl : k = gs.length := by omega
        obtain ⟨g, cp, fs, hB, hO, hF⟩ := HC.out
        obtain ⟨b0, b1, b2⟩ := hB.cells
        have Rr := Rb.keep B
        obtain ⟨r0, r1, r2⟩ := Rr.cells
        obtain ⟨s0, s1⟩ := Rr.frozen
        generalize cnfTo m gs gs.length = L at *
        have Rf := (Rr.set0 (.int .i64 mc)).set1 (.slice (some ⟨g, 0, none⟩) L.length cp)
        obtain ⟨t0, t1, t2⟩ := Rf.cells
        have hO2 := ((hO.setBelow (a := ⟨w.heap.size, 0, none⟩) hs (.int .i64 mc)).setBelow (a := ⟨w.heap.size, 1, none⟩) hs (.slice (some ⟨g, 0, none⟩) L.length cp)).le (show w.heap.size ≤ W.heap.size by omega)
        have Bf := ((below_two BW B).setCell (p := ⟨w.heap.size, 0, none⟩) (Nat.le_refl _) (.int .i64 mc)).setCell (p := ⟨w.heap.size, 1, none⟩) (Nat.le_refl _) (.slice (some ⟨g, 0, none⟩) L.length cp)
        have FIN : Hid (NewCnf mc L w (.returned (.agg #[.int .i64 mc, .slice (some ⟨g, 0, none⟩) L.length cp])) ((wr.setCell ⟨w.heap.size, 0, none⟩ (.int .i64 mc)).setCell ⟨w.heap.size, 1, none⟩ (.slice (some ⟨g, 0, none⟩) L.length cp))) := ⟨_, fs, rfl, hO2, Bf⟩
        clear HC hB hO hF hO2 Bf Rf
        go_wp2_with fail
        exact bodyPost_ret (v := .agg #[.int .i64 mc, .slice (some ⟨g, 0, none⟩) L.length cp]) (by simp [results, Try.results57, go_sem, t0, t1]) rfl FIN.out
set_option linter.unusedVariables false in
set_option maxRecDepth 100000 in
set_option maxHeartbeats 4000000 in
theorem netCnf_impl (m : Int) (v : Value) (gs : List Gt) (w : World) (h : Gates w v gs) (hv : NilOrB v) (hwf : ∀ i, i < gs.length → gtWf (gs.getD i gz)) :
    Calls Try.prog 31 #[.agg #[.int .i64 m, v]] w (NewCnf (cnfM m gs) (cnfL m gs) w) := by
  have O := Lib.hid (fun w' h' => readNet_net m v gs w' h' hv hwf)
  obtain ⟨a, cap, rfl⟩ := h.form
  have hbA := below_self_alloc w (.cells #[.int .i64 m, .slice a gs.length cap] 39)
  have A := (blk_new w (.int .i64 m) (.slice a gs.length cap) 39).alloc (.cells #[.int .i64 0, .slice none 0 0] 54)
  have R := blk_new1 w (.cells #[.int .i64 m, .slice a gs.length cap] 39) (.int .i64 0) (.slice none 0 0) 54
  have B : Below w.heap.size w ((w.alloc (.cells #[.int .i64 m, .slice a gs.length cap] 39)).alloc (.cells #[.int .i64 0, .slice none 0 0] 54)) := below_step hbA _
  replace h := h.below B
  obtain ⟨A0, A1, A2⟩ := A.cells
  obtain ⟨z, hz⟩ : ∃ z, z = netV m gs := ⟨_, rfl⟩
  rw [← hz] at O
  obtain ⟨mc, hmc⟩ : ∃ mc, mc = cnfM m gs := ⟨_, rfl⟩
  obtain ⟨L, hL⟩ : ∃ L, L = cnfL m gs := ⟨_, rfl⟩
  rw [← hmc, ← hL]
  have HZ := Lib.hid hz
  have HMC := Lib.hid hmc
  have HL := Lib.hid hL
  clear hz hmc hL hbA
  go_enter Try.func31, Try.ntmps31
  go_wp2_with fail
  refine (O.out _ h).mono ?_; rintro e w1 ⟨pc, rfl, hb, hpc⟩
  have gl1 : w.heap.size + 1 < w1.heap.size := by have := hb.size; simp at this; omega
  replace R := R.keep hb
  replace B := below_two B hb
  have HPC := Lib.hid hpc
  clear hb A0 A1 A2 O h hpc
  obtain ⟨r0, r1, r2⟩ := R.cells
  obtain ⟨s0, s1⟩ := R.frozen
  cases z
  · obtain rfl : mc = 0 := by rw [HMC.out]; unfold cnfM; rw [← HZ.out]; rfl
    obtain rfl : L = [] := by rw [HL.out]; unfold cnfL; rw [← HZ.out]; rfl
    have Rf := (R.set0 (.int .i64 0)).set1 (.slice none 0 0)
    obtain ⟨t0, t1, t2⟩ := Rf.cells
    have Bf := (B.setCell (p := ⟨w.heap.size + 1, 0, none⟩) (Nat.le_succ _) (.int .i64 0)).setCell (p := ⟨w.heap.size + 1, 1, none⟩) (Nat.le_succ _) (.slice none 0 0)
    clear HZ HMC HL HPC
    go_wp2_with fail
    exact bodyPost_ret (v := .agg #[.int .i64 0, .slice none 0 0]) (by simp [results, Try.results31, go_sem, t0, t1]) rfl ⟨_, [], rfl, OwnSS.nilrow _ _ _ _, Bf⟩
  · have hin := netV_true.1 HZ.out.symm
    have e1 : 1 + m + (gs.length : Int) = mc := by rw [HMC.out]; unfold cnfM; rw [← HZ.out]; rfl
    have e2 : cnfTo m gs gs.length = L := by rw [HL.out]; unfold cnfL; rw [← HZ.out]; rfl
    obtain ⟨gc, bm, x, rfl, KC, hx⟩ := HPC.out rfl
    have D := cnf_any m gs gc bm x _ KC hx hin
    rw [e1, e2] at D
    have DD := Lib.hid D
    clear HZ HMC HL HPC D e1 e2 hin r0 r1 r2 s0 s1 KC hx
    go_wp2_with fail
    refine DD.out.mono ?_; rintro e w2 ⟨u, fs, rfl, hO, hb⟩
    obtain ⟨ua, uc, rfl, _⟩ := Row.of_own hO.top
    replace R := R.keep hb
    replace B := below_two B hb
    clear DD hb
    obtain ⟨r0, r1, r2⟩ := R.cells
    obtain ⟨s0, s1⟩ := R.frozen
    have Rf := (R.set0 (.int .i64 mc)).set1 (.slice ua L.length uc)
    obtain ⟨t0, t1, t2⟩ := Rf.cells
    have hO2 := ((hO.setBelow (a := ⟨w.heap.size + 1, 0, none⟩) (by show w.heap.size + 1 < _; omega) (.int .i64 mc)).setBelow (a := ⟨w.heap.size + 1, 1, none⟩) (by show w.heap.size + 1 < _; omega) (.slice ua L.length uc)).le (show w.heap.size ≤ w1.heap.size by omega)
    have Bf := (B.setCell (p := ⟨w.heap.size + 1, 0, none⟩) (Nat.le_succ _) (.int .i64 mc)).setCell (p := ⟨w.heap.size + 1, 1, none⟩) (Nat.le_succ _) (.slice ua L.length uc)
    have HO2 := Lib.hid hO2
    clear hO hO2
    go_wp2_with fail
    exact bodyPost_ret (v := .agg #[.int .i64 mc, .slice ua L.length uc]) (by simp [results, Try.results31, go_sem, t0, t1]) rfl ⟨_, fs, rfl, HO2.out, Bf⟩
/-- a block that none of the rows is -/
def Far (v : Value) (ls : List (List Int)) (fs : List Value) (k : Nat) : Prop := v.ownBlock ≠ some k ∧ ∀ i, i < ls.length → (fs.getD i undef).ownBlock ≠ some k
theorem OwnSS.far_ge {w : World} {base : Nat} {tt ti : TypeId} {v : Value} {ls : List (List Int)} {fs : List Value} (h : OwnSS w base tt ti v ls ls.length fs) {k : Nat} (hk : w.heap.size ≤ k) : Far v ls fs k :=
  ⟨fun e => by have := (h.top.lt k e).2; omega, fun i hi e => by have := ((h.row i hi).lt k e).2; omega⟩
theorem OwnSS.far_lt {w : World} {base : Nat} {tt ti : TypeId} {v : Value} {ls : List (List Int)} {fs : List Value} (h : OwnSS w base tt ti v ls ls.length fs) {k : Nat} (hk : k < base) : Far v ls fs k :=
  ⟨fun e => by have := (h.top.lt k e).1; omega, fun i hi e => by have := ((h.row i hi).lt k e).1; omega⟩
theorem own_row_kept {w w' : World} {base size n : Nat} {e : TypeId} {v : Value} {xs : List Value} {row : Option Nat} (h : w.ownsRow base e size v n xs) (hg : w.grownBy w' row) (hf : ∀ k, row = some k → v.ownBlock ≠ some k) : w'.ownsRow base e size v n xs :=
  h.kept hg (by
    cases hv : v.ownBlock with
    | none => exact .inl rfl
    | some k => exact .inr (fun e => hf k e.symm hv))
theorem OwnSS.rowKept {w w' : World} {base : Nat} {tt ti : TypeId} {v : Value} {ls : List (List Int)} {fs : List Value} {row : Option Nat} (h : OwnSS w base tt ti v ls ls.length fs) (hg : w.grownBy w' row) (hf : ∀ k, row = some k → Far v ls fs k) : OwnSS w' base tt ti v ls ls.length fs :=
  ⟨own_row_kept h.top hg (fun k e => (hf k e).1), fun i hi => own_row_kept (h.row i hi) hg (fun k e => (hf k e).2 i hi), h.apart, h.off, h.rest⟩
theorem OwnSS.only {w w' : World} {base : Nat} {tt ti : TypeId} {v : Value} {ls : List (List Int)} {fs : List Value} {S : Nat → Prop} (h : OwnSS w base tt ti v ls ls.length fs) (O : Only S w w') (hf : ∀ k, S k → Far v ls fs k) : OwnSS w' base tt ti v ls ls.length fs :=
  ⟨O.own h.top (fun k e s => (hf k s).1 e), fun i hi => O.own (h.row i hi) (fun k e s => (hf k s).2 i hi e), h.apart, h.off, h.rest⟩
end Go.Proofs.Yteeaafdgkepaeaa
