/- A term that is bent a little: l2Bent. The conditions stand in each statement. -/
import Derived.Test.YtfkanemjedndgaaUd
import Derived.Deep.RegionHeldLaw
namespace Go.Proofs.Ytfkanemjedndgaa
open Go.RowKit

def TK (t : Tm) : Prop := 0 ≤ t.op ∧ t.op ≤ 40 ∧ -2000 ≤ t.a ∧ t.a ≤ 2000 ∧ -2000 ≤ t.b ∧ t.b ≤ 2000 ∧ t.nm.size ≤ 1
def GaveB (B D g : Nat) (v : Value) (P : Nat) (w : World) (e : Ending) (w' : World) : Prop :=
  ∃ (t : Tm) (s : Value) (D' : Nat), e = .returned (.agg #[.int .i64 t.op, .int .i64 t.a, .int .i64 t.b, .string t.nm, s]) ∧ Top B D' w' s t.ks ∧ TK t ∧ TD D' t.ks ∧ t.ks.length ≤ 4 ∧ D' ≤ D + 8 ∧ w.grownBy w' (some g) ∧ RdOk w' g v P
theorem Blk5.growRow {w w1 : World} {k : Nat} {row : Option Nat} {x0 x1 x2 x3 x4 : Value} {t : TypeId} (h : Blk5 w k x0 x1 x2 x3 x4 t) (hg : w.grownBy w1 row) (hne : row ≠ some k) : Blk5 w1 k x0 x1 x2 x3 x4 t :=
  (hg.block k h.lt (fun e => hne e.symm)).trans h
theorem Blk5.drewX {w : World} {k : Nat} {x0 x1 x2 x3 x4 : Value} {t : TypeId} (h : Blk5 w k x0 x1 x2 x3 x4 t) : Blk5 w.drew k x0 x1 x2 x3 x4 t := h
theorem tflat_nil (S : Nat → Value) : tflat [] S = [] := List.eq_nil_of_length_eq_zero (tflat_len _ _)
theorem td_snoc {d : Nat} {ks : List Tm} {u : Tm} (h : TD (d + 1) ks) (hu : TOk u) (hd : TD d u.ks) : TD (d + 1) (ks ++ [u]) := fun i hi => by
  by_cases h1 : i < ks.length
  · rw [snoc_getD_lt h1]; exact h i h1
  · have : i = ks.length := by simp at hi; omega
    subst this; rw [snoc_getD_at]; exact ⟨hu, hd⟩
theorem td_one {d : Nat} {u : Tm} (hu : TOk u) (hd : TD d u.ks) : TD (d + 1) [u] := fun i hi => by
  obtain rfl : i = 0 := by simpa using hi
  exact ⟨hu, hd⟩
theorem tOk_true : TOk (.node 24 0 0 ⟨#[]⟩ []) := by simp [TOk, Tm.op, Tm.a, Tm.b, Tm.nm, ByteArray.size]
theorem tOk_no (u : Tm) : TOk (.node 25 0 0 ⟨#[]⟩ [u]) := by simp [TOk, Tm.op, Tm.a, Tm.b, Tm.nm, ByteArray.size]

set_option linter.unusedVariables false in
set_option maxRecDepth 100000 in
set_option maxHeartbeats 16000000 in
theorem l2Bent_any (B D g P : Nat) (v : Value) (o a b : Int) (nm : ByteArray) (s : Value) (ks : List Tm) (w : World) (hr : RdOk w g v P) (hP : P ≤ 800000) (hgB : g < B) (hB : B ≤ w.heap.size) (top : Top B D w s ks) (ok : TOk (.node o a b nm ks)) (td : TD D ks) (hl : ks.length ≤ 3) :
    Calls Try.prog 29 #[.pointer (some ⟨g, 0, none⟩), .agg #[.int .i64 o, .int .i64 a, .int .i64 b, .string nm, s]] w (GaveB B D g v (P + 2) w) := by
  have gl : g < w.heap.size := by omega
  have hne : ¬ w.heap.size = g := by omega
  have hne1 : ¬ w.heap.size + 1 = g := by omega
  obtain ⟨i0, hi, hz0, hz1, hz2⟩ := info_parts infoTerm
  have OK := Lib.hid ok
  have TPX := Lib.hid top
  have HTD := Lib.hid td
  have bnd : (0 ≤ o ∧ o ≤ 40) ∧ (-1000 ≤ a ∧ a ≤ 1000) ∧ (-1000 ≤ b ∧ b ≤ 1000) ∧ nm.size ≤ 1 := ⟨⟨ok.1, ok.2.1⟩, ⟨ok.2.2.1, ok.2.2.2.1⟩, ⟨ok.2.2.2.2.1, ok.2.2.2.2.2.1⟩, ok.2.2.2.2.2.2⟩
  obtain ⟨⟨o0, o1⟩, ⟨a0, a1⟩, ⟨b0, b1⟩, n1⟩ := bnd
  clear ok td
  rcases top with ⟨rfl, rfl⟩ | ⟨d, bb, cap, S, rfl, rfl, hR, hb1, hb2, hS⟩
  · clear hl
    have A0 : Blk5 (((w.alloc (.cells #[.int .i64 o, .int .i64 a, .int .i64 b, .string nm, .slice none 0 0] 29)).alloc (.cells #[.int .i64 0, .int .i64 0, .int .i64 0, .string ⟨#[]⟩, .slice none 0 0] 29)).alloc (.cells #[] 29)) w.heap.size (.int .i64 o) (.int .i64 a) (.int .i64 b) (.string nm) (.slice none 0 0) 29 := ((blk5_new w _ _ _ _ _ _).alloc _).alloc _
    have Z0 : Blk5 (((w.alloc (.cells #[.int .i64 o, .int .i64 a, .int .i64 b, .string nm, .slice none 0 0] 29)).alloc (.cells #[.int .i64 0, .int .i64 0, .int .i64 0, .string ⟨#[]⟩, .slice none 0 0] 29)).alloc (.cells #[] 29)) (w.heap.size + 1) (.int .i64 0) (.int .i64 0) (.int .i64 0) (.string ⟨#[]⟩) (.slice none 0 0) 29 := (blk5_new1 w _ _ _ _ _ _ _).alloc _
    have G0 : w.grownBy (((w.alloc (.cells #[.int .i64 o, .int .i64 a, .int .i64 b, .string nm, .slice none 0 0] 29)).alloc (.cells #[.int .i64 0, .int .i64 0, .int .i64 0, .string ⟨#[]⟩, .slice none 0 0] 29)).alloc (.cells #[] 29)) (some g) := grown_alloc (grown_alloc (World.grownBy_alloc _ _ _) _) _
    have R0 : RdOk (((w.alloc (.cells #[.int .i64 o, .int .i64 a, .int .i64 b, .string nm, .slice none 0 0] 29)).alloc (.cells #[.int .i64 0, .int .i64 0, .int .i64 0, .string ⟨#[]⟩, .slice none 0 0] 29)).alloc (.cells #[] 29)) g v P := ((hr.alloc _).alloc _).alloc _
    have O0 : (((w.alloc (.cells #[.int .i64 o, .int .i64 a, .int .i64 b, .string nm, .slice none 0 0] 29)).alloc (.cells #[.int .i64 0, .int .i64 0, .int .i64 0, .string ⟨#[]⟩, .slice none 0 0] 29)).alloc (.cells #[] 29)).ownsRow (w.heap.size + 2) 29 5 (.slice (some ⟨w.heap.size + 1 + 1, 0, none⟩) 0 0) 0 [] := by
      have := World.ownsRow_lit (base := w.heap.size + 2) (e := 29) (size := 5) ((w.alloc (.cells #[.int .i64 o, .int .i64 a, .int .i64 b, .string nm, .slice none 0 0] 29)).alloc (.cells #[.int .i64 0, .int .i64 0, .int .i64 0, .string ⟨#[]⟩, .slice none 0 0] 29)) #[] 0 (by simp) (Nat.zero_le _) rfl
      simpa using this
    go_enter Try.func29, Try.ntmps29
    obtain ⟨C0, C1, C2, C3, C4, _⟩ := A0.cells
    go_wp2_with fail
    clear C0 C1 C2 C3 C4
    have A := A0; have Z := Z0; have G := G0; have R := R0
    have OWN := O0
    clear A0 Z0 G0 R0 O0
    refine (pick_any g _ v 60 _ R (by omega)).mono ?_
    rintro e w5 ⟨p, rfl, p0, p1, _, hg5, R5⟩
    have A5 := A.keepG hg5 hne; have Z5 := Z.keepG hg5 hne1; have G5 := grown_two G hg5; have O5 := Lib.hid (own_grown OWN hg5 (by omega))
    have hs5 : w.heap.size + 2 < w5.heap.size := by have := hg5.size; simp at this; omega
    clear hg5 A Z G R OWN p1
    by_cases c0 : p = 0
    · subst c0
      have A7 := A5.alloc (.cells #[.int .i64 0, .int .i64 18, .int .i64 28, .int .i64 3, .int .i64 16, .int .i64 25] 3); have Z7 := Z5.alloc (.cells #[.int .i64 0, .int .i64 18, .int .i64 28, .int .i64 3, .int .i64 16, .int .i64 25] 3); have G7 := grown_alloc G5 (.cells #[.int .i64 0, .int .i64 18, .int .i64 28, .int .i64 3, .int .i64 16, .int .i64 25] 3); have R7 := R5.alloc (.cells #[.int .i64 0, .int .i64 18, .int .i64 28, .int .i64 3, .int .i64 16, .int .i64 25] 3)
      clear O5 A5 Z5 G5 R5
      go_wp2_with fail
      refine (num_in (fun x => 0 ≤ x ∧ x ≤ 40) g _ v w5.heap.size 6 6 _ R7 (by omega) (by omega) (by omega) (by omega) (new_ints_in w5 (fun x => 0 ≤ x ∧ x ≤ 40) [0, 18, 28, 3, 16, 25] 3 (by simp))).mono ?_
      rintro e w6 ⟨_, rfl, ⟨x, rfl, x0, x1⟩, hg6, R6⟩
      have A6 := A7.keepG hg6 hne; have Z6 := Z7.keepG hg6 hne1; have G6 := grown_two G7 hg6; clear hg6 A7 Z7 G7 R7
      obtain ⟨C0, C1, C2, C3, C4, _⟩ := A6.cells; obtain ⟨D0, D1, D2, D3, D4⟩ := A6.frozen; obtain ⟨E0, E1, E2, E3, E4, _⟩ := Z6.cells; obtain ⟨F0, F1, F2, F3, F4⟩ := Z6.frozen
      go_wp2_with fail
      obtain ⟨Zf, Gf, Rf, Kf⟩ := put5 (Z6.set_other (p := ⟨w.heap.size, 0, none⟩) (z := .int .i64 x) (by simp)) (grown_set G6 (p := ⟨w.heap.size, 0, none⟩) (Nat.le_refl _) (.int .i64 x)) (R6.setNew (q := ⟨w.heap.size, 0, none⟩) (x := .int .i64 x) hr (Nat.le_refl _)) hr (Nat.le_succ _) (.int .i64 x) (.int .i64 a) (.int .i64 b) (.string nm) (.slice none 0 0)
      obtain ⟨r0, r1, r2, r3, r4, _⟩ := Zf.cells
      exact bodyPost_ret (v := .agg #[.int .i64 x, .int .i64 a, .int .i64 b, .string nm, .slice none 0 0]) (by simp [results, Try.results29, go_sem, r0, r1, r2, r3, r4]) rfl ⟨.node x a b nm ([] : List Tm), _, D, rfl, TPX.out.on (kept_grownT Gf hgB), ⟨by simp only [Tm.op]; omega, by simp only [Tm.op]; omega, by simp only [Tm.a]; omega, by simp only [Tm.a]; omega, by simp only [Tm.b]; omega, by simp only [Tm.b]; omega, by simp only [Tm.nm]; exact Nat.le_trans n1 (Nat.le_refl _)⟩, HTD.out, Nat.zero_le _, by omega, Gf, Rf.le (by omega)⟩
    by_cases c1 : p = 1
    · subst c1
      clear O5 c0
      have A7 := (A5.drewX).alloc (.cells #[.int .i64 1, .int .i64 (-1)] 3); have Z7 := (Z5.drewX).alloc (.cells #[.int .i64 1, .int .i64 (-1)] 3); have G7 := grown_alloc (grown_drew G5) (.cells #[.int .i64 1, .int .i64 (-1)] 3); have R7 := (R5.drew).alloc (.cells #[.int .i64 1, .int .i64 (-1)] 3)
      go_upto_region 6 with fail
      refine wp_region_noPanic ?_
      refine wp_region_held_drew (S := fun _ => True) (by kernel_rfl) trivial (fun hHeld => ?_)
      refine wpAnyH_take (i := 0) (oi := { dst := some 21, op := Go.Op.fieldAddr 29 (Go.Operand.tmp 3) 1, type := 0, pos := _, after := #[], guard := none }) (v := ?_) rfl (by kernel_rfl) (by kernel_rfl) (by kernel_rfl) (fun _ _ _ h => h) (Or.inl ⟨by rfl, ?_⟩) hHeld ?_
      rotate_left
      · (intro wq hSw; (try dsimp only at hSw); (try go_simp); (try with_reducible rfl))
      try simp only [Act.put, List.setIfInBounds_toArray, List.set_cons_zero, List.set_cons_succ]
      refine wpAnyH_take (i := 2) (oi := { dst := some 23, op := Go.Op.move (Go.Operand.tmp 0), type := 51, pos := _, after := #[], guard := none }) (v := ?_) rfl (by kernel_rfl) (by kernel_rfl) (by kernel_rfl) (fun _ _ _ h => h) (Or.inl ⟨by rfl, ?_⟩) hHeld ?_
      rotate_left
      · (intro wq hSw; (try dsimp only at hSw); (try go_simp); (try with_reducible rfl))
      try simp only [Act.put, List.setIfInBounds_toArray, List.set_cons_zero, List.set_cons_succ]
      refine wpAnyH_ready (rs := [1, 3]) (by kernel_rfl) (by simp) ?_
      refine AllReadyH.cons (o := { dst := some 22, op := Go.Op.load 3 (Go.Operand.tmp 21), type := 3, pos := _, after := #[{ on := 0, ground := Go.Ground.data }], guard := none }) rfl (fun KK hKK => ?_) (AllReadyH.cons (o := { dst := some 24, op := Go.Op.buildSlice 64 2 #[(0, Go.Operand.const (Go.Value.int Go.IntKind.i64 1)), (1, Go.Operand.const (Go.Value.int Go.IntKind.i64 (-1)))], type := 64, pos := _, after := #[], guard := none }) rfl (fun KK hKK => ?_) (AllReadyH.nil))
      · skip
        have LC := A5.drewX.cells.2.1
        go_simp
        try go_simp
        refine hKK.out _ _ trivial (fun hHeld => ?_)
        clear hKK KK
        try simp only [Act.put, List.setIfInBounds_toArray, List.set_cons_zero, List.set_cons_succ]
        refine wpAnyH_ready (rs := [3]) (by kernel_rfl) (by simp) ?_
        refine AllReadyH.cons (o := { dst := some 24, op := Go.Op.buildSlice 64 2 #[(0, Go.Operand.const (Go.Value.int Go.IntKind.i64 1)), (1, Go.Operand.const (Go.Value.int Go.IntKind.i64 (-1)))], type := 64, pos := _, after := #[], guard := none }) rfl (fun KK hKK => ?_) (AllReadyH.nil)
        go_simp
        try go_simp
        refine hKK.out _ _ trivial (fun hHeld => ?_)
        clear hKK KK
        try simp only [Act.put, List.setIfInBounds_toArray, List.set_cons_zero, List.set_cons_succ]
        refine wpAnyH_ready (rs := [4]) (by kernel_rfl) (by simp) ?_
        refine AllReadyH.cons (o := { dst := some 25, op := Go.Op.call { callee := Go.Callee.value (Go.Operand.func 34), args := #[Go.Operand.tmp 23, Go.Operand.tmp 24], argTypes := #[51, 64] }, type := 3, pos := _, after := #[{ on := 2, ground := Go.Ground.data }, { on := 3, ground := Go.Ground.data }], guard := none }) rfl (fun KK hKK => ?_) (AllReadyH.nil)
        go_simp
        go_at_call 34
        refine (num_in (fun x => -16 ≤ x ∧ x ≤ 16) g _ v w5.heap.size 2 2 _ R7 (by omega) (by omega) (by omega) (by omega) (new_ints_in w5.drew (fun x => -16 ≤ x ∧ x ≤ 16) [1, -1] 3 (by simp))).mono ?_
        rintro e w6 ⟨_, rfl, ⟨x, rfl, x0, x1⟩, hg6, R6⟩
        have A6 := A7.keepG hg6 hne; have Z6 := Z7.keepG hg6 hne1; have G6 := grown_two G7 hg6; clear hg6 A7 Z7 G7 R7
        have hsum : IntKind.i64.wrap (a + x) = a + x := IntWalk.i64_in _ (by omega)
        obtain ⟨D0, D1, D2, D3, D4⟩ := A6.frozen
        obtain ⟨C0, C1, C2, C3, C4, _⟩ := A6.cells
        try go_simp
        refine hKK.out _ _ trivial (fun hHeld => ?_)
        clear hKK KK
        try simp only [Act.put, List.setIfInBounds_toArray, List.set_cons_zero, List.set_cons_succ]
        refine wpAnyH_take (i := 5) (oi := { dst := some 26, op := Go.Op.binOp Go.BinOp.add 3 (Go.Operand.tmp 22) (Go.Operand.tmp 25) 3, type := 3, pos := _, after := #[{ on := 1, ground := Go.Ground.data }, { on := 4, ground := Go.Ground.data }], guard := none }) (v := ?_) rfl (by kernel_rfl) (by kernel_rfl) (by kernel_rfl) (fun _ _ _ h => h) (Or.inl ⟨by rfl, ?_⟩) hHeld ?_
        rotate_left
        · (intro wq hSw; (try dsimp only at hSw); (try go_simp); (try with_reducible rfl))
        try simp only [Act.put, List.setIfInBounds_toArray, List.set_cons_zero, List.set_cons_succ]
        refine wpAnyH_take (i := 6) (oi := { dst := some 27, op := Go.Op.fieldAddr 29 (Go.Operand.tmp 3) 1, type := 0, pos := _, after := #[{ on := 0, ground := Go.Ground.phase }, { on := 1, ground := Go.Ground.phase }, { on := 2, ground := Go.Ground.phase }, { on := 3, ground := Go.Ground.phase }, { on := 4, ground := Go.Ground.phase }, { on := 5, ground := Go.Ground.phase }], guard := none }) (v := ?_) rfl (by kernel_rfl) (by kernel_rfl) (by kernel_rfl) (fun _ _ _ h => h) (Or.inl ⟨by rfl, ?_⟩) hHeld ?_
        rotate_left
        · (intro wq hSw; (try dsimp only at hSw); (try go_simp); (try with_reducible rfl))
        try simp only [Act.put, List.setIfInBounds_toArray, List.set_cons_zero, List.set_cons_succ]
        refine wpAnyH_ready (rs := [7]) (by kernel_rfl) (by simp) ?_
        refine AllReadyH.cons (o := { dst := none, op := Go.Op.store 3 (Go.Operand.tmp 27) (Go.Operand.tmp 26), type := 0, pos := _, after := #[{ on := 6, ground := Go.Ground.data }, { on := 5, ground := Go.Ground.data }, { on := 4, ground := Go.Ground.chain }, { on := 0, ground := Go.Ground.phase }, { on := 1, ground := Go.Ground.phase }, { on := 2, ground := Go.Ground.phase }, { on := 3, ground := Go.Ground.phase }, { on := 4, ground := Go.Ground.phase }, { on := 5, ground := Go.Ground.phase }], guard := none }) rfl (fun KK hKK => ?_) (AllReadyH.nil)
        go_simp
        try go_simp
        refine hKK.out _ _ trivial (fun hHeld => ?_)
        clear hKK KK
        try simp only [Act.put, List.setIfInBounds_toArray, List.set_cons_zero, List.set_cons_succ]
        refine wpAnyH_done (by kernel_rfl) ?_ _
        refine NoPanic.normal ?_
        clear C0 C1 C2 C3 C4 D0 D1 D2 D3 D4
        have A8 := A6.set1 (.int .i64 (a + x)); have Z8 := Z6.set_other (p := ⟨w.heap.size, 1, none⟩) (z := .int .i64 (a + x)) (by simp)
        obtain ⟨C0, C1, C2, C3, C4, _⟩ := A8.cells; obtain ⟨D0, D1, D2, D3, D4⟩ := A8.frozen; obtain ⟨E0, E1, E2, E3, E4, _⟩ := Z8.cells; obtain ⟨F0, F1, F2, F3, F4⟩ := Z8.frozen
        go_wp2_with fail
        obtain ⟨Zf, Gf, Rf, Kf⟩ := put5 (Z8) (grown_set G6 (p := ⟨w.heap.size, 1, none⟩) (Nat.le_refl _) (.int .i64 (a + x))) (R6.setNew (q := ⟨w.heap.size, 1, none⟩) (x := .int .i64 (a + x)) hr (Nat.le_refl _)) hr (Nat.le_succ _) (.int .i64 o) (.int .i64 (a + x)) (.int .i64 b) (.string nm) (.slice none 0 0)
        obtain ⟨r0, r1, r2, r3, r4, _⟩ := Zf.cells
        exact bodyPost_ret (v := .agg #[.int .i64 o, .int .i64 (a + x), .int .i64 b, .string nm, .slice none 0 0]) (by simp [results, Try.results29, go_sem, r0, r1, r2, r3, r4]) rfl ⟨.node o (a + x) b nm ([] : List Tm), _, D, rfl, TPX.out.on (kept_grownT Gf hgB), ⟨by simp only [Tm.op]; omega, by simp only [Tm.op]; omega, by simp only [Tm.a]; omega, by simp only [Tm.a]; omega, by simp only [Tm.b]; omega, by simp only [Tm.b]; omega, by simp only [Tm.nm]; exact Nat.le_trans n1 (Nat.le_refl _)⟩, HTD.out, Nat.zero_le _, by omega, Gf, Rf.le (by omega)⟩
      · skip
        go_simp
        try go_simp
        refine hKK.out _ _ trivial (fun hHeld => ?_)
        clear hKK KK
        try simp only [Act.put, List.setIfInBounds_toArray, List.set_cons_zero, List.set_cons_succ]
        refine wpAnyH_ready (rs := [1, 4]) (by kernel_rfl) (by simp) ?_
        refine AllReadyH.cons (o := { dst := some 22, op := Go.Op.load 3 (Go.Operand.tmp 21), type := 3, pos := _, after := #[{ on := 0, ground := Go.Ground.data }], guard := none }) rfl (fun KK hKK => ?_) (AllReadyH.cons (o := { dst := some 25, op := Go.Op.call { callee := Go.Callee.value (Go.Operand.func 34), args := #[Go.Operand.tmp 23, Go.Operand.tmp 24], argTypes := #[51, 64] }, type := 3, pos := _, after := #[{ on := 2, ground := Go.Ground.data }, { on := 3, ground := Go.Ground.data }], guard := none }) rfl (fun KK hKK => ?_) (AllReadyH.nil))
        · skip
          have LC := (A5.alloc (.cells #[.int .i64 1, .int .i64 (-1)] 3)).cells.2.1
          go_simp
          try go_simp
          refine hKK.out _ _ trivial (fun hHeld => ?_)
          clear hKK KK
          try simp only [Act.put, List.setIfInBounds_toArray, List.set_cons_zero, List.set_cons_succ]
          refine wpAnyH_ready (rs := [4]) (by kernel_rfl) (by simp) ?_
          refine AllReadyH.cons (o := { dst := some 25, op := Go.Op.call { callee := Go.Callee.value (Go.Operand.func 34), args := #[Go.Operand.tmp 23, Go.Operand.tmp 24], argTypes := #[51, 64] }, type := 3, pos := _, after := #[{ on := 2, ground := Go.Ground.data }, { on := 3, ground := Go.Ground.data }], guard := none }) rfl (fun KK hKK => ?_) (AllReadyH.nil)
          go_simp
          go_at_call 34
          refine (num_in (fun x => -16 ≤ x ∧ x ≤ 16) g _ v w5.heap.size 2 2 _ R7 (by omega) (by omega) (by omega) (by omega) (new_ints_in w5.drew (fun x => -16 ≤ x ∧ x ≤ 16) [1, -1] 3 (by simp))).mono ?_
          rintro e w6 ⟨_, rfl, ⟨x, rfl, x0, x1⟩, hg6, R6⟩
          have A6 := A7.keepG hg6 hne; have Z6 := Z7.keepG hg6 hne1; have G6 := grown_two G7 hg6; clear hg6 A7 Z7 G7 R7
          have hsum : IntKind.i64.wrap (a + x) = a + x := IntWalk.i64_in _ (by omega)
          obtain ⟨D0, D1, D2, D3, D4⟩ := A6.frozen
          obtain ⟨C0, C1, C2, C3, C4, _⟩ := A6.cells
          try go_simp
          refine hKK.out _ _ trivial (fun hHeld => ?_)
          clear hKK KK
          try simp only [Act.put, List.setIfInBounds_toArray, List.set_cons_zero, List.set_cons_succ]
          refine wpAnyH_take (i := 5) (oi := { dst := some 26, op := Go.Op.binOp Go.BinOp.add 3 (Go.Operand.tmp 22) (Go.Operand.tmp 25) 3, type := 3, pos := _, after := #[{ on := 1, ground := Go.Ground.data }, { on := 4, ground := Go.Ground.data }], guard := none }) (v := ?_) rfl (by kernel_rfl) (by kernel_rfl) (by kernel_rfl) (fun _ _ _ h => h) (Or.inl ⟨by rfl, ?_⟩) hHeld ?_
          rotate_left
          · (intro wq hSw; (try dsimp only at hSw); (try go_simp); (try with_reducible rfl))
          try simp only [Act.put, List.setIfInBounds_toArray, List.set_cons_zero, List.set_cons_succ]
          refine wpAnyH_take (i := 6) (oi := { dst := some 27, op := Go.Op.fieldAddr 29 (Go.Operand.tmp 3) 1, type := 0, pos := _, after := #[{ on := 0, ground := Go.Ground.phase }, { on := 1, ground := Go.Ground.phase }, { on := 2, ground := Go.Ground.phase }, { on := 3, ground := Go.Ground.phase }, { on := 4, ground := Go.Ground.phase }, { on := 5, ground := Go.Ground.phase }], guard := none }) (v := ?_) rfl (by kernel_rfl) (by kernel_rfl) (by kernel_rfl) (fun _ _ _ h => h) (Or.inl ⟨by rfl, ?_⟩) hHeld ?_
          rotate_left
          · (intro wq hSw; (try dsimp only at hSw); (try go_simp); (try with_reducible rfl))
          try simp only [Act.put, List.setIfInBounds_toArray, List.set_cons_zero, List.set_cons_succ]
          refine wpAnyH_ready (rs := [7]) (by kernel_rfl) (by simp) ?_
          refine AllReadyH.cons (o := { dst := none, op := Go.Op.store 3 (Go.Operand.tmp 27) (Go.Operand.tmp 26), type := 0, pos := _, after := #[{ on := 6, ground := Go.Ground.data }, { on := 5, ground := Go.Ground.data }, { on := 4, ground := Go.Ground.chain }, { on := 0, ground := Go.Ground.phase }, { on := 1, ground := Go.Ground.phase }, { on := 2, ground := Go.Ground.phase }, { on := 3, ground := Go.Ground.phase }, { on := 4, ground := Go.Ground.phase }, { on := 5, ground := Go.Ground.phase }], guard := none }) rfl (fun KK hKK => ?_) (AllReadyH.nil)
          go_simp
          try go_simp
          refine hKK.out _ _ trivial (fun hHeld => ?_)
          clear hKK KK
          try simp only [Act.put, List.setIfInBounds_toArray, List.set_cons_zero, List.set_cons_succ]
          refine wpAnyH_done (by kernel_rfl) ?_ _
          refine NoPanic.normal ?_
          clear C0 C1 C2 C3 C4 D0 D1 D2 D3 D4
          have A8 := A6.set1 (.int .i64 (a + x)); have Z8 := Z6.set_other (p := ⟨w.heap.size, 1, none⟩) (z := .int .i64 (a + x)) (by simp)
          obtain ⟨C0, C1, C2, C3, C4, _⟩ := A8.cells; obtain ⟨D0, D1, D2, D3, D4⟩ := A8.frozen; obtain ⟨E0, E1, E2, E3, E4, _⟩ := Z8.cells; obtain ⟨F0, F1, F2, F3, F4⟩ := Z8.frozen
          go_wp2_with fail
          obtain ⟨Zf, Gf, Rf, Kf⟩ := put5 (Z8) (grown_set G6 (p := ⟨w.heap.size, 1, none⟩) (Nat.le_refl _) (.int .i64 (a + x))) (R6.setNew (q := ⟨w.heap.size, 1, none⟩) (x := .int .i64 (a + x)) hr (Nat.le_refl _)) hr (Nat.le_succ _) (.int .i64 o) (.int .i64 (a + x)) (.int .i64 b) (.string nm) (.slice none 0 0)
          obtain ⟨r0, r1, r2, r3, r4, _⟩ := Zf.cells
          exact bodyPost_ret (v := .agg #[.int .i64 o, .int .i64 (a + x), .int .i64 b, .string nm, .slice none 0 0]) (by simp [results, Try.results29, go_sem, r0, r1, r2, r3, r4]) rfl ⟨.node o (a + x) b nm ([] : List Tm), _, D, rfl, TPX.out.on (kept_grownT Gf hgB), ⟨by simp only [Tm.op]; omega, by simp only [Tm.op]; omega, by simp only [Tm.a]; omega, by simp only [Tm.a]; omega, by simp only [Tm.b]; omega, by simp only [Tm.b]; omega, by simp only [Tm.nm]; exact Nat.le_trans n1 (Nat.le_refl _)⟩, HTD.out, Nat.zero_le _, by omega, Gf, Rf.le (by omega)⟩
        · skip
          go_simp
          go_at_call 34
          refine (num_in (fun x => -16 ≤ x ∧ x ≤ 16) g _ v w5.heap.size 2 2 _ R7 (by omega) (by omega) (by omega) (by omega) (new_ints_in w5.drew (fun x => -16 ≤ x ∧ x ≤ 16) [1, -1] 3 (by simp))).mono ?_
          rintro e w6 ⟨_, rfl, ⟨x, rfl, x0, x1⟩, hg6, R6⟩
          have A6 := A7.keepG hg6 hne; have Z6 := Z7.keepG hg6 hne1; have G6 := grown_two G7 hg6; clear hg6 A7 Z7 G7 R7
          have hsum : IntKind.i64.wrap (a + x) = a + x := IntWalk.i64_in _ (by omega)
          obtain ⟨D0, D1, D2, D3, D4⟩ := A6.frozen
          obtain ⟨C0, C1, C2, C3, C4, _⟩ := A6.cells
          try go_simp
          refine hKK.out _ _ trivial (fun hHeld => ?_)
          clear hKK KK
          try simp only [Act.put, List.setIfInBounds_toArray, List.set_cons_zero, List.set_cons_succ]
          refine wpAnyH_ready (rs := [1]) (by kernel_rfl) (by simp) ?_
          refine AllReadyH.cons (o := { dst := some 22, op := Go.Op.load 3 (Go.Operand.tmp 21), type := 3, pos := _, after := #[{ on := 0, ground := Go.Ground.data }], guard := none }) rfl (fun KK hKK => ?_) (AllReadyH.nil)
          have LC := A6.cells.2.1
          go_simp
          try go_simp
          refine hKK.out _ _ trivial (fun hHeld => ?_)
          clear hKK KK
          try simp only [Act.put, List.setIfInBounds_toArray, List.set_cons_zero, List.set_cons_succ]
          refine wpAnyH_take (i := 5) (oi := { dst := some 26, op := Go.Op.binOp Go.BinOp.add 3 (Go.Operand.tmp 22) (Go.Operand.tmp 25) 3, type := 3, pos := _, after := #[{ on := 1, ground := Go.Ground.data }, { on := 4, ground := Go.Ground.data }], guard := none }) (v := ?_) rfl (by kernel_rfl) (by kernel_rfl) (by kernel_rfl) (fun _ _ _ h => h) (Or.inl ⟨by rfl, ?_⟩) hHeld ?_
          rotate_left
          · (intro wq hSw; (try dsimp only at hSw); (try go_simp); (try with_reducible rfl))
          try simp only [Act.put, List.setIfInBounds_toArray, List.set_cons_zero, List.set_cons_succ]
          refine wpAnyH_take (i := 6) (oi := { dst := some 27, op := Go.Op.fieldAddr 29 (Go.Operand.tmp 3) 1, type := 0, pos := _, after := #[{ on := 0, ground := Go.Ground.phase }, { on := 1, ground := Go.Ground.phase }, { on := 2, ground := Go.Ground.phase }, { on := 3, ground := Go.Ground.phase }, { on := 4, ground := Go.Ground.phase }, { on := 5, ground := Go.Ground.phase }], guard := none }) (v := ?_) rfl (by kernel_rfl) (by kernel_rfl) (by kernel_rfl) (fun _ _ _ h => h) (Or.inl ⟨by rfl, ?_⟩) hHeld ?_
          rotate_left
          · (intro wq hSw; (try dsimp only at hSw); (try go_simp); (try with_reducible rfl))
          try simp only [Act.put, List.setIfInBounds_toArray, List.set_cons_zero, List.set_cons_succ]
          refine wpAnyH_ready (rs := [7]) (by kernel_rfl) (by simp) ?_
          refine AllReadyH.cons (o := { dst := none, op := Go.Op.store 3 (Go.Operand.tmp 27) (Go.Operand.tmp 26), type := 0, pos := _, after := #[{ on := 6, ground := Go.Ground.data }, { on := 5, ground := Go.Ground.data }, { on := 4, ground := Go.Ground.chain }, { on := 0, ground := Go.Ground.phase }, { on := 1, ground := Go.Ground.phase }, { on := 2, ground := Go.Ground.phase }, { on := 3, ground := Go.Ground.phase }, { on := 4, ground := Go.Ground.phase }, { on := 5, ground := Go.Ground.phase }], guard := none }) rfl (fun KK hKK => ?_) (AllReadyH.nil)
          go_simp
          try go_simp
          refine hKK.out _ _ trivial (fun hHeld => ?_)
          clear hKK KK
          try simp only [Act.put, List.setIfInBounds_toArray, List.set_cons_zero, List.set_cons_succ]
          refine wpAnyH_done (by kernel_rfl) ?_ _
          refine NoPanic.normal ?_
          clear C0 C1 C2 C3 C4 D0 D1 D2 D3 D4
          have A8 := A6.set1 (.int .i64 (a + x)); have Z8 := Z6.set_other (p := ⟨w.heap.size, 1, none⟩) (z := .int .i64 (a + x)) (by simp)
          obtain ⟨C0, C1, C2, C3, C4, _⟩ := A8.cells; obtain ⟨D0, D1, D2, D3, D4⟩ := A8.frozen; obtain ⟨E0, E1, E2, E3, E4, _⟩ := Z8.cells; obtain ⟨F0, F1, F2, F3, F4⟩ := Z8.frozen
          go_wp2_with fail
          obtain ⟨Zf, Gf, Rf, Kf⟩ := put5 (Z8) (grown_set G6 (p := ⟨w.heap.size, 1, none⟩) (Nat.le_refl _) (.int .i64 (a + x))) (R6.setNew (q := ⟨w.heap.size, 1, none⟩) (x := .int .i64 (a + x)) hr (Nat.le_refl _)) hr (Nat.le_succ _) (.int .i64 o) (.int .i64 (a + x)) (.int .i64 b) (.string nm) (.slice none 0 0)
          obtain ⟨r0, r1, r2, r3, r4, _⟩ := Zf.cells
          exact bodyPost_ret (v := .agg #[.int .i64 o, .int .i64 (a + x), .int .i64 b, .string nm, .slice none 0 0]) (by simp [results, Try.results29, go_sem, r0, r1, r2, r3, r4]) rfl ⟨.node o (a + x) b nm ([] : List Tm), _, D, rfl, TPX.out.on (kept_grownT Gf hgB), ⟨by simp only [Tm.op]; omega, by simp only [Tm.op]; omega, by simp only [Tm.a]; omega, by simp only [Tm.a]; omega, by simp only [Tm.b]; omega, by simp only [Tm.b]; omega, by simp only [Tm.nm]; exact Nat.le_trans n1 (Nat.le_refl _)⟩, HTD.out, Nat.zero_le _, by omega, Gf, Rf.le (by omega)⟩
    by_cases c2 : p = 2
    · subst c2
      clear O5 c0 c1
      have A7 := (A5.drewX).alloc (.cells #[.int .i64 1, .int .i64 (-1), .int .i64 16] 3); have Z7 := (Z5.drewX).alloc (.cells #[.int .i64 1, .int .i64 (-1), .int .i64 16] 3); have G7 := grown_alloc (grown_drew G5) (.cells #[.int .i64 1, .int .i64 (-1), .int .i64 16] 3); have R7 := (R5.drew).alloc (.cells #[.int .i64 1, .int .i64 (-1), .int .i64 16] 3)
      go_upto_region 8 with fail
      refine wp_region_noPanic ?_
      refine wp_region_held_drew (S := fun _ => True) (by kernel_rfl) trivial (fun hHeld => ?_)
      refine wpAnyH_take (i := 0) (oi := { dst := some 30, op := Go.Op.fieldAddr 29 (Go.Operand.tmp 3) 2, type := 0, pos := _, after := #[], guard := none }) (v := ?_) rfl (by kernel_rfl) (by kernel_rfl) (by kernel_rfl) (fun _ _ _ h => h) (Or.inl ⟨by rfl, ?_⟩) hHeld ?_
      rotate_left
      · (intro wq hSw; (try dsimp only at hSw); (try go_simp); (try with_reducible rfl))
      try simp only [Act.put, List.setIfInBounds_toArray, List.set_cons_zero, List.set_cons_succ]
      refine wpAnyH_take (i := 2) (oi := { dst := some 32, op := Go.Op.move (Go.Operand.tmp 0), type := 51, pos := _, after := #[], guard := none }) (v := ?_) rfl (by kernel_rfl) (by kernel_rfl) (by kernel_rfl) (fun _ _ _ h => h) (Or.inl ⟨by rfl, ?_⟩) hHeld ?_
      rotate_left
      · (intro wq hSw; (try dsimp only at hSw); (try go_simp); (try with_reducible rfl))
      try simp only [Act.put, List.setIfInBounds_toArray, List.set_cons_zero, List.set_cons_succ]
      refine wpAnyH_ready (rs := [1, 3]) (by kernel_rfl) (by simp) ?_
      refine AllReadyH.cons (o := { dst := some 31, op := Go.Op.load 3 (Go.Operand.tmp 30), type := 3, pos := _, after := #[{ on := 0, ground := Go.Ground.data }], guard := none }) rfl (fun KK hKK => ?_) (AllReadyH.cons (o := { dst := some 33, op := Go.Op.buildSlice 64 3 #[(0, Go.Operand.const (Go.Value.int Go.IntKind.i64 1)), (1, Go.Operand.const (Go.Value.int Go.IntKind.i64 (-1))), (2, Go.Operand.const (Go.Value.int Go.IntKind.i64 16))], type := 64, pos := _, after := #[], guard := none }) rfl (fun KK hKK => ?_) (AllReadyH.nil))
      · skip
        have LC := A5.drewX.cells.2.2.1
        go_simp
        try go_simp
        refine hKK.out _ _ trivial (fun hHeld => ?_)
        clear hKK KK
        try simp only [Act.put, List.setIfInBounds_toArray, List.set_cons_zero, List.set_cons_succ]
        refine wpAnyH_ready (rs := [3]) (by kernel_rfl) (by simp) ?_
        refine AllReadyH.cons (o := { dst := some 33, op := Go.Op.buildSlice 64 3 #[(0, Go.Operand.const (Go.Value.int Go.IntKind.i64 1)), (1, Go.Operand.const (Go.Value.int Go.IntKind.i64 (-1))), (2, Go.Operand.const (Go.Value.int Go.IntKind.i64 16))], type := 64, pos := _, after := #[], guard := none }) rfl (fun KK hKK => ?_) (AllReadyH.nil)
        go_simp
        try go_simp
        refine hKK.out _ _ trivial (fun hHeld => ?_)
        clear hKK KK
        try simp only [Act.put, List.setIfInBounds_toArray, List.set_cons_zero, List.set_cons_succ]
        refine wpAnyH_ready (rs := [4]) (by kernel_rfl) (by simp) ?_
        refine AllReadyH.cons (o := { dst := some 34, op := Go.Op.call { callee := Go.Callee.value (Go.Operand.func 34), args := #[Go.Operand.tmp 32, Go.Operand.tmp 33], argTypes := #[51, 64] }, type := 3, pos := _, after := #[{ on := 2, ground := Go.Ground.data }, { on := 3, ground := Go.Ground.data }], guard := none }) rfl (fun KK hKK => ?_) (AllReadyH.nil)
        go_simp
        go_at_call 34
        refine (num_in (fun x => -16 ≤ x ∧ x ≤ 16) g _ v w5.heap.size 3 3 _ R7 (by omega) (by omega) (by omega) (by omega) (new_ints_in w5.drew (fun x => -16 ≤ x ∧ x ≤ 16) [1, -1, 16] 3 (by simp))).mono ?_
        rintro e w6 ⟨_, rfl, ⟨x, rfl, x0, x1⟩, hg6, R6⟩
        have A6 := A7.keepG hg6 hne; have Z6 := Z7.keepG hg6 hne1; have G6 := grown_two G7 hg6; clear hg6 A7 Z7 G7 R7
        have hsum : IntKind.i64.wrap (b + x) = b + x := IntWalk.i64_in _ (by omega)
        obtain ⟨D0, D1, D2, D3, D4⟩ := A6.frozen
        obtain ⟨C0, C1, C2, C3, C4, _⟩ := A6.cells
        try go_simp
        refine hKK.out _ _ trivial (fun hHeld => ?_)
        clear hKK KK
        try simp only [Act.put, List.setIfInBounds_toArray, List.set_cons_zero, List.set_cons_succ]
        refine wpAnyH_take (i := 5) (oi := { dst := some 35, op := Go.Op.binOp Go.BinOp.add 3 (Go.Operand.tmp 31) (Go.Operand.tmp 34) 3, type := 3, pos := _, after := #[{ on := 1, ground := Go.Ground.data }, { on := 4, ground := Go.Ground.data }], guard := none }) (v := ?_) rfl (by kernel_rfl) (by kernel_rfl) (by kernel_rfl) (fun _ _ _ h => h) (Or.inl ⟨by rfl, ?_⟩) hHeld ?_
        rotate_left
        · (intro wq hSw; (try dsimp only at hSw); (try go_simp); (try with_reducible rfl))
        try simp only [Act.put, List.setIfInBounds_toArray, List.set_cons_zero, List.set_cons_succ]
        refine wpAnyH_take (i := 6) (oi := { dst := some 36, op := Go.Op.fieldAddr 29 (Go.Operand.tmp 3) 2, type := 0, pos := _, after := #[{ on := 0, ground := Go.Ground.phase }, { on := 1, ground := Go.Ground.phase }, { on := 2, ground := Go.Ground.phase }, { on := 3, ground := Go.Ground.phase }, { on := 4, ground := Go.Ground.phase }, { on := 5, ground := Go.Ground.phase }], guard := none }) (v := ?_) rfl (by kernel_rfl) (by kernel_rfl) (by kernel_rfl) (fun _ _ _ h => h) (Or.inl ⟨by rfl, ?_⟩) hHeld ?_
        rotate_left
        · (intro wq hSw; (try dsimp only at hSw); (try go_simp); (try with_reducible rfl))
        try simp only [Act.put, List.setIfInBounds_toArray, List.set_cons_zero, List.set_cons_succ]
        refine wpAnyH_ready (rs := [7]) (by kernel_rfl) (by simp) ?_
        refine AllReadyH.cons (o := { dst := none, op := Go.Op.store 3 (Go.Operand.tmp 36) (Go.Operand.tmp 35), type := 0, pos := _, after := #[{ on := 6, ground := Go.Ground.data }, { on := 5, ground := Go.Ground.data }, { on := 4, ground := Go.Ground.chain }, { on := 0, ground := Go.Ground.phase }, { on := 1, ground := Go.Ground.phase }, { on := 2, ground := Go.Ground.phase }, { on := 3, ground := Go.Ground.phase }, { on := 4, ground := Go.Ground.phase }, { on := 5, ground := Go.Ground.phase }], guard := none }) rfl (fun KK hKK => ?_) (AllReadyH.nil)
        go_simp
        try go_simp
        refine hKK.out _ _ trivial (fun hHeld => ?_)
        clear hKK KK
        try simp only [Act.put, List.setIfInBounds_toArray, List.set_cons_zero, List.set_cons_succ]
        refine wpAnyH_done (by kernel_rfl) ?_ _
        refine NoPanic.normal ?_
        clear C0 C1 C2 C3 C4 D0 D1 D2 D3 D4
        have A8 := A6.set2 (.int .i64 (b + x)); have Z8 := Z6.set_other (p := ⟨w.heap.size, 2, none⟩) (z := .int .i64 (b + x)) (by simp)
        obtain ⟨C0, C1, C2, C3, C4, _⟩ := A8.cells; obtain ⟨D0, D1, D2, D3, D4⟩ := A8.frozen; obtain ⟨E0, E1, E2, E3, E4, _⟩ := Z8.cells; obtain ⟨F0, F1, F2, F3, F4⟩ := Z8.frozen
        go_wp2_with fail
        obtain ⟨Zf, Gf, Rf, Kf⟩ := put5 (Z8) (grown_set G6 (p := ⟨w.heap.size, 2, none⟩) (Nat.le_refl _) (.int .i64 (b + x))) (R6.setNew (q := ⟨w.heap.size, 2, none⟩) (x := .int .i64 (b + x)) hr (Nat.le_refl _)) hr (Nat.le_succ _) (.int .i64 o) (.int .i64 a) (.int .i64 (b + x)) (.string nm) (.slice none 0 0)
        obtain ⟨r0, r1, r2, r3, r4, _⟩ := Zf.cells
        exact bodyPost_ret (v := .agg #[.int .i64 o, .int .i64 a, .int .i64 (b + x), .string nm, .slice none 0 0]) (by simp [results, Try.results29, go_sem, r0, r1, r2, r3, r4]) rfl ⟨.node o a (b + x) nm ([] : List Tm), _, D, rfl, TPX.out.on (kept_grownT Gf hgB), ⟨by simp only [Tm.op]; omega, by simp only [Tm.op]; omega, by simp only [Tm.a]; omega, by simp only [Tm.a]; omega, by simp only [Tm.b]; omega, by simp only [Tm.b]; omega, by simp only [Tm.nm]; exact Nat.le_trans n1 (Nat.le_refl _)⟩, HTD.out, Nat.zero_le _, by omega, Gf, Rf.le (by omega)⟩
      · skip
        go_simp
        try go_simp
        refine hKK.out _ _ trivial (fun hHeld => ?_)
        clear hKK KK
        try simp only [Act.put, List.setIfInBounds_toArray, List.set_cons_zero, List.set_cons_succ]
        refine wpAnyH_ready (rs := [1, 4]) (by kernel_rfl) (by simp) ?_
        refine AllReadyH.cons (o := { dst := some 31, op := Go.Op.load 3 (Go.Operand.tmp 30), type := 3, pos := _, after := #[{ on := 0, ground := Go.Ground.data }], guard := none }) rfl (fun KK hKK => ?_) (AllReadyH.cons (o := { dst := some 34, op := Go.Op.call { callee := Go.Callee.value (Go.Operand.func 34), args := #[Go.Operand.tmp 32, Go.Operand.tmp 33], argTypes := #[51, 64] }, type := 3, pos := _, after := #[{ on := 2, ground := Go.Ground.data }, { on := 3, ground := Go.Ground.data }], guard := none }) rfl (fun KK hKK => ?_) (AllReadyH.nil))
        · skip
          have LC := (A5.alloc (.cells #[.int .i64 1, .int .i64 (-1), .int .i64 16] 3)).cells.2.2.1
          go_simp
          try go_simp
          refine hKK.out _ _ trivial (fun hHeld => ?_)
          clear hKK KK
          try simp only [Act.put, List.setIfInBounds_toArray, List.set_cons_zero, List.set_cons_succ]
          refine wpAnyH_ready (rs := [4]) (by kernel_rfl) (by simp) ?_
          refine AllReadyH.cons (o := { dst := some 34, op := Go.Op.call { callee := Go.Callee.value (Go.Operand.func 34), args := #[Go.Operand.tmp 32, Go.Operand.tmp 33], argTypes := #[51, 64] }, type := 3, pos := _, after := #[{ on := 2, ground := Go.Ground.data }, { on := 3, ground := Go.Ground.data }], guard := none }) rfl (fun KK hKK => ?_) (AllReadyH.nil)
          go_simp
          go_at_call 34
          refine (num_in (fun x => -16 ≤ x ∧ x ≤ 16) g _ v w5.heap.size 3 3 _ R7 (by omega) (by omega) (by omega) (by omega) (new_ints_in w5.drew (fun x => -16 ≤ x ∧ x ≤ 16) [1, -1, 16] 3 (by simp))).mono ?_
          rintro e w6 ⟨_, rfl, ⟨x, rfl, x0, x1⟩, hg6, R6⟩
          have A6 := A7.keepG hg6 hne; have Z6 := Z7.keepG hg6 hne1; have G6 := grown_two G7 hg6; clear hg6 A7 Z7 G7 R7
          have hsum : IntKind.i64.wrap (b + x) = b + x := IntWalk.i64_in _ (by omega)
          obtain ⟨D0, D1, D2, D3, D4⟩ := A6.frozen
          obtain ⟨C0, C1, C2, C3, C4, _⟩ := A6.cells
          try go_simp
          refine hKK.out _ _ trivial (fun hHeld => ?_)
          clear hKK KK
          try simp only [Act.put, List.setIfInBounds_toArray, List.set_cons_zero, List.set_cons_succ]
          refine wpAnyH_take (i := 5) (oi := { dst := some 35, op := Go.Op.binOp Go.BinOp.add 3 (Go.Operand.tmp 31) (Go.Operand.tmp 34) 3, type := 3, pos := _, after := #[{ on := 1, ground := Go.Ground.data }, { on := 4, ground := Go.Ground.data }], guard := none }) (v := ?_) rfl (by kernel_rfl) (by kernel_rfl) (by kernel_rfl) (fun _ _ _ h => h) (Or.inl ⟨by rfl, ?_⟩) hHeld ?_
          rotate_left
          · (intro wq hSw; (try dsimp only at hSw); (try go_simp); (try with_reducible rfl))
          try simp only [Act.put, List.setIfInBounds_toArray, List.set_cons_zero, List.set_cons_succ]
          refine wpAnyH_take (i := 6) (oi := { dst := some 36, op := Go.Op.fieldAddr 29 (Go.Operand.tmp 3) 2, type := 0, pos := _, after := #[{ on := 0, ground := Go.Ground.phase }, { on := 1, ground := Go.Ground.phase }, { on := 2, ground := Go.Ground.phase }, { on := 3, ground := Go.Ground.phase }, { on := 4, ground := Go.Ground.phase }, { on := 5, ground := Go.Ground.phase }], guard := none }) (v := ?_) rfl (by kernel_rfl) (by kernel_rfl) (by kernel_rfl) (fun _ _ _ h => h) (Or.inl ⟨by rfl, ?_⟩) hHeld ?_
          rotate_left
          · (intro wq hSw; (try dsimp only at hSw); (try go_simp); (try with_reducible rfl))
          try simp only [Act.put, List.setIfInBounds_toArray, List.set_cons_zero, List.set_cons_succ]
          refine wpAnyH_ready (rs := [7]) (by kernel_rfl) (by simp) ?_
          refine AllReadyH.cons (o := { dst := none, op := Go.Op.store 3 (Go.Operand.tmp 36) (Go.Operand.tmp 35), type := 0, pos := _, after := #[{ on := 6, ground := Go.Ground.data }, { on := 5, ground := Go.Ground.data }, { on := 4, ground := Go.Ground.chain }, { on := 0, ground := Go.Ground.phase }, { on := 1, ground := Go.Ground.phase }, { on := 2, ground := Go.Ground.phase }, { on := 3, ground := Go.Ground.phase }, { on := 4, ground := Go.Ground.phase }, { on := 5, ground := Go.Ground.phase }], guard := none }) rfl (fun KK hKK => ?_) (AllReadyH.nil)
          go_simp
          try go_simp
          refine hKK.out _ _ trivial (fun hHeld => ?_)
          clear hKK KK
          try simp only [Act.put, List.setIfInBounds_toArray, List.set_cons_zero, List.set_cons_succ]
          refine wpAnyH_done (by kernel_rfl) ?_ _
          refine NoPanic.normal ?_
          clear C0 C1 C2 C3 C4 D0 D1 D2 D3 D4
          have A8 := A6.set2 (.int .i64 (b + x)); have Z8 := Z6.set_other (p := ⟨w.heap.size, 2, none⟩) (z := .int .i64 (b + x)) (by simp)
          obtain ⟨C0, C1, C2, C3, C4, _⟩ := A8.cells; obtain ⟨D0, D1, D2, D3, D4⟩ := A8.frozen; obtain ⟨E0, E1, E2, E3, E4, _⟩ := Z8.cells; obtain ⟨F0, F1, F2, F3, F4⟩ := Z8.frozen
          go_wp2_with fail
          obtain ⟨Zf, Gf, Rf, Kf⟩ := put5 (Z8) (grown_set G6 (p := ⟨w.heap.size, 2, none⟩) (Nat.le_refl _) (.int .i64 (b + x))) (R6.setNew (q := ⟨w.heap.size, 2, none⟩) (x := .int .i64 (b + x)) hr (Nat.le_refl _)) hr (Nat.le_succ _) (.int .i64 o) (.int .i64 a) (.int .i64 (b + x)) (.string nm) (.slice none 0 0)
          obtain ⟨r0, r1, r2, r3, r4, _⟩ := Zf.cells
          exact bodyPost_ret (v := .agg #[.int .i64 o, .int .i64 a, .int .i64 (b + x), .string nm, .slice none 0 0]) (by simp [results, Try.results29, go_sem, r0, r1, r2, r3, r4]) rfl ⟨.node o a (b + x) nm ([] : List Tm), _, D, rfl, TPX.out.on (kept_grownT Gf hgB), ⟨by simp only [Tm.op]; omega, by simp only [Tm.op]; omega, by simp only [Tm.a]; omega, by simp only [Tm.a]; omega, by simp only [Tm.b]; omega, by simp only [Tm.b]; omega, by simp only [Tm.nm]; exact Nat.le_trans n1 (Nat.le_refl _)⟩, HTD.out, Nat.zero_le _, by omega, Gf, Rf.le (by omega)⟩
        · skip
          go_simp
          go_at_call 34
          refine (num_in (fun x => -16 ≤ x ∧ x ≤ 16) g _ v w5.heap.size 3 3 _ R7 (by omega) (by omega) (by omega) (by omega) (new_ints_in w5.drew (fun x => -16 ≤ x ∧ x ≤ 16) [1, -1, 16] 3 (by simp))).mono ?_
          rintro e w6 ⟨_, rfl, ⟨x, rfl, x0, x1⟩, hg6, R6⟩
          have A6 := A7.keepG hg6 hne; have Z6 := Z7.keepG hg6 hne1; have G6 := grown_two G7 hg6; clear hg6 A7 Z7 G7 R7
          have hsum : IntKind.i64.wrap (b + x) = b + x := IntWalk.i64_in _ (by omega)
          obtain ⟨D0, D1, D2, D3, D4⟩ := A6.frozen
          obtain ⟨C0, C1, C2, C3, C4, _⟩ := A6.cells
          try go_simp
          refine hKK.out _ _ trivial (fun hHeld => ?_)
          clear hKK KK
          try simp only [Act.put, List.setIfInBounds_toArray, List.set_cons_zero, List.set_cons_succ]
          refine wpAnyH_ready (rs := [1]) (by kernel_rfl) (by simp) ?_
          refine AllReadyH.cons (o := { dst := some 31, op := Go.Op.load 3 (Go.Operand.tmp 30), type := 3, pos := _, after := #[{ on := 0, ground := Go.Ground.data }], guard := none }) rfl (fun KK hKK => ?_) (AllReadyH.nil)
          have LC := A6.cells.2.2.1
          go_simp
          try go_simp
          refine hKK.out _ _ trivial (fun hHeld => ?_)
          clear hKK KK
          try simp only [Act.put, List.setIfInBounds_toArray, List.set_cons_zero, List.set_cons_succ]
          refine wpAnyH_take (i := 5) (oi := { dst := some 35, op := Go.Op.binOp Go.BinOp.add 3 (Go.Operand.tmp 31) (Go.Operand.tmp 34) 3, type := 3, pos := _, after := #[{ on := 1, ground := Go.Ground.data }, { on := 4, ground := Go.Ground.data }], guard := none }) (v := ?_) rfl (by kernel_rfl) (by kernel_rfl) (by kernel_rfl) (fun _ _ _ h => h) (Or.inl ⟨by rfl, ?_⟩) hHeld ?_
          rotate_left
          · (intro wq hSw; (try dsimp only at hSw); (try go_simp); (try with_reducible rfl))
          try simp only [Act.put, List.setIfInBounds_toArray, List.set_cons_zero, List.set_cons_succ]
          refine wpAnyH_take (i := 6) (oi := { dst := some 36, op := Go.Op.fieldAddr 29 (Go.Operand.tmp 3) 2, type := 0, pos := _, after := #[{ on := 0, ground := Go.Ground.phase }, { on := 1, ground := Go.Ground.phase }, { on := 2, ground := Go.Ground.phase }, { on := 3, ground := Go.Ground.phase }, { on := 4, ground := Go.Ground.phase }, { on := 5, ground := Go.Ground.phase }], guard := none }) (v := ?_) rfl (by kernel_rfl) (by kernel_rfl) (by kernel_rfl) (fun _ _ _ h => h) (Or.inl ⟨by rfl, ?_⟩) hHeld ?_
          rotate_left
          · (intro wq hSw; (try dsimp only at hSw); (try go_simp); (try with_reducible rfl))
          try simp only [Act.put, List.setIfInBounds_toArray, List.set_cons_zero, List.set_cons_succ]
          refine wpAnyH_ready (rs := [7]) (by kernel_rfl) (by simp) ?_
          refine AllReadyH.cons (o := { dst := none, op := Go.Op.store 3 (Go.Operand.tmp 36) (Go.Operand.tmp 35), type := 0, pos := _, after := #[{ on := 6, ground := Go.Ground.data }, { on := 5, ground := Go.Ground.data }, { on := 4, ground := Go.Ground.chain }, { on := 0, ground := Go.Ground.phase }, { on := 1, ground := Go.Ground.phase }, { on := 2, ground := Go.Ground.phase }, { on := 3, ground := Go.Ground.phase }, { on := 4, ground := Go.Ground.phase }, { on := 5, ground := Go.Ground.phase }], guard := none }) rfl (fun KK hKK => ?_) (AllReadyH.nil)
          go_simp
          try go_simp
          refine hKK.out _ _ trivial (fun hHeld => ?_)
          clear hKK KK
          try simp only [Act.put, List.setIfInBounds_toArray, List.set_cons_zero, List.set_cons_succ]
          refine wpAnyH_done (by kernel_rfl) ?_ _
          refine NoPanic.normal ?_
          clear C0 C1 C2 C3 C4 D0 D1 D2 D3 D4
          have A8 := A6.set2 (.int .i64 (b + x)); have Z8 := Z6.set_other (p := ⟨w.heap.size, 2, none⟩) (z := .int .i64 (b + x)) (by simp)
          obtain ⟨C0, C1, C2, C3, C4, _⟩ := A8.cells; obtain ⟨D0, D1, D2, D3, D4⟩ := A8.frozen; obtain ⟨E0, E1, E2, E3, E4, _⟩ := Z8.cells; obtain ⟨F0, F1, F2, F3, F4⟩ := Z8.frozen
          go_wp2_with fail
          obtain ⟨Zf, Gf, Rf, Kf⟩ := put5 (Z8) (grown_set G6 (p := ⟨w.heap.size, 2, none⟩) (Nat.le_refl _) (.int .i64 (b + x))) (R6.setNew (q := ⟨w.heap.size, 2, none⟩) (x := .int .i64 (b + x)) hr (Nat.le_refl _)) hr (Nat.le_succ _) (.int .i64 o) (.int .i64 a) (.int .i64 (b + x)) (.string nm) (.slice none 0 0)
          obtain ⟨r0, r1, r2, r3, r4, _⟩ := Zf.cells
          exact bodyPost_ret (v := .agg #[.int .i64 o, .int .i64 a, .int .i64 (b + x), .string nm, .slice none 0 0]) (by simp [results, Try.results29, go_sem, r0, r1, r2, r3, r4]) rfl ⟨.node o a (b + x) nm ([] : List Tm), _, D, rfl, TPX.out.on (kept_grownT Gf hgB), ⟨by simp only [Tm.op]; omega, by simp only [Tm.op]; omega, by simp only [Tm.a]; omega, by simp only [Tm.a]; omega, by simp only [Tm.b]; omega, by simp only [Tm.b]; omega, by simp only [Tm.nm]; exact Nat.le_trans n1 (Nat.le_refl _)⟩, HTD.out, Nat.zero_le _, by omega, Gf, Rf.le (by omega)⟩
    by_cases c3 : p = 3
    · subst c3
      clear O5 c0 c1 c2
      obtain ⟨C0, C1, C2, C3, C4, _⟩ := A5.cells; obtain ⟨D0, D1, D2, D3, D4⟩ := A5.frozen; obtain ⟨E0, E1, E2, E3, E4, _⟩ := Z5.cells; obtain ⟨F0, F1, F2, F3, F4⟩ := Z5.frozen
      go_wp2_with fail
      obtain ⟨Zf, Gf, Rf, Kf⟩ := put5 (Z5.set_other (p := ⟨w.heap.size, 3, none⟩) (z := .string ⟨#[113]⟩) (by simp)) (grown_set G5 (p := ⟨w.heap.size, 3, none⟩) (Nat.le_refl _) (.string ⟨#[113]⟩)) (R5.setNew (q := ⟨w.heap.size, 3, none⟩) (x := .string ⟨#[113]⟩) hr (Nat.le_refl _)) hr (Nat.le_succ _) (.int .i64 o) (.int .i64 a) (.int .i64 b) (.string ⟨#[113]⟩) (.slice none 0 0)
      obtain ⟨r0, r1, r2, r3, r4, _⟩ := Zf.cells
      exact bodyPost_ret (v := .agg #[.int .i64 o, .int .i64 a, .int .i64 b, .string ⟨#[113]⟩, .slice none 0 0]) (by simp [results, Try.results29, go_sem, r0, r1, r2, r3, r4]) rfl ⟨.node o a b ⟨#[113]⟩ ([] : List Tm), _, D, rfl, TPX.out.on (kept_grownT Gf hgB), ⟨by simp only [Tm.op]; omega, by simp only [Tm.op]; omega, by simp only [Tm.a]; omega, by simp only [Tm.a]; omega, by simp only [Tm.b]; omega, by simp only [Tm.b]; omega, Nat.le_refl 1⟩, HTD.out, Nat.zero_le _, by omega, Gf, Rf.le (by omega)⟩
    by_cases c4 : p = 4
    · subst c4
      clear c0 c1 c2 c3
      have A7 := A5.alloc (.cells #[.int .i64 24, .int .i64 0, .int .i64 0, .string ⟨#[]⟩, .slice none 0 0] 29); have Z7 := Z5.alloc (.cells #[.int .i64 24, .int .i64 0, .int .i64 0, .string ⟨#[]⟩, .slice none 0 0] 29); have G7 := grown_alloc G5 (.cells #[.int .i64 24, .int .i64 0, .int .i64 0, .string ⟨#[]⟩, .slice none 0 0] 29); have R7 := R5.alloc (.cells #[.int .i64 24, .int .i64 0, .int .i64 0, .string ⟨#[]⟩, .slice none 0 0] 29); have O7 := O5.out.alloc (.cells #[.int .i64 24, .int .i64 0, .int .i64 0, .string ⟨#[]⟩, .slice none 0 0] 29)
      have hrow := Lib.hid (own_row_ge O7)
      clear A5 Z5 G5 R5 O5
      go_wp2_with (at_builtin; refine wpList_append_lies _ rfl _ _ _ rfl (w.heap.size + 2) 29 i0 (.agg #[.int .i64 0, .int .i64 0, .int .i64 0, .string ⟨#[]⟩, .slice none 0 0]) 5 64 Try.underlying27 hi hz0 hz1 hz2 rfl (by omega) (.slice (some ⟨w.heap.size + 1 + 1, 0, none⟩) 0 0) 0 [] (by rfl) O7 ⟨w5.heap.size, 0, none⟩ 1 1 [.int .i64 24, .int .i64 0, .int .i64 0, .string ⟨#[]⟩, .slice none 0 0] (by rfl) rfl (World.news_of_block (heap_alloc_new _ _)) (by simp [Value.oneCell']) (by omega) (by unfold maxLen; omega) (by omega) (by simp; omega) _ rfl ?_)
      intro b2 cap2 w6 own6 hg6 hat6 hlt6
      have A6 := A7.growRow hg6 (fun e => by have := hrow.out _ e; omega)
      have Z6 := Z7.growRow hg6 (fun e => by have := hrow.out _ e; omega)
      have G6 := grown_new G7 hg6 (fun q hq => by have := hrow.out q hq; omega)
      have R6 := R7.growNew hr hg6 (fun q hq => by have := hrow.out q hq; omega)
      replace own6 := Lib.hid own6
      clear A7 Z7 G7 R7 O7 hg6 hat6 hrow
      obtain ⟨C0, C1, C2, C3, C4, _⟩ := A6.cells; obtain ⟨D0, D1, D2, D3, D4⟩ := A6.frozen; obtain ⟨E0, E1, E2, E3, E4, _⟩ := Z6.cells; obtain ⟨F0, F1, F2, F3, F4⟩ := Z6.frozen
      go_wp2_with fail
      obtain ⟨Zf, Gf, Rf, Kf⟩ := put5 (Z6.set_other (p := ⟨w.heap.size, 4, none⟩) (z := .slice (some ⟨b2, 0, none⟩) 1 cap2) (by simp)) (grown_set G6 (p := ⟨w.heap.size, 4, none⟩) (Nat.le_refl _) (.slice (some ⟨b2, 0, none⟩) 1 cap2)) (R6.setNew (q := ⟨w.heap.size, 4, none⟩) (x := .slice (some ⟨b2, 0, none⟩) 1 cap2) hr (Nat.le_refl _)) hr (Nat.le_succ _) (.int .i64 o) (.int .i64 a) (.int .i64 b) (.string nm) (.slice (some ⟨b2, 0, none⟩) 1 cap2)
      have Kx : Kept (w.heap.size + 2) w6 (w6.setCell ⟨w.heap.size, 4, none⟩ (.slice (some ⟨b2, 0, none⟩) 1 cap2)) := kept_set (Kept.refl _ _) (p := ⟨w.heap.size, 4, none⟩) (by simp) _
      have ownf := own_kept own6.out (Kx.trans Kf) (Nat.le_refl _)
      have ownf2 := ownf
      have tf := topOwn (B := B) (d := 0) (ks := []) (u := .node 24 0 0 ⟨#[]⟩ []) (S := fun _ => undef) (s := .slice none 0 0) (by rw [tflat_nil]; exact ownf2) (by omega) (fun i hi => absurd hi (Nat.not_lt_zero _)) (fun w' _ => sIn_nil 0 w')
      obtain ⟨r0, r1, r2, r3, r4, _⟩ := Zf.cells
      exact bodyPost_ret (v := .agg #[.int .i64 o, .int .i64 a, .int .i64 b, .string nm, .slice (some ⟨b2, 0, none⟩) 1 cap2]) (by simp [results, Try.results29, go_sem, r0, r1, r2, r3, r4]) rfl ⟨.node o a b nm [Tm.node 24 0 0 ⟨#[]⟩ []], _, 1, rfl, tf, ⟨by simp only [Tm.op]; omega, by simp only [Tm.op]; omega, by simp only [Tm.a]; omega, by simp only [Tm.a]; omega, by simp only [Tm.b]; omega, by simp only [Tm.b]; omega, by simp only [Tm.nm]; exact Nat.le_trans n1 (Nat.le_refl _)⟩, td_one tOk_true (td_nil 0), by simp [Tm.ks], by omega, Gf, Rf.le (by omega)⟩
    by_cases c5 : p = 5
    · subst c5
      clear O5 c0 c1 c2 c3 c4
      have TX : TopX B w.heap.size D w5 (.slice none 0 0) ([] : List Tm) := Top.x TPX.out (kept_grownT G5 hgB) (Nat.le_refl _)
      go_wp2_with fail
      go_loopw [6] (fun i wr => ∃ (k : Nat) (u : Tm) (s' : Value), i = .int .i64 k ∧ k ≤ 7 ∧ Blk5 wr w.heap.size (.int .i64 u.op) (.int .i64 u.a) (.int .i64 u.b) (.string u.nm) s' 29 ∧ TopX B w.heap.size (D + k) wr s' u.ks ∧ TOk u ∧ TD (D + k) u.ks ∧ u.ks.length ≤ 3 ∧ Blk5 wr (w.heap.size + 1) (.int .i64 0) (.int .i64 0) (.int .i64 0) (.string ⟨#[]⟩) (.slice none 0 0) 29 ∧ w.grownBy wr (some g) ∧ RdOk wr g v (P + 1) ∧ w.heap.size + 2 < wr.heap.size) (fun i _ => 7 - (intOf i).toNat)
      case atStart => exact ⟨0, .node o a b nm ([] : List Tm), _, rfl, by omega, A5, TX, OK.out, HTD.out, Nat.zero_le _, Z5, G5, R5, hs5⟩
      case round =>
        clear A5 Z5 G5 R5 hs5 TX OK HTD TPX
        obtain ⟨k, u, s', rfl, hk, A, TX, uok, utd, hul, Z, G, R, hs5⟩ := hrel
        obtain ⟨sa, sp, rfl⟩ := TX.top.form
        replace TX := Lib.hid TX; replace uok := Lib.hid uok; replace utd := Lib.hid utd
        by_cases hlt : k < 7
        · have hk1 : (k : Int) < 7 := by omega
          have A7 := A.alloc (.cells #[.int .i64 u.op, .int .i64 u.a, .int .i64 u.b, .string u.nm, .slice sa u.ks.length sp] 29)
          obtain ⟨C0, C1, C2, C3, C4, C5⟩ := A.cells; obtain ⟨D0, D1, D2, D3, D4⟩ := A7.frozen; obtain ⟨E0, E1, E2, E3, E4, _⟩ := A7.cells
          clear C5
          replace hs5 := Lib.hid hs5
          go_wp2_with fail
          replace hs5 := hs5.out
          clear C0 C1 C2 C3 C4 D0 D1 D2 D3 D4 E0 E1 E2 E3 E4
          have TX2 := (mkTopX 29 (TX.out.kx (TX.out.top.names utd.out)) (by omega) (by omega)).on (keptX_set (keptX_set (keptX_set (keptX_set (keptX_set (KeptX.refl B w.heap.size (wr.alloc (.cells #[.int .i64 u.op, .int .i64 u.a, .int .i64 u.b, .string u.nm, .slice sa u.ks.length sp] 29))) (q := ⟨w.heap.size, 0, none⟩) (.inl rfl) (.int .i64 25)) (q := ⟨w.heap.size, 1, none⟩) (.inl rfl) (.int .i64 0)) (q := ⟨w.heap.size, 2, none⟩) (.inl rfl) (.int .i64 0)) (q := ⟨w.heap.size, 3, none⟩) (.inl rfl) (.string ⟨#[]⟩)) (q := ⟨w.heap.size, 4, none⟩) (.inl rfl) (.slice (some ⟨wr.heap.size, 0, none⟩) 1 1))
          exact ⟨⟨k + 1, .node 25 0 0 ⟨#[]⟩ [u], .slice (some ⟨wr.heap.size, 0, none⟩) 1 1, by go_num, by omega, (((((A7.set0 (.int .i64 25)).set1 (.int .i64 0)).set2 (.int .i64 0)).set3 (.string ⟨#[]⟩)).set4 (.slice (some ⟨wr.heap.size, 0, none⟩) 1 1)), TX2, tOk_no u, td_one uok.out utd.out, by simp [Tm.ks], ((((((Z.alloc (.cells #[.int .i64 u.op, .int .i64 u.a, .int .i64 u.b, .string u.nm, .slice sa u.ks.length sp] 29)).set_other (p := ⟨w.heap.size, 0, none⟩) (z := .int .i64 25) (by simp)).set_other (p := ⟨w.heap.size, 1, none⟩) (z := .int .i64 0) (by simp)).set_other (p := ⟨w.heap.size, 2, none⟩) (z := .int .i64 0) (by simp)).set_other (p := ⟨w.heap.size, 3, none⟩) (z := .string ⟨#[]⟩) (by simp)).set_other (p := ⟨w.heap.size, 4, none⟩) (z := .slice (some ⟨wr.heap.size, 0, none⟩) 1 1) (by simp)), (grown_set (grown_set (grown_set (grown_set (grown_set (grown_alloc G (.cells #[.int .i64 u.op, .int .i64 u.a, .int .i64 u.b, .string u.nm, .slice sa u.ks.length sp] 29)) (p := ⟨w.heap.size, 0, none⟩) (Nat.le_refl _) (.int .i64 25)) (p := ⟨w.heap.size, 1, none⟩) (Nat.le_refl _) (.int .i64 0)) (p := ⟨w.heap.size, 2, none⟩) (Nat.le_refl _) (.int .i64 0)) (p := ⟨w.heap.size, 3, none⟩) (Nat.le_refl _) (.string ⟨#[]⟩)) (p := ⟨w.heap.size, 4, none⟩) (Nat.le_refl _) (.slice (some ⟨wr.heap.size, 0, none⟩) 1 1)), ((((((R.alloc (.cells #[.int .i64 u.op, .int .i64 u.a, .int .i64 u.b, .string u.nm, .slice sa u.ks.length sp] 29)).setNew (q := ⟨w.heap.size, 0, none⟩) (x := .int .i64 25) hr (Nat.le_refl _)).setNew (q := ⟨w.heap.size, 1, none⟩) (x := .int .i64 0) hr (Nat.le_refl _)).setNew (q := ⟨w.heap.size, 2, none⟩) (x := .int .i64 0) hr (Nat.le_refl _)).setNew (q := ⟨w.heap.size, 3, none⟩) (x := .string ⟨#[]⟩) hr (Nat.le_refl _)).setNew (q := ⟨w.heap.size, 4, none⟩) (x := .slice (some ⟨wr.heap.size, 0, none⟩) 1 1) hr (Nat.le_refl _)), by simp; omega⟩, by simp [intOf]; omega⟩
        · have hk7 : k = 7 := by omega
          subst hk7
          obtain ⟨C0, C1, C2, C3, C4, _⟩ := A.cells; obtain ⟨E0, E1, E2, E3, E4, _⟩ := Z.cells; obtain ⟨F0, F1, F2, F3, F4⟩ := Z.frozen
          go_wp2_with fail
          have tf := (TX.out.on (keptX_set (keptX_set (keptX_set (keptX_set (keptX_set (KeptX.refl B w.heap.size wr) (q := ⟨w.heap.size + 1, 0, none⟩) (.inr rfl) (.int .i64 u.op)) (q := ⟨w.heap.size + 1, 1, none⟩) (.inr rfl) (.int .i64 u.a)) (q := ⟨w.heap.size + 1, 2, none⟩) (.inr rfl) (.int .i64 u.b)) (q := ⟨w.heap.size + 1, 3, none⟩) (.inr rfl) (.string u.nm)) (q := ⟨w.heap.size + 1, 4, none⟩) (.inr rfl) (.slice sa u.ks.length sp))).top
          obtain ⟨Zf, Gf, Rf, Kf⟩ := put5 (Z) (G) (R) hr (Nat.le_succ _) (.int .i64 u.op) (.int .i64 u.a) (.int .i64 u.b) (.string u.nm) (.slice sa u.ks.length sp)
          obtain ⟨r0, r1, r2, r3, r4, _⟩ := Zf.cells
          exact bodyPost_ret (v := .agg #[.int .i64 u.op, .int .i64 u.a, .int .i64 u.b, .string u.nm, .slice sa u.ks.length sp]) (by simp [results, Try.results29, go_sem, r0, r1, r2, r3, r4]) rfl ⟨u, _, (D + 7), rfl, tf, (by have := uok.out; unfold TOk at this; unfold TK; omega), utd.out, by omega, by omega, Gf, Rf.le (by omega)⟩
    have d0 : (p == 0) = false := by simpa using c0
    have d1 : (p == 1) = false := by simpa using c1
    have d2 : (p == 2) = false := by simpa using c2
    have d3 : (p == 3) = false := by simpa using c3
    have d4 : (p == 4) = false := by simpa using c4
    have d5 : (p == 5) = false := by simpa using c5
    clear c0 c1 c2 c3 c4 c5 O5
    obtain ⟨C0, C1, C2, C3, C4, _⟩ := A5.cells; obtain ⟨D0, D1, D2, D3, D4⟩ := A5.frozen; obtain ⟨E0, E1, E2, E3, E4, _⟩ := Z5.cells; obtain ⟨F0, F1, F2, F3, F4⟩ := Z5.frozen
    go_wp2_with fail
    obtain ⟨Zf, Gf, Rf, Kf⟩ := put5 (Z5) (G5) (R5) hr (Nat.le_succ _) (.int .i64 o) (.int .i64 a) (.int .i64 b) (.string nm) (.slice none 0 0)
    obtain ⟨r0, r1, r2, r3, r4, _⟩ := Zf.cells
    exact bodyPost_ret (v := .agg #[.int .i64 o, .int .i64 a, .int .i64 b, .string nm, .slice none 0 0]) (by simp [results, Try.results29, go_sem, r0, r1, r2, r3, r4]) rfl ⟨.node o a b nm ([] : List Tm), _, D, rfl, TPX.out.on (kept_grownT Gf hgB), ⟨by simp only [Tm.op]; omega, by simp only [Tm.op]; omega, by simp only [Tm.a]; omega, by simp only [Tm.a]; omega, by simp only [Tm.b]; omega, by simp only [Tm.b]; omega, by simp only [Tm.nm]; exact Nat.le_trans n1 (Nat.le_refl _)⟩, HTD.out, Nat.zero_le _, by omega, Gf, Rf.le (by omega)⟩
  · have HS := Lib.hid hS
    have hnews : Hid (∀ j u, (tflat ks S)[j]? = some u → (((w.alloc (.cells #[.int .i64 o, .int .i64 a, .int .i64 b, .string nm, .slice (some ⟨bb, 0, none⟩) ks.length cap] 29)).alloc (.cells #[.int .i64 0, .int .i64 0, .int .i64 0, .string ⟨#[]⟩, .slice none 0 0] 29)).alloc (.cells #[] 29)).cell? ((⟨bb, 0, none⟩ : Addr).add j) = some u) := tflat_news (rowS_kept hR (((kept_allocT B w _).trans (kept_allocT B _ _)).trans (kept_allocT B _ _)) hb1)
    have hone := Lib.hid (tflat_one hS)
    clear hS hR
    have A0 : Blk5 (((w.alloc (.cells #[.int .i64 o, .int .i64 a, .int .i64 b, .string nm, .slice (some ⟨bb, 0, none⟩) ks.length cap] 29)).alloc (.cells #[.int .i64 0, .int .i64 0, .int .i64 0, .string ⟨#[]⟩, .slice none 0 0] 29)).alloc (.cells #[] 29)) w.heap.size (.int .i64 o) (.int .i64 a) (.int .i64 b) (.string nm) (.slice (some ⟨bb, 0, none⟩) ks.length cap) 29 := ((blk5_new w _ _ _ _ _ _).alloc _).alloc _
    have Z0 : Blk5 (((w.alloc (.cells #[.int .i64 o, .int .i64 a, .int .i64 b, .string nm, .slice (some ⟨bb, 0, none⟩) ks.length cap] 29)).alloc (.cells #[.int .i64 0, .int .i64 0, .int .i64 0, .string ⟨#[]⟩, .slice none 0 0] 29)).alloc (.cells #[] 29)) (w.heap.size + 1) (.int .i64 0) (.int .i64 0) (.int .i64 0) (.string ⟨#[]⟩) (.slice none 0 0) 29 := (blk5_new1 w _ _ _ _ _ _ _).alloc _
    have G0 : w.grownBy (((w.alloc (.cells #[.int .i64 o, .int .i64 a, .int .i64 b, .string nm, .slice (some ⟨bb, 0, none⟩) ks.length cap] 29)).alloc (.cells #[.int .i64 0, .int .i64 0, .int .i64 0, .string ⟨#[]⟩, .slice none 0 0] 29)).alloc (.cells #[] 29)) (some g) := grown_alloc (grown_alloc (World.grownBy_alloc _ _ _) _) _
    have R0 : RdOk (((w.alloc (.cells #[.int .i64 o, .int .i64 a, .int .i64 b, .string nm, .slice (some ⟨bb, 0, none⟩) ks.length cap] 29)).alloc (.cells #[.int .i64 0, .int .i64 0, .int .i64 0, .string ⟨#[]⟩, .slice none 0 0] 29)).alloc (.cells #[] 29)) g v P := ((hr.alloc _).alloc _).alloc _
    have O0 : (((w.alloc (.cells #[.int .i64 o, .int .i64 a, .int .i64 b, .string nm, .slice (some ⟨bb, 0, none⟩) ks.length cap] 29)).alloc (.cells #[.int .i64 0, .int .i64 0, .int .i64 0, .string ⟨#[]⟩, .slice none 0 0] 29)).alloc (.cells #[] 29)).ownsRow (w.heap.size + 2) 29 5 (.slice (some ⟨w.heap.size + 1 + 1, 0, none⟩) 0 0) 0 [] := by
      have := World.ownsRow_lit (base := w.heap.size + 2) (e := 29) (size := 5) ((w.alloc (.cells #[.int .i64 o, .int .i64 a, .int .i64 b, .string nm, .slice (some ⟨bb, 0, none⟩) ks.length cap] 29)).alloc (.cells #[.int .i64 0, .int .i64 0, .int .i64 0, .string ⟨#[]⟩, .slice none 0 0] 29)) #[] 0 (by simp) (Nat.zero_le _) rfl
      simpa using this
    go_enter Try.func29, Try.ntmps29
    obtain ⟨C0, C1, C2, C3, C4, _⟩ := A0.cells
    go_wp2_with (at_builtin; refine wpList_append_own _ rfl _ _ _ rfl (w.heap.size + 2) 29 i0 (.agg #[.int .i64 0, .int .i64 0, .int .i64 0, .string ⟨#[]⟩, .slice none 0 0]) 5 64 Try.underlying27 hi hz0 hz1 hz2 rfl (by omega) (.slice (some ⟨w.heap.size + 1 + 1, 0, none⟩) 0 0) 0 [] (by rfl) O0 ⟨bb, 0, none⟩ ks.length cap (tflat ks S) (by rfl) (tflat_len ks S) hnews.out hone.out (by unfold maxLen; omega) (by omega) (by simp) ?_)
    intro y w4 own4 hg4 hy4
    have hrow := own_row_ge O0
    have A := A0.growRow hg4 (fun e => by have := hrow _ e; omega)
    have Z := Z0.growRow hg4 (fun e => by have := hrow _ e; omega)
    have G := grown_new G0 hg4 (fun j hj => by have := hrow j hj; omega)
    have R := R0.growNew hr hg4 (fun j hj => by have := hrow j hj; omega)
    have OWN : w4.ownsRow (w.heap.size + 2) 29 5 y ks.length (tflat ks S) := by simpa using own4
    have hs4 : w.heap.size + 2 < w4.heap.size := by have := hg4.size; simp at this; omega
    clear A0 Z0 G0 R0 O0 own4 hg4 hy4 hrow hnews hone C0 C1 C2 C3 C4
    go_wp2_with fail
    refine (pick_any g _ v 60 _ R (by omega)).mono ?_
    rintro e w5 ⟨p, rfl, p0, p1, _, hg5, R5⟩
    have A5 := A.keepG hg5 hne; have Z5 := Z.keepG hg5 hne1; have G5 := grown_two G hg5; have O5 := Lib.hid (own_grown OWN hg5 (by omega))
    have hs5 : w.heap.size + 2 < w5.heap.size := by have := hg5.size; omega
    clear hg5 A Z G R OWN p1
    clear hb1 hb2
    by_cases c0 : p = 0
    · subst c0
      have A7 := A5.alloc (.cells #[.int .i64 0, .int .i64 18, .int .i64 28, .int .i64 3, .int .i64 16, .int .i64 25] 3); have Z7 := Z5.alloc (.cells #[.int .i64 0, .int .i64 18, .int .i64 28, .int .i64 3, .int .i64 16, .int .i64 25] 3); have G7 := grown_alloc G5 (.cells #[.int .i64 0, .int .i64 18, .int .i64 28, .int .i64 3, .int .i64 16, .int .i64 25] 3); have R7 := R5.alloc (.cells #[.int .i64 0, .int .i64 18, .int .i64 28, .int .i64 3, .int .i64 16, .int .i64 25] 3)
      clear O5 A5 Z5 G5 R5
      go_wp2_with fail
      refine (num_in (fun x => 0 ≤ x ∧ x ≤ 40) g _ v w5.heap.size 6 6 _ R7 (by omega) (by omega) (by omega) (by omega) (new_ints_in w5 (fun x => 0 ≤ x ∧ x ≤ 40) [0, 18, 28, 3, 16, 25] 3 (by simp))).mono ?_
      rintro e w6 ⟨_, rfl, ⟨x, rfl, x0, x1⟩, hg6, R6⟩
      have A6 := A7.keepG hg6 hne; have Z6 := Z7.keepG hg6 hne1; have G6 := grown_two G7 hg6; clear hg6 A7 Z7 G7 R7
      obtain ⟨C0, C1, C2, C3, C4, _⟩ := A6.cells; obtain ⟨D0, D1, D2, D3, D4⟩ := A6.frozen; obtain ⟨E0, E1, E2, E3, E4, _⟩ := Z6.cells; obtain ⟨F0, F1, F2, F3, F4⟩ := Z6.frozen
      go_wp2_with fail
      obtain ⟨Zf, Gf, Rf, Kf⟩ := put5 (Z6.set_other (p := ⟨w.heap.size, 0, none⟩) (z := .int .i64 x) (by simp)) (grown_set G6 (p := ⟨w.heap.size, 0, none⟩) (Nat.le_refl _) (.int .i64 x)) (R6.setNew (q := ⟨w.heap.size, 0, none⟩) (x := .int .i64 x) hr (Nat.le_refl _)) hr (Nat.le_succ _) (.int .i64 x) (.int .i64 a) (.int .i64 b) (.string nm) (.slice (some ⟨bb, 0, none⟩) ks.length cap)
      obtain ⟨r0, r1, r2, r3, r4, _⟩ := Zf.cells
      exact bodyPost_ret (v := .agg #[.int .i64 x, .int .i64 a, .int .i64 b, .string nm, .slice (some ⟨bb, 0, none⟩) ks.length cap]) (by simp [results, Try.results29, go_sem, r0, r1, r2, r3, r4]) rfl ⟨.node x a b nm ks, _, (d + 1), rfl, TPX.out.on (kept_grownT Gf hgB), ⟨by simp only [Tm.op]; omega, by simp only [Tm.op]; omega, by simp only [Tm.a]; omega, by simp only [Tm.a]; omega, by simp only [Tm.b]; omega, by simp only [Tm.b]; omega, by simp only [Tm.nm]; exact Nat.le_trans n1 (Nat.le_refl _)⟩, HTD.out, Nat.le_trans hl (by omega), by omega, Gf, Rf.le (by omega)⟩
    by_cases c1 : p = 1
    · subst c1
      clear O5 c0
      have A7 := (A5.drewX).alloc (.cells #[.int .i64 1, .int .i64 (-1)] 3); have Z7 := (Z5.drewX).alloc (.cells #[.int .i64 1, .int .i64 (-1)] 3); have G7 := grown_alloc (grown_drew G5) (.cells #[.int .i64 1, .int .i64 (-1)] 3); have R7 := (R5.drew).alloc (.cells #[.int .i64 1, .int .i64 (-1)] 3)
      go_upto_region 6 with fail
      refine wp_region_noPanic ?_
      refine wp_region_held_drew (S := fun _ => True) (by kernel_rfl) trivial (fun hHeld => ?_)
      refine wpAnyH_take (i := 0) (oi := { dst := some 21, op := Go.Op.fieldAddr 29 (Go.Operand.tmp 3) 1, type := 0, pos := _, after := #[], guard := none }) (v := ?_) rfl (by kernel_rfl) (by kernel_rfl) (by kernel_rfl) (fun _ _ _ h => h) (Or.inl ⟨by rfl, ?_⟩) hHeld ?_
      rotate_left
      · (intro wq hSw; (try dsimp only at hSw); (try go_simp); (try with_reducible rfl))
      try simp only [Act.put, List.setIfInBounds_toArray, List.set_cons_zero, List.set_cons_succ]
      refine wpAnyH_take (i := 2) (oi := { dst := some 23, op := Go.Op.move (Go.Operand.tmp 0), type := 51, pos := _, after := #[], guard := none }) (v := ?_) rfl (by kernel_rfl) (by kernel_rfl) (by kernel_rfl) (fun _ _ _ h => h) (Or.inl ⟨by rfl, ?_⟩) hHeld ?_
      rotate_left
      · (intro wq hSw; (try dsimp only at hSw); (try go_simp); (try with_reducible rfl))
      try simp only [Act.put, List.setIfInBounds_toArray, List.set_cons_zero, List.set_cons_succ]
      refine wpAnyH_ready (rs := [1, 3]) (by kernel_rfl) (by simp) ?_
      refine AllReadyH.cons (o := { dst := some 22, op := Go.Op.load 3 (Go.Operand.tmp 21), type := 3, pos := _, after := #[{ on := 0, ground := Go.Ground.data }], guard := none }) rfl (fun KK hKK => ?_) (AllReadyH.cons (o := { dst := some 24, op := Go.Op.buildSlice 64 2 #[(0, Go.Operand.const (Go.Value.int Go.IntKind.i64 1)), (1, Go.Operand.const (Go.Value.int Go.IntKind.i64 (-1)))], type := 64, pos := _, after := #[], guard := none }) rfl (fun KK hKK => ?_) (AllReadyH.nil))
      · skip
        have LC := A5.drewX.cells.2.1
        go_simp
        try go_simp
        refine hKK.out _ _ trivial (fun hHeld => ?_)
        clear hKK KK
        try simp only [Act.put, List.setIfInBounds_toArray, List.set_cons_zero, List.set_cons_succ]
        refine wpAnyH_ready (rs := [3]) (by kernel_rfl) (by simp) ?_
        refine AllReadyH.cons (o := { dst := some 24, op := Go.Op.buildSlice 64 2 #[(0, Go.Operand.const (Go.Value.int Go.IntKind.i64 1)), (1, Go.Operand.const (Go.Value.int Go.IntKind.i64 (-1)))], type := 64, pos := _, after := #[], guard := none }) rfl (fun KK hKK => ?_) (AllReadyH.nil)
        go_simp
        try go_simp
        refine hKK.out _ _ trivial (fun hHeld => ?_)
        clear hKK KK
        try simp only [Act.put, List.setIfInBounds_toArray, List.set_cons_zero, List.set_cons_succ]
        refine wpAnyH_ready (rs := [4]) (by kernel_rfl) (by simp) ?_
        refine AllReadyH.cons (o := { dst := some 25, op := Go.Op.call { callee := Go.Callee.value (Go.Operand.func 34), args := #[Go.Operand.tmp 23, Go.Operand.tmp 24], argTypes := #[51, 64] }, type := 3, pos := _, after := #[{ on := 2, ground := Go.Ground.data }, { on := 3, ground := Go.Ground.data }], guard := none }) rfl (fun KK hKK => ?_) (AllReadyH.nil)
        go_simp
        go_at_call 34
        refine (num_in (fun x => -16 ≤ x ∧ x ≤ 16) g _ v w5.heap.size 2 2 _ R7 (by omega) (by omega) (by omega) (by omega) (new_ints_in w5.drew (fun x => -16 ≤ x ∧ x ≤ 16) [1, -1] 3 (by simp))).mono ?_
        rintro e w6 ⟨_, rfl, ⟨x, rfl, x0, x1⟩, hg6, R6⟩
        have A6 := A7.keepG hg6 hne; have Z6 := Z7.keepG hg6 hne1; have G6 := grown_two G7 hg6; clear hg6 A7 Z7 G7 R7
        have hsum : IntKind.i64.wrap (a + x) = a + x := IntWalk.i64_in _ (by omega)
        obtain ⟨D0, D1, D2, D3, D4⟩ := A6.frozen
        obtain ⟨C0, C1, C2, C3, C4, _⟩ := A6.cells
        try go_simp
        refine hKK.out _ _ trivial (fun hHeld => ?_)
        clear hKK KK
        try simp only [Act.put, List.setIfInBounds_toArray, List.set_cons_zero, List.set_cons_succ]
        refine wpAnyH_take (i := 5) (oi := { dst := some 26, op := Go.Op.binOp Go.BinOp.add 3 (Go.Operand.tmp 22) (Go.Operand.tmp 25) 3, type := 3, pos := _, after := #[{ on := 1, ground := Go.Ground.data }, { on := 4, ground := Go.Ground.data }], guard := none }) (v := ?_) rfl (by kernel_rfl) (by kernel_rfl) (by kernel_rfl) (fun _ _ _ h => h) (Or.inl ⟨by rfl, ?_⟩) hHeld ?_
        rotate_left
        · (intro wq hSw; (try dsimp only at hSw); (try go_simp); (try with_reducible rfl))
        try simp only [Act.put, List.setIfInBounds_toArray, List.set_cons_zero, List.set_cons_succ]
        refine wpAnyH_take (i := 6) (oi := { dst := some 27, op := Go.Op.fieldAddr 29 (Go.Operand.tmp 3) 1, type := 0, pos := _, after := #[{ on := 0, ground := Go.Ground.phase }, { on := 1, ground := Go.Ground.phase }, { on := 2, ground := Go.Ground.phase }, { on := 3, ground := Go.Ground.phase }, { on := 4, ground := Go.Ground.phase }, { on := 5, ground := Go.Ground.phase }], guard := none }) (v := ?_) rfl (by kernel_rfl) (by kernel_rfl) (by kernel_rfl) (fun _ _ _ h => h) (Or.inl ⟨by rfl, ?_⟩) hHeld ?_
        rotate_left
        · (intro wq hSw; (try dsimp only at hSw); (try go_simp); (try with_reducible rfl))
        try simp only [Act.put, List.setIfInBounds_toArray, List.set_cons_zero, List.set_cons_succ]
        refine wpAnyH_ready (rs := [7]) (by kernel_rfl) (by simp) ?_
        refine AllReadyH.cons (o := { dst := none, op := Go.Op.store 3 (Go.Operand.tmp 27) (Go.Operand.tmp 26), type := 0, pos := _, after := #[{ on := 6, ground := Go.Ground.data }, { on := 5, ground := Go.Ground.data }, { on := 4, ground := Go.Ground.chain }, { on := 0, ground := Go.Ground.phase }, { on := 1, ground := Go.Ground.phase }, { on := 2, ground := Go.Ground.phase }, { on := 3, ground := Go.Ground.phase }, { on := 4, ground := Go.Ground.phase }, { on := 5, ground := Go.Ground.phase }], guard := none }) rfl (fun KK hKK => ?_) (AllReadyH.nil)
        go_simp
        try go_simp
        refine hKK.out _ _ trivial (fun hHeld => ?_)
        clear hKK KK
        try simp only [Act.put, List.setIfInBounds_toArray, List.set_cons_zero, List.set_cons_succ]
        refine wpAnyH_done (by kernel_rfl) ?_ _
        refine NoPanic.normal ?_
        clear C0 C1 C2 C3 C4 D0 D1 D2 D3 D4
        have A8 := A6.set1 (.int .i64 (a + x)); have Z8 := Z6.set_other (p := ⟨w.heap.size, 1, none⟩) (z := .int .i64 (a + x)) (by simp)
        obtain ⟨C0, C1, C2, C3, C4, _⟩ := A8.cells; obtain ⟨D0, D1, D2, D3, D4⟩ := A8.frozen; obtain ⟨E0, E1, E2, E3, E4, _⟩ := Z8.cells; obtain ⟨F0, F1, F2, F3, F4⟩ := Z8.frozen
        go_wp2_with fail
        obtain ⟨Zf, Gf, Rf, Kf⟩ := put5 (Z8) (grown_set G6 (p := ⟨w.heap.size, 1, none⟩) (Nat.le_refl _) (.int .i64 (a + x))) (R6.setNew (q := ⟨w.heap.size, 1, none⟩) (x := .int .i64 (a + x)) hr (Nat.le_refl _)) hr (Nat.le_succ _) (.int .i64 o) (.int .i64 (a + x)) (.int .i64 b) (.string nm) (.slice (some ⟨bb, 0, none⟩) ks.length cap)
        obtain ⟨r0, r1, r2, r3, r4, _⟩ := Zf.cells
        exact bodyPost_ret (v := .agg #[.int .i64 o, .int .i64 (a + x), .int .i64 b, .string nm, .slice (some ⟨bb, 0, none⟩) ks.length cap]) (by simp [results, Try.results29, go_sem, r0, r1, r2, r3, r4]) rfl ⟨.node o (a + x) b nm ks, _, (d + 1), rfl, TPX.out.on (kept_grownT Gf hgB), ⟨by simp only [Tm.op]; omega, by simp only [Tm.op]; omega, by simp only [Tm.a]; omega, by simp only [Tm.a]; omega, by simp only [Tm.b]; omega, by simp only [Tm.b]; omega, by simp only [Tm.nm]; exact Nat.le_trans n1 (Nat.le_refl _)⟩, HTD.out, Nat.le_trans hl (by omega), by omega, Gf, Rf.le (by omega)⟩
      · skip
        go_simp
        try go_simp
        refine hKK.out _ _ trivial (fun hHeld => ?_)
        clear hKK KK
        try simp only [Act.put, List.setIfInBounds_toArray, List.set_cons_zero, List.set_cons_succ]
        refine wpAnyH_ready (rs := [1, 4]) (by kernel_rfl) (by simp) ?_
        refine AllReadyH.cons (o := { dst := some 22, op := Go.Op.load 3 (Go.Operand.tmp 21), type := 3, pos := _, after := #[{ on := 0, ground := Go.Ground.data }], guard := none }) rfl (fun KK hKK => ?_) (AllReadyH.cons (o := { dst := some 25, op := Go.Op.call { callee := Go.Callee.value (Go.Operand.func 34), args := #[Go.Operand.tmp 23, Go.Operand.tmp 24], argTypes := #[51, 64] }, type := 3, pos := _, after := #[{ on := 2, ground := Go.Ground.data }, { on := 3, ground := Go.Ground.data }], guard := none }) rfl (fun KK hKK => ?_) (AllReadyH.nil))
        · skip
          have LC := (A5.alloc (.cells #[.int .i64 1, .int .i64 (-1)] 3)).cells.2.1
          go_simp
          try go_simp
          refine hKK.out _ _ trivial (fun hHeld => ?_)
          clear hKK KK
          try simp only [Act.put, List.setIfInBounds_toArray, List.set_cons_zero, List.set_cons_succ]
          refine wpAnyH_ready (rs := [4]) (by kernel_rfl) (by simp) ?_
          refine AllReadyH.cons (o := { dst := some 25, op := Go.Op.call { callee := Go.Callee.value (Go.Operand.func 34), args := #[Go.Operand.tmp 23, Go.Operand.tmp 24], argTypes := #[51, 64] }, type := 3, pos := _, after := #[{ on := 2, ground := Go.Ground.data }, { on := 3, ground := Go.Ground.data }], guard := none }) rfl (fun KK hKK => ?_) (AllReadyH.nil)
          go_simp
          go_at_call 34
          refine (num_in (fun x => -16 ≤ x ∧ x ≤ 16) g _ v w5.heap.size 2 2 _ R7 (by omega) (by omega) (by omega) (by omega) (new_ints_in w5.drew (fun x => -16 ≤ x ∧ x ≤ 16) [1, -1] 3 (by simp))).mono ?_
          rintro e w6 ⟨_, rfl, ⟨x, rfl, x0, x1⟩, hg6, R6⟩
          have A6 := A7.keepG hg6 hne; have Z6 := Z7.keepG hg6 hne1; have G6 := grown_two G7 hg6; clear hg6 A7 Z7 G7 R7
          have hsum : IntKind.i64.wrap (a + x) = a + x := IntWalk.i64_in _ (by omega)
          obtain ⟨D0, D1, D2, D3, D4⟩ := A6.frozen
          obtain ⟨C0, C1, C2, C3, C4, _⟩ := A6.cells
          try go_simp
          refine hKK.out _ _ trivial (fun hHeld => ?_)
          clear hKK KK
          try simp only [Act.put, List.setIfInBounds_toArray, List.set_cons_zero, List.set_cons_succ]
          refine wpAnyH_take (i := 5) (oi := { dst := some 26, op := Go.Op.binOp Go.BinOp.add 3 (Go.Operand.tmp 22) (Go.Operand.tmp 25) 3, type := 3, pos := _, after := #[{ on := 1, ground := Go.Ground.data }, { on := 4, ground := Go.Ground.data }], guard := none }) (v := ?_) rfl (by kernel_rfl) (by kernel_rfl) (by kernel_rfl) (fun _ _ _ h => h) (Or.inl ⟨by rfl, ?_⟩) hHeld ?_
          rotate_left
          · (intro wq hSw; (try dsimp only at hSw); (try go_simp); (try with_reducible rfl))
          try simp only [Act.put, List.setIfInBounds_toArray, List.set_cons_zero, List.set_cons_succ]
          refine wpAnyH_take (i := 6) (oi := { dst := some 27, op := Go.Op.fieldAddr 29 (Go.Operand.tmp 3) 1, type := 0, pos := _, after := #[{ on := 0, ground := Go.Ground.phase }, { on := 1, ground := Go.Ground.phase }, { on := 2, ground := Go.Ground.phase }, { on := 3, ground := Go.Ground.phase }, { on := 4, ground := Go.Ground.phase }, { on := 5, ground := Go.Ground.phase }], guard := none }) (v := ?_) rfl (by kernel_rfl) (by kernel_rfl) (by kernel_rfl) (fun _ _ _ h => h) (Or.inl ⟨by rfl, ?_⟩) hHeld ?_
          rotate_left
          · (intro wq hSw; (try dsimp only at hSw); (try go_simp); (try with_reducible rfl))
          try simp only [Act.put, List.setIfInBounds_toArray, List.set_cons_zero, List.set_cons_succ]
          refine wpAnyH_ready (rs := [7]) (by kernel_rfl) (by simp) ?_
          refine AllReadyH.cons (o := { dst := none, op := Go.Op.store 3 (Go.Operand.tmp 27) (Go.Operand.tmp 26), type := 0, pos := _, after := #[{ on := 6, ground := Go.Ground.data }, { on := 5, ground := Go.Ground.data }, { on := 4, ground := Go.Ground.chain }, { on := 0, ground := Go.Ground.phase }, { on := 1, ground := Go.Ground.phase }, { on := 2, ground := Go.Ground.phase }, { on := 3, ground := Go.Ground.phase }, { on := 4, ground := Go.Ground.phase }, { on := 5, ground := Go.Ground.phase }], guard := none }) rfl (fun KK hKK => ?_) (AllReadyH.nil)
          go_simp
          try go_simp
          refine hKK.out _ _ trivial (fun hHeld => ?_)
          clear hKK KK
          try simp only [Act.put, List.setIfInBounds_toArray, List.set_cons_zero, List.set_cons_succ]
          refine wpAnyH_done (by kernel_rfl) ?_ _
          refine NoPanic.normal ?_
          clear C0 C1 C2 C3 C4 D0 D1 D2 D3 D4
          have A8 := A6.set1 (.int .i64 (a + x)); have Z8 := Z6.set_other (p := ⟨w.heap.size, 1, none⟩) (z := .int .i64 (a + x)) (by simp)
          obtain ⟨C0, C1, C2, C3, C4, _⟩ := A8.cells; obtain ⟨D0, D1, D2, D3, D4⟩ := A8.frozen; obtain ⟨E0, E1, E2, E3, E4, _⟩ := Z8.cells; obtain ⟨F0, F1, F2, F3, F4⟩ := Z8.frozen
          go_wp2_with fail
          obtain ⟨Zf, Gf, Rf, Kf⟩ := put5 (Z8) (grown_set G6 (p := ⟨w.heap.size, 1, none⟩) (Nat.le_refl _) (.int .i64 (a + x))) (R6.setNew (q := ⟨w.heap.size, 1, none⟩) (x := .int .i64 (a + x)) hr (Nat.le_refl _)) hr (Nat.le_succ _) (.int .i64 o) (.int .i64 (a + x)) (.int .i64 b) (.string nm) (.slice (some ⟨bb, 0, none⟩) ks.length cap)
          obtain ⟨r0, r1, r2, r3, r4, _⟩ := Zf.cells
          exact bodyPost_ret (v := .agg #[.int .i64 o, .int .i64 (a + x), .int .i64 b, .string nm, .slice (some ⟨bb, 0, none⟩) ks.length cap]) (by simp [results, Try.results29, go_sem, r0, r1, r2, r3, r4]) rfl ⟨.node o (a + x) b nm ks, _, (d + 1), rfl, TPX.out.on (kept_grownT Gf hgB), ⟨by simp only [Tm.op]; omega, by simp only [Tm.op]; omega, by simp only [Tm.a]; omega, by simp only [Tm.a]; omega, by simp only [Tm.b]; omega, by simp only [Tm.b]; omega, by simp only [Tm.nm]; exact Nat.le_trans n1 (Nat.le_refl _)⟩, HTD.out, Nat.le_trans hl (by omega), by omega, Gf, Rf.le (by omega)⟩
        · skip
          go_simp
          go_at_call 34
          refine (num_in (fun x => -16 ≤ x ∧ x ≤ 16) g _ v w5.heap.size 2 2 _ R7 (by omega) (by omega) (by omega) (by omega) (new_ints_in w5.drew (fun x => -16 ≤ x ∧ x ≤ 16) [1, -1] 3 (by simp))).mono ?_
          rintro e w6 ⟨_, rfl, ⟨x, rfl, x0, x1⟩, hg6, R6⟩
          have A6 := A7.keepG hg6 hne; have Z6 := Z7.keepG hg6 hne1; have G6 := grown_two G7 hg6; clear hg6 A7 Z7 G7 R7
          have hsum : IntKind.i64.wrap (a + x) = a + x := IntWalk.i64_in _ (by omega)
          obtain ⟨D0, D1, D2, D3, D4⟩ := A6.frozen
          obtain ⟨C0, C1, C2, C3, C4, _⟩ := A6.cells
          try go_simp
          refine hKK.out _ _ trivial (fun hHeld => ?_)
          clear hKK KK
          try simp only [Act.put, List.setIfInBounds_toArray, List.set_cons_zero, List.set_cons_succ]
          refine wpAnyH_ready (rs := [1]) (by kernel_rfl) (by simp) ?_
          refine AllReadyH.cons (o := { dst := some 22, op := Go.Op.load 3 (Go.Operand.tmp 21), type := 3, pos := _, after := #[{ on := 0, ground := Go.Ground.data }], guard := none }) rfl (fun KK hKK => ?_) (AllReadyH.nil)
          have LC := A6.cells.2.1
          go_simp
          try go_simp
          refine hKK.out _ _ trivial (fun hHeld => ?_)
          clear hKK KK
          try simp only [Act.put, List.setIfInBounds_toArray, List.set_cons_zero, List.set_cons_succ]
          refine wpAnyH_take (i := 5) (oi := { dst := some 26, op := Go.Op.binOp Go.BinOp.add 3 (Go.Operand.tmp 22) (Go.Operand.tmp 25) 3, type := 3, pos := _, after := #[{ on := 1, ground := Go.Ground.data }, { on := 4, ground := Go.Ground.data }], guard := none }) (v := ?_) rfl (by kernel_rfl) (by kernel_rfl) (by kernel_rfl) (fun _ _ _ h => h) (Or.inl ⟨by rfl, ?_⟩) hHeld ?_
          rotate_left
          · (intro wq hSw; (try dsimp only at hSw); (try go_simp); (try with_reducible rfl))
          try simp only [Act.put, List.setIfInBounds_toArray, List.set_cons_zero, List.set_cons_succ]
          refine wpAnyH_take (i := 6) (oi := { dst := some 27, op := Go.Op.fieldAddr 29 (Go.Operand.tmp 3) 1, type := 0, pos := _, after := #[{ on := 0, ground := Go.Ground.phase }, { on := 1, ground := Go.Ground.phase }, { on := 2, ground := Go.Ground.phase }, { on := 3, ground := Go.Ground.phase }, { on := 4, ground := Go.Ground.phase }, { on := 5, ground := Go.Ground.phase }], guard := none }) (v := ?_) rfl (by kernel_rfl) (by kernel_rfl) (by kernel_rfl) (fun _ _ _ h => h) (Or.inl ⟨by rfl, ?_⟩) hHeld ?_
          rotate_left
          · (intro wq hSw; (try dsimp only at hSw); (try go_simp); (try with_reducible rfl))
          try simp only [Act.put, List.setIfInBounds_toArray, List.set_cons_zero, List.set_cons_succ]
          refine wpAnyH_ready (rs := [7]) (by kernel_rfl) (by simp) ?_
          refine AllReadyH.cons (o := { dst := none, op := Go.Op.store 3 (Go.Operand.tmp 27) (Go.Operand.tmp 26), type := 0, pos := _, after := #[{ on := 6, ground := Go.Ground.data }, { on := 5, ground := Go.Ground.data }, { on := 4, ground := Go.Ground.chain }, { on := 0, ground := Go.Ground.phase }, { on := 1, ground := Go.Ground.phase }, { on := 2, ground := Go.Ground.phase }, { on := 3, ground := Go.Ground.phase }, { on := 4, ground := Go.Ground.phase }, { on := 5, ground := Go.Ground.phase }], guard := none }) rfl (fun KK hKK => ?_) (AllReadyH.nil)
          go_simp
          try go_simp
          refine hKK.out _ _ trivial (fun hHeld => ?_)
          clear hKK KK
          try simp only [Act.put, List.setIfInBounds_toArray, List.set_cons_zero, List.set_cons_succ]
          refine wpAnyH_done (by kernel_rfl) ?_ _
          refine NoPanic.normal ?_
          clear C0 C1 C2 C3 C4 D0 D1 D2 D3 D4
          have A8 := A6.set1 (.int .i64 (a + x)); have Z8 := Z6.set_other (p := ⟨w.heap.size, 1, none⟩) (z := .int .i64 (a + x)) (by simp)
          obtain ⟨C0, C1, C2, C3, C4, _⟩ := A8.cells; obtain ⟨D0, D1, D2, D3, D4⟩ := A8.frozen; obtain ⟨E0, E1, E2, E3, E4, _⟩ := Z8.cells; obtain ⟨F0, F1, F2, F3, F4⟩ := Z8.frozen
          go_wp2_with fail
          obtain ⟨Zf, Gf, Rf, Kf⟩ := put5 (Z8) (grown_set G6 (p := ⟨w.heap.size, 1, none⟩) (Nat.le_refl _) (.int .i64 (a + x))) (R6.setNew (q := ⟨w.heap.size, 1, none⟩) (x := .int .i64 (a + x)) hr (Nat.le_refl _)) hr (Nat.le_succ _) (.int .i64 o) (.int .i64 (a + x)) (.int .i64 b) (.string nm) (.slice (some ⟨bb, 0, none⟩) ks.length cap)
          obtain ⟨r0, r1, r2, r3, r4, _⟩ := Zf.cells
          exact bodyPost_ret (v := .agg #[.int .i64 o, .int .i64 (a + x), .int .i64 b, .string nm, .slice (some ⟨bb, 0, none⟩) ks.length cap]) (by simp [results, Try.results29, go_sem, r0, r1, r2, r3, r4]) rfl ⟨.node o (a + x) b nm ks, _, (d + 1), rfl, TPX.out.on (kept_grownT Gf hgB), ⟨by simp only [Tm.op]; omega, by simp only [Tm.op]; omega, by simp only [Tm.a]; omega, by simp only [Tm.a]; omega, by simp only [Tm.b]; omega, by simp only [Tm.b]; omega, by simp only [Tm.nm]; exact Nat.le_trans n1 (Nat.le_refl _)⟩, HTD.out, Nat.le_trans hl (by omega), by omega, Gf, Rf.le (by omega)⟩
    by_cases c2 : p = 2
    · subst c2
      clear O5 c0 c1
      have A7 := (A5.drewX).alloc (.cells #[.int .i64 1, .int .i64 (-1), .int .i64 16] 3); have Z7 := (Z5.drewX).alloc (.cells #[.int .i64 1, .int .i64 (-1), .int .i64 16] 3); have G7 := grown_alloc (grown_drew G5) (.cells #[.int .i64 1, .int .i64 (-1), .int .i64 16] 3); have R7 := (R5.drew).alloc (.cells #[.int .i64 1, .int .i64 (-1), .int .i64 16] 3)
      go_upto_region 8 with fail
      refine wp_region_noPanic ?_
      refine wp_region_held_drew (S := fun _ => True) (by kernel_rfl) trivial (fun hHeld => ?_)
      refine wpAnyH_take (i := 0) (oi := { dst := some 30, op := Go.Op.fieldAddr 29 (Go.Operand.tmp 3) 2, type := 0, pos := _, after := #[], guard := none }) (v := ?_) rfl (by kernel_rfl) (by kernel_rfl) (by kernel_rfl) (fun _ _ _ h => h) (Or.inl ⟨by rfl, ?_⟩) hHeld ?_
      rotate_left
      · (intro wq hSw; (try dsimp only at hSw); (try go_simp); (try with_reducible rfl))
      try simp only [Act.put, List.setIfInBounds_toArray, List.set_cons_zero, List.set_cons_succ]
      refine wpAnyH_take (i := 2) (oi := { dst := some 32, op := Go.Op.move (Go.Operand.tmp 0), type := 51, pos := _, after := #[], guard := none }) (v := ?_) rfl (by kernel_rfl) (by kernel_rfl) (by kernel_rfl) (fun _ _ _ h => h) (Or.inl ⟨by rfl, ?_⟩) hHeld ?_
      rotate_left
      · (intro wq hSw; (try dsimp only at hSw); (try go_simp); (try with_reducible rfl))
      try simp only [Act.put, List.setIfInBounds_toArray, List.set_cons_zero, List.set_cons_succ]
      refine wpAnyH_ready (rs := [1, 3]) (by kernel_rfl) (by simp) ?_
      refine AllReadyH.cons (o := { dst := some 31, op := Go.Op.load 3 (Go.Operand.tmp 30), type := 3, pos := _, after := #[{ on := 0, ground := Go.Ground.data }], guard := none }) rfl (fun KK hKK => ?_) (AllReadyH.cons (o := { dst := some 33, op := Go.Op.buildSlice 64 3 #[(0, Go.Operand.const (Go.Value.int Go.IntKind.i64 1)), (1, Go.Operand.const (Go.Value.int Go.IntKind.i64 (-1))), (2, Go.Operand.const (Go.Value.int Go.IntKind.i64 16))], type := 64, pos := _, after := #[], guard := none }) rfl (fun KK hKK => ?_) (AllReadyH.nil))
      · skip
        have LC := A5.drewX.cells.2.2.1
        go_simp
        try go_simp
        refine hKK.out _ _ trivial (fun hHeld => ?_)
        clear hKK KK
        try simp only [Act.put, List.setIfInBounds_toArray, List.set_cons_zero, List.set_cons_succ]
        refine wpAnyH_ready (rs := [3]) (by kernel_rfl) (by simp) ?_
        refine AllReadyH.cons (o := { dst := some 33, op := Go.Op.buildSlice 64 3 #[(0, Go.Operand.const (Go.Value.int Go.IntKind.i64 1)), (1, Go.Operand.const (Go.Value.int Go.IntKind.i64 (-1))), (2, Go.Operand.const (Go.Value.int Go.IntKind.i64 16))], type := 64, pos := _, after := #[], guard := none }) rfl (fun KK hKK => ?_) (AllReadyH.nil)
        go_simp
        try go_simp
        refine hKK.out _ _ trivial (fun hHeld => ?_)
        clear hKK KK
        try simp only [Act.put, List.setIfInBounds_toArray, List.set_cons_zero, List.set_cons_succ]
        refine wpAnyH_ready (rs := [4]) (by kernel_rfl) (by simp) ?_
        refine AllReadyH.cons (o := { dst := some 34, op := Go.Op.call { callee := Go.Callee.value (Go.Operand.func 34), args := #[Go.Operand.tmp 32, Go.Operand.tmp 33], argTypes := #[51, 64] }, type := 3, pos := _, after := #[{ on := 2, ground := Go.Ground.data }, { on := 3, ground := Go.Ground.data }], guard := none }) rfl (fun KK hKK => ?_) (AllReadyH.nil)
        go_simp
        go_at_call 34
        refine (num_in (fun x => -16 ≤ x ∧ x ≤ 16) g _ v w5.heap.size 3 3 _ R7 (by omega) (by omega) (by omega) (by omega) (new_ints_in w5.drew (fun x => -16 ≤ x ∧ x ≤ 16) [1, -1, 16] 3 (by simp))).mono ?_
        rintro e w6 ⟨_, rfl, ⟨x, rfl, x0, x1⟩, hg6, R6⟩
        have A6 := A7.keepG hg6 hne; have Z6 := Z7.keepG hg6 hne1; have G6 := grown_two G7 hg6; clear hg6 A7 Z7 G7 R7
        have hsum : IntKind.i64.wrap (b + x) = b + x := IntWalk.i64_in _ (by omega)
        obtain ⟨D0, D1, D2, D3, D4⟩ := A6.frozen
        obtain ⟨C0, C1, C2, C3, C4, _⟩ := A6.cells
        try go_simp
        refine hKK.out _ _ trivial (fun hHeld => ?_)
        clear hKK KK
        try simp only [Act.put, List.setIfInBounds_toArray, List.set_cons_zero, List.set_cons_succ]
        refine wpAnyH_take (i := 5) (oi := { dst := some 35, op := Go.Op.binOp Go.BinOp.add 3 (Go.Operand.tmp 31) (Go.Operand.tmp 34) 3, type := 3, pos := _, after := #[{ on := 1, ground := Go.Ground.data }, { on := 4, ground := Go.Ground.data }], guard := none }) (v := ?_) rfl (by kernel_rfl) (by kernel_rfl) (by kernel_rfl) (fun _ _ _ h => h) (Or.inl ⟨by rfl, ?_⟩) hHeld ?_
        rotate_left
        · (intro wq hSw; (try dsimp only at hSw); (try go_simp); (try with_reducible rfl))
        try simp only [Act.put, List.setIfInBounds_toArray, List.set_cons_zero, List.set_cons_succ]
        refine wpAnyH_take (i := 6) (oi := { dst := some 36, op := Go.Op.fieldAddr 29 (Go.Operand.tmp 3) 2, type := 0, pos := _, after := #[{ on := 0, ground := Go.Ground.phase }, { on := 1, ground := Go.Ground.phase }, { on := 2, ground := Go.Ground.phase }, { on := 3, ground := Go.Ground.phase }, { on := 4, ground := Go.Ground.phase }, { on := 5, ground := Go.Ground.phase }], guard := none }) (v := ?_) rfl (by kernel_rfl) (by kernel_rfl) (by kernel_rfl) (fun _ _ _ h => h) (Or.inl ⟨by rfl, ?_⟩) hHeld ?_
        rotate_left
        · (intro wq hSw; (try dsimp only at hSw); (try go_simp); (try with_reducible rfl))
        try simp only [Act.put, List.setIfInBounds_toArray, List.set_cons_zero, List.set_cons_succ]
        refine wpAnyH_ready (rs := [7]) (by kernel_rfl) (by simp) ?_
        refine AllReadyH.cons (o := { dst := none, op := Go.Op.store 3 (Go.Operand.tmp 36) (Go.Operand.tmp 35), type := 0, pos := _, after := #[{ on := 6, ground := Go.Ground.data }, { on := 5, ground := Go.Ground.data }, { on := 4, ground := Go.Ground.chain }, { on := 0, ground := Go.Ground.phase }, { on := 1, ground := Go.Ground.phase }, { on := 2, ground := Go.Ground.phase }, { on := 3, ground := Go.Ground.phase }, { on := 4, ground := Go.Ground.phase }, { on := 5, ground := Go.Ground.phase }], guard := none }) rfl (fun KK hKK => ?_) (AllReadyH.nil)
        go_simp
        try go_simp
        refine hKK.out _ _ trivial (fun hHeld => ?_)
        clear hKK KK
        try simp only [Act.put, List.setIfInBounds_toArray, List.set_cons_zero, List.set_cons_succ]
        refine wpAnyH_done (by kernel_rfl) ?_ _
        refine NoPanic.normal ?_
        clear C0 C1 C2 C3 C4 D0 D1 D2 D3 D4
        have A8 := A6.set2 (.int .i64 (b + x)); have Z8 := Z6.set_other (p := ⟨w.heap.size, 2, none⟩) (z := .int .i64 (b + x)) (by simp)
        obtain ⟨C0, C1, C2, C3, C4, _⟩ := A8.cells; obtain ⟨D0, D1, D2, D3, D4⟩ := A8.frozen; obtain ⟨E0, E1, E2, E3, E4, _⟩ := Z8.cells; obtain ⟨F0, F1, F2, F3, F4⟩ := Z8.frozen
        go_wp2_with fail
        obtain ⟨Zf, Gf, Rf, Kf⟩ := put5 (Z8) (grown_set G6 (p := ⟨w.heap.size, 2, none⟩) (Nat.le_refl _) (.int .i64 (b + x))) (R6.setNew (q := ⟨w.heap.size, 2, none⟩) (x := .int .i64 (b + x)) hr (Nat.le_refl _)) hr (Nat.le_succ _) (.int .i64 o) (.int .i64 a) (.int .i64 (b + x)) (.string nm) (.slice (some ⟨bb, 0, none⟩) ks.length cap)
        obtain ⟨r0, r1, r2, r3, r4, _⟩ := Zf.cells
        exact bodyPost_ret (v := .agg #[.int .i64 o, .int .i64 a, .int .i64 (b + x), .string nm, .slice (some ⟨bb, 0, none⟩) ks.length cap]) (by simp [results, Try.results29, go_sem, r0, r1, r2, r3, r4]) rfl ⟨.node o a (b + x) nm ks, _, (d + 1), rfl, TPX.out.on (kept_grownT Gf hgB), ⟨by simp only [Tm.op]; omega, by simp only [Tm.op]; omega, by simp only [Tm.a]; omega, by simp only [Tm.a]; omega, by simp only [Tm.b]; omega, by simp only [Tm.b]; omega, by simp only [Tm.nm]; exact Nat.le_trans n1 (Nat.le_refl _)⟩, HTD.out, Nat.le_trans hl (by omega), by omega, Gf, Rf.le (by omega)⟩
      · skip
        go_simp
        try go_simp
        refine hKK.out _ _ trivial (fun hHeld => ?_)
        clear hKK KK
        try simp only [Act.put, List.setIfInBounds_toArray, List.set_cons_zero, List.set_cons_succ]
        refine wpAnyH_ready (rs := [1, 4]) (by kernel_rfl) (by simp) ?_
        refine AllReadyH.cons (o := { dst := some 31, op := Go.Op.load 3 (Go.Operand.tmp 30), type := 3, pos := _, after := #[{ on := 0, ground := Go.Ground.data }], guard := none }) rfl (fun KK hKK => ?_) (AllReadyH.cons (o := { dst := some 34, op := Go.Op.call { callee := Go.Callee.value (Go.Operand.func 34), args := #[Go.Operand.tmp 32, Go.Operand.tmp 33], argTypes := #[51, 64] }, type := 3, pos := _, after := #[{ on := 2, ground := Go.Ground.data }, { on := 3, ground := Go.Ground.data }], guard := none }) rfl (fun KK hKK => ?_) (AllReadyH.nil))
        · skip
          have LC := (A5.alloc (.cells #[.int .i64 1, .int .i64 (-1), .int .i64 16] 3)).cells.2.2.1
          go_simp
          try go_simp
          refine hKK.out _ _ trivial (fun hHeld => ?_)
          clear hKK KK
          try simp only [Act.put, List.setIfInBounds_toArray, List.set_cons_zero, List.set_cons_succ]
          refine wpAnyH_ready (rs := [4]) (by kernel_rfl) (by simp) ?_
          refine AllReadyH.cons (o := { dst := some 34, op := Go.Op.call { callee := Go.Callee.value (Go.Operand.func 34), args := #[Go.Operand.tmp 32, Go.Operand.tmp 33], argTypes := #[51, 64] }, type := 3, pos := _, after := #[{ on := 2, ground := Go.Ground.data }, { on := 3, ground := Go.Ground.data }], guard := none }) rfl (fun KK hKK => ?_) (AllReadyH.nil)
          go_simp
          go_at_call 34
          refine (num_in (fun x => -16 ≤ x ∧ x ≤ 16) g _ v w5.heap.size 3 3 _ R7 (by omega) (by omega) (by omega) (by omega) (new_ints_in w5.drew (fun x => -16 ≤ x ∧ x ≤ 16) [1, -1, 16] 3 (by simp))).mono ?_
          rintro e w6 ⟨_, rfl, ⟨x, rfl, x0, x1⟩, hg6, R6⟩
          have A6 := A7.keepG hg6 hne; have Z6 := Z7.keepG hg6 hne1; have G6 := grown_two G7 hg6; clear hg6 A7 Z7 G7 R7
          have hsum : IntKind.i64.wrap (b + x) = b + x := IntWalk.i64_in _ (by omega)
          obtain ⟨D0, D1, D2, D3, D4⟩ := A6.frozen
          obtain ⟨C0, C1, C2, C3, C4, _⟩ := A6.cells
          try go_simp
          refine hKK.out _ _ trivial (fun hHeld => ?_)
          clear hKK KK
          try simp only [Act.put, List.setIfInBounds_toArray, List.set_cons_zero, List.set_cons_succ]
          refine wpAnyH_take (i := 5) (oi := { dst := some 35, op := Go.Op.binOp Go.BinOp.add 3 (Go.Operand.tmp 31) (Go.Operand.tmp 34) 3, type := 3, pos := _, after := #[{ on := 1, ground := Go.Ground.data }, { on := 4, ground := Go.Ground.data }], guard := none }) (v := ?_) rfl (by kernel_rfl) (by kernel_rfl) (by kernel_rfl) (fun _ _ _ h => h) (Or.inl ⟨by rfl, ?_⟩) hHeld ?_
          rotate_left
          · (intro wq hSw; (try dsimp only at hSw); (try go_simp); (try with_reducible rfl))
          try simp only [Act.put, List.setIfInBounds_toArray, List.set_cons_zero, List.set_cons_succ]
          refine wpAnyH_take (i := 6) (oi := { dst := some 36, op := Go.Op.fieldAddr 29 (Go.Operand.tmp 3) 2, type := 0, pos := _, after := #[{ on := 0, ground := Go.Ground.phase }, { on := 1, ground := Go.Ground.phase }, { on := 2, ground := Go.Ground.phase }, { on := 3, ground := Go.Ground.phase }, { on := 4, ground := Go.Ground.phase }, { on := 5, ground := Go.Ground.phase }], guard := none }) (v := ?_) rfl (by kernel_rfl) (by kernel_rfl) (by kernel_rfl) (fun _ _ _ h => h) (Or.inl ⟨by rfl, ?_⟩) hHeld ?_
          rotate_left
          · (intro wq hSw; (try dsimp only at hSw); (try go_simp); (try with_reducible rfl))
          try simp only [Act.put, List.setIfInBounds_toArray, List.set_cons_zero, List.set_cons_succ]
          refine wpAnyH_ready (rs := [7]) (by kernel_rfl) (by simp) ?_
          refine AllReadyH.cons (o := { dst := none, op := Go.Op.store 3 (Go.Operand.tmp 36) (Go.Operand.tmp 35), type := 0, pos := _, after := #[{ on := 6, ground := Go.Ground.data }, { on := 5, ground := Go.Ground.data }, { on := 4, ground := Go.Ground.chain }, { on := 0, ground := Go.Ground.phase }, { on := 1, ground := Go.Ground.phase }, { on := 2, ground := Go.Ground.phase }, { on := 3, ground := Go.Ground.phase }, { on := 4, ground := Go.Ground.phase }, { on := 5, ground := Go.Ground.phase }], guard := none }) rfl (fun KK hKK => ?_) (AllReadyH.nil)
          go_simp
          try go_simp
          refine hKK.out _ _ trivial (fun hHeld => ?_)
          clear hKK KK
          try simp only [Act.put, List.setIfInBounds_toArray, List.set_cons_zero, List.set_cons_succ]
          refine wpAnyH_done (by kernel_rfl) ?_ _
          refine NoPanic.normal ?_
          clear C0 C1 C2 C3 C4 D0 D1 D2 D3 D4
          have A8 := A6.set2 (.int .i64 (b + x)); have Z8 := Z6.set_other (p := ⟨w.heap.size, 2, none⟩) (z := .int .i64 (b + x)) (by simp)
          obtain ⟨C0, C1, C2, C3, C4, _⟩ := A8.cells; obtain ⟨D0, D1, D2, D3, D4⟩ := A8.frozen; obtain ⟨E0, E1, E2, E3, E4, _⟩ := Z8.cells; obtain ⟨F0, F1, F2, F3, F4⟩ := Z8.frozen
          go_wp2_with fail
          obtain ⟨Zf, Gf, Rf, Kf⟩ := put5 (Z8) (grown_set G6 (p := ⟨w.heap.size, 2, none⟩) (Nat.le_refl _) (.int .i64 (b + x))) (R6.setNew (q := ⟨w.heap.size, 2, none⟩) (x := .int .i64 (b + x)) hr (Nat.le_refl _)) hr (Nat.le_succ _) (.int .i64 o) (.int .i64 a) (.int .i64 (b + x)) (.string nm) (.slice (some ⟨bb, 0, none⟩) ks.length cap)
          obtain ⟨r0, r1, r2, r3, r4, _⟩ := Zf.cells
          exact bodyPost_ret (v := .agg #[.int .i64 o, .int .i64 a, .int .i64 (b + x), .string nm, .slice (some ⟨bb, 0, none⟩) ks.length cap]) (by simp [results, Try.results29, go_sem, r0, r1, r2, r3, r4]) rfl ⟨.node o a (b + x) nm ks, _, (d + 1), rfl, TPX.out.on (kept_grownT Gf hgB), ⟨by simp only [Tm.op]; omega, by simp only [Tm.op]; omega, by simp only [Tm.a]; omega, by simp only [Tm.a]; omega, by simp only [Tm.b]; omega, by simp only [Tm.b]; omega, by simp only [Tm.nm]; exact Nat.le_trans n1 (Nat.le_refl _)⟩, HTD.out, Nat.le_trans hl (by omega), by omega, Gf, Rf.le (by omega)⟩
        · skip
          go_simp
          go_at_call 34
          refine (num_in (fun x => -16 ≤ x ∧ x ≤ 16) g _ v w5.heap.size 3 3 _ R7 (by omega) (by omega) (by omega) (by omega) (new_ints_in w5.drew (fun x => -16 ≤ x ∧ x ≤ 16) [1, -1, 16] 3 (by simp))).mono ?_
          rintro e w6 ⟨_, rfl, ⟨x, rfl, x0, x1⟩, hg6, R6⟩
          have A6 := A7.keepG hg6 hne; have Z6 := Z7.keepG hg6 hne1; have G6 := grown_two G7 hg6; clear hg6 A7 Z7 G7 R7
          have hsum : IntKind.i64.wrap (b + x) = b + x := IntWalk.i64_in _ (by omega)
          obtain ⟨D0, D1, D2, D3, D4⟩ := A6.frozen
          obtain ⟨C0, C1, C2, C3, C4, _⟩ := A6.cells
          try go_simp
          refine hKK.out _ _ trivial (fun hHeld => ?_)
          clear hKK KK
          try simp only [Act.put, List.setIfInBounds_toArray, List.set_cons_zero, List.set_cons_succ]
          refine wpAnyH_ready (rs := [1]) (by kernel_rfl) (by simp) ?_
          refine AllReadyH.cons (o := { dst := some 31, op := Go.Op.load 3 (Go.Operand.tmp 30), type := 3, pos := _, after := #[{ on := 0, ground := Go.Ground.data }], guard := none }) rfl (fun KK hKK => ?_) (AllReadyH.nil)
          have LC := A6.cells.2.2.1
          go_simp
          try go_simp
          refine hKK.out _ _ trivial (fun hHeld => ?_)
          clear hKK KK
          try simp only [Act.put, List.setIfInBounds_toArray, List.set_cons_zero, List.set_cons_succ]
          refine wpAnyH_take (i := 5) (oi := { dst := some 35, op := Go.Op.binOp Go.BinOp.add 3 (Go.Operand.tmp 31) (Go.Operand.tmp 34) 3, type := 3, pos := _, after := #[{ on := 1, ground := Go.Ground.data }, { on := 4, ground := Go.Ground.data }], guard := none }) (v := ?_) rfl (by kernel_rfl) (by kernel_rfl) (by kernel_rfl) (fun _ _ _ h => h) (Or.inl ⟨by rfl, ?_⟩) hHeld ?_
          rotate_left
          · (intro wq hSw; (try dsimp only at hSw); (try go_simp); (try with_reducible rfl))
          try simp only [Act.put, List.setIfInBounds_toArray, List.set_cons_zero, List.set_cons_succ]
          refine wpAnyH_take (i := 6) (oi := { dst := some 36, op := Go.Op.fieldAddr 29 (Go.Operand.tmp 3) 2, type := 0, pos := _, after := #[{ on := 0, ground := Go.Ground.phase }, { on := 1, ground := Go.Ground.phase }, { on := 2, ground := Go.Ground.phase }, { on := 3, ground := Go.Ground.phase }, { on := 4, ground := Go.Ground.phase }, { on := 5, ground := Go.Ground.phase }], guard := none }) (v := ?_) rfl (by kernel_rfl) (by kernel_rfl) (by kernel_rfl) (fun _ _ _ h => h) (Or.inl ⟨by rfl, ?_⟩) hHeld ?_
          rotate_left
          · (intro wq hSw; (try dsimp only at hSw); (try go_simp); (try with_reducible rfl))
          try simp only [Act.put, List.setIfInBounds_toArray, List.set_cons_zero, List.set_cons_succ]
          refine wpAnyH_ready (rs := [7]) (by kernel_rfl) (by simp) ?_
          refine AllReadyH.cons (o := { dst := none, op := Go.Op.store 3 (Go.Operand.tmp 36) (Go.Operand.tmp 35), type := 0, pos := _, after := #[{ on := 6, ground := Go.Ground.data }, { on := 5, ground := Go.Ground.data }, { on := 4, ground := Go.Ground.chain }, { on := 0, ground := Go.Ground.phase }, { on := 1, ground := Go.Ground.phase }, { on := 2, ground := Go.Ground.phase }, { on := 3, ground := Go.Ground.phase }, { on := 4, ground := Go.Ground.phase }, { on := 5, ground := Go.Ground.phase }], guard := none }) rfl (fun KK hKK => ?_) (AllReadyH.nil)
          go_simp
          try go_simp
          refine hKK.out _ _ trivial (fun hHeld => ?_)
          clear hKK KK
          try simp only [Act.put, List.setIfInBounds_toArray, List.set_cons_zero, List.set_cons_succ]
          refine wpAnyH_done (by kernel_rfl) ?_ _
          refine NoPanic.normal ?_
          clear C0 C1 C2 C3 C4 D0 D1 D2 D3 D4
          have A8 := A6.set2 (.int .i64 (b + x)); have Z8 := Z6.set_other (p := ⟨w.heap.size, 2, none⟩) (z := .int .i64 (b + x)) (by simp)
          obtain ⟨C0, C1, C2, C3, C4, _⟩ := A8.cells; obtain ⟨D0, D1, D2, D3, D4⟩ := A8.frozen; obtain ⟨E0, E1, E2, E3, E4, _⟩ := Z8.cells; obtain ⟨F0, F1, F2, F3, F4⟩ := Z8.frozen
          go_wp2_with fail
          obtain ⟨Zf, Gf, Rf, Kf⟩ := put5 (Z8) (grown_set G6 (p := ⟨w.heap.size, 2, none⟩) (Nat.le_refl _) (.int .i64 (b + x))) (R6.setNew (q := ⟨w.heap.size, 2, none⟩) (x := .int .i64 (b + x)) hr (Nat.le_refl _)) hr (Nat.le_succ _) (.int .i64 o) (.int .i64 a) (.int .i64 (b + x)) (.string nm) (.slice (some ⟨bb, 0, none⟩) ks.length cap)
          obtain ⟨r0, r1, r2, r3, r4, _⟩ := Zf.cells
          exact bodyPost_ret (v := .agg #[.int .i64 o, .int .i64 a, .int .i64 (b + x), .string nm, .slice (some ⟨bb, 0, none⟩) ks.length cap]) (by simp [results, Try.results29, go_sem, r0, r1, r2, r3, r4]) rfl ⟨.node o a (b + x) nm ks, _, (d + 1), rfl, TPX.out.on (kept_grownT Gf hgB), ⟨by simp only [Tm.op]; omega, by simp only [Tm.op]; omega, by simp only [Tm.a]; omega, by simp only [Tm.a]; omega, by simp only [Tm.b]; omega, by simp only [Tm.b]; omega, by simp only [Tm.nm]; exact Nat.le_trans n1 (Nat.le_refl _)⟩, HTD.out, Nat.le_trans hl (by omega), by omega, Gf, Rf.le (by omega)⟩
    by_cases c3 : p = 3
    · subst c3
      clear O5 c0 c1 c2
      obtain ⟨C0, C1, C2, C3, C4, _⟩ := A5.cells; obtain ⟨D0, D1, D2, D3, D4⟩ := A5.frozen; obtain ⟨E0, E1, E2, E3, E4, _⟩ := Z5.cells; obtain ⟨F0, F1, F2, F3, F4⟩ := Z5.frozen
      go_wp2_with fail
      obtain ⟨Zf, Gf, Rf, Kf⟩ := put5 (Z5.set_other (p := ⟨w.heap.size, 3, none⟩) (z := .string ⟨#[113]⟩) (by simp)) (grown_set G5 (p := ⟨w.heap.size, 3, none⟩) (Nat.le_refl _) (.string ⟨#[113]⟩)) (R5.setNew (q := ⟨w.heap.size, 3, none⟩) (x := .string ⟨#[113]⟩) hr (Nat.le_refl _)) hr (Nat.le_succ _) (.int .i64 o) (.int .i64 a) (.int .i64 b) (.string ⟨#[113]⟩) (.slice (some ⟨bb, 0, none⟩) ks.length cap)
      obtain ⟨r0, r1, r2, r3, r4, _⟩ := Zf.cells
      exact bodyPost_ret (v := .agg #[.int .i64 o, .int .i64 a, .int .i64 b, .string ⟨#[113]⟩, .slice (some ⟨bb, 0, none⟩) ks.length cap]) (by simp [results, Try.results29, go_sem, r0, r1, r2, r3, r4]) rfl ⟨.node o a b ⟨#[113]⟩ ks, _, (d + 1), rfl, TPX.out.on (kept_grownT Gf hgB), ⟨by simp only [Tm.op]; omega, by simp only [Tm.op]; omega, by simp only [Tm.a]; omega, by simp only [Tm.a]; omega, by simp only [Tm.b]; omega, by simp only [Tm.b]; omega, Nat.le_refl 1⟩, HTD.out, Nat.le_trans hl (by omega), by omega, Gf, Rf.le (by omega)⟩
    by_cases c4 : p = 4
    · subst c4
      clear c0 c1 c2 c3
      have A7 := A5.alloc (.cells #[.int .i64 24, .int .i64 0, .int .i64 0, .string ⟨#[]⟩, .slice none 0 0] 29); have Z7 := Z5.alloc (.cells #[.int .i64 24, .int .i64 0, .int .i64 0, .string ⟨#[]⟩, .slice none 0 0] 29); have G7 := grown_alloc G5 (.cells #[.int .i64 24, .int .i64 0, .int .i64 0, .string ⟨#[]⟩, .slice none 0 0] 29); have R7 := R5.alloc (.cells #[.int .i64 24, .int .i64 0, .int .i64 0, .string ⟨#[]⟩, .slice none 0 0] 29); have O7 := O5.out.alloc (.cells #[.int .i64 24, .int .i64 0, .int .i64 0, .string ⟨#[]⟩, .slice none 0 0] 29)
      have hrow := Lib.hid (own_row_ge O7)
      clear A5 Z5 G5 R5 O5
      go_wp2_with (at_builtin; refine wpList_append_lies _ rfl _ _ _ rfl (w.heap.size + 2) 29 i0 (.agg #[.int .i64 0, .int .i64 0, .int .i64 0, .string ⟨#[]⟩, .slice none 0 0]) 5 64 Try.underlying27 hi hz0 hz1 hz2 rfl (by omega) y ks.length (tflat ks S) (by rfl) O7 ⟨w5.heap.size, 0, none⟩ 1 1 [.int .i64 24, .int .i64 0, .int .i64 0, .string ⟨#[]⟩, .slice none 0 0] (by rfl) rfl (World.news_of_block (heap_alloc_new _ _)) (by simp [Value.oneCell']) (by omega) (by unfold maxLen; omega) (by omega) (by simp; omega) _ rfl ?_)
      intro b2 cap2 w6 own6 hg6 hat6 hlt6
      have A6 := A7.growRow hg6 (fun e => by have := hrow.out _ e; omega)
      have Z6 := Z7.growRow hg6 (fun e => by have := hrow.out _ e; omega)
      have G6 := grown_new G7 hg6 (fun q hq => by have := hrow.out q hq; omega)
      have R6 := R7.growNew hr hg6 (fun q hq => by have := hrow.out q hq; omega)
      replace own6 := Lib.hid own6
      clear A7 Z7 G7 R7 O7 hg6 hat6 hrow
      obtain ⟨C0, C1, C2, C3, C4, _⟩ := A6.cells; obtain ⟨D0, D1, D2, D3, D4⟩ := A6.frozen; obtain ⟨E0, E1, E2, E3, E4, _⟩ := Z6.cells; obtain ⟨F0, F1, F2, F3, F4⟩ := Z6.frozen
      go_wp2_with fail
      obtain ⟨Zf, Gf, Rf, Kf⟩ := put5 (Z6.set_other (p := ⟨w.heap.size, 4, none⟩) (z := .slice (some ⟨b2, 0, none⟩) (ks.length + 1) cap2) (by simp)) (grown_set G6 (p := ⟨w.heap.size, 4, none⟩) (Nat.le_refl _) (.slice (some ⟨b2, 0, none⟩) (ks.length + 1) cap2)) (R6.setNew (q := ⟨w.heap.size, 4, none⟩) (x := .slice (some ⟨b2, 0, none⟩) (ks.length + 1) cap2) hr (Nat.le_refl _)) hr (Nat.le_succ _) (.int .i64 o) (.int .i64 a) (.int .i64 b) (.string nm) (.slice (some ⟨b2, 0, none⟩) (ks.length + 1) cap2)
      have Kx : Kept (w.heap.size + 2) w6 (w6.setCell ⟨w.heap.size, 4, none⟩ (.slice (some ⟨b2, 0, none⟩) (ks.length + 1) cap2)) := kept_set (Kept.refl _ _) (p := ⟨w.heap.size, 4, none⟩) (by simp) _
      have ownf := own_kept own6.out (Kx.trans Kf) (Nat.le_refl _)
      have ownf2 := ownf
      have tf := topOwn (B := B) (d := d) (ks := ks) (u := .node 24 0 0 ⟨#[]⟩ []) (S := S) (s := .slice none 0 0) ownf2 (by omega) (fun i hi => (HS.out i hi).on (kept_grownT Gf hgB)) (fun w' _ => sIn_nil d w')
      obtain ⟨r0, r1, r2, r3, r4, _⟩ := Zf.cells
      exact bodyPost_ret (v := .agg #[.int .i64 o, .int .i64 a, .int .i64 b, .string nm, .slice (some ⟨b2, 0, none⟩) (ks.length + 1) cap2]) (by simp [results, Try.results29, go_sem, r0, r1, r2, r3, r4]) rfl ⟨.node o a b nm (ks ++ [Tm.node 24 0 0 ⟨#[]⟩ []]), _, (d + 1), rfl, tf, ⟨by simp only [Tm.op]; omega, by simp only [Tm.op]; omega, by simp only [Tm.a]; omega, by simp only [Tm.a]; omega, by simp only [Tm.b]; omega, by simp only [Tm.b]; omega, by simp only [Tm.nm]; exact Nat.le_trans n1 (Nat.le_refl _)⟩, td_snoc HTD.out tOk_true (td_nil d), by simp [Tm.ks]; omega, by omega, Gf, Rf.le (by omega)⟩
    by_cases c5 : p = 5
    · subst c5
      clear O5 c0 c1 c2 c3 c4
      have TX : TopX B w.heap.size (d + 1) w5 (.slice (some ⟨bb, 0, none⟩) ks.length cap) ks := Top.x TPX.out (kept_grownT G5 hgB) (Nat.le_refl _)
      go_wp2_with fail
      go_loopw [6] (fun i wr => ∃ (k : Nat) (u : Tm) (s' : Value), i = .int .i64 k ∧ k ≤ 7 ∧ Blk5 wr w.heap.size (.int .i64 u.op) (.int .i64 u.a) (.int .i64 u.b) (.string u.nm) s' 29 ∧ TopX B w.heap.size ((d + 1) + k) wr s' u.ks ∧ TOk u ∧ TD ((d + 1) + k) u.ks ∧ u.ks.length ≤ 3 ∧ Blk5 wr (w.heap.size + 1) (.int .i64 0) (.int .i64 0) (.int .i64 0) (.string ⟨#[]⟩) (.slice none 0 0) 29 ∧ w.grownBy wr (some g) ∧ RdOk wr g v (P + 1) ∧ w.heap.size + 2 < wr.heap.size) (fun i _ => 7 - (intOf i).toNat)
      case atStart => exact ⟨0, .node o a b nm ks, _, rfl, by omega, A5, TX, OK.out, HTD.out, hl, Z5, G5, R5, hs5⟩
      case round =>
        clear A5 Z5 G5 R5 hs5 TX OK HTD TPX
        obtain ⟨k, u, s', rfl, hk, A, TX, uok, utd, hul, Z, G, R, hs5⟩ := hrel
        obtain ⟨sa, sp, rfl⟩ := TX.top.form
        replace TX := Lib.hid TX; replace uok := Lib.hid uok; replace utd := Lib.hid utd
        by_cases hlt : k < 7
        · have hk1 : (k : Int) < 7 := by omega
          have A7 := A.alloc (.cells #[.int .i64 u.op, .int .i64 u.a, .int .i64 u.b, .string u.nm, .slice sa u.ks.length sp] 29)
          obtain ⟨C0, C1, C2, C3, C4, C5⟩ := A.cells; obtain ⟨D0, D1, D2, D3, D4⟩ := A7.frozen; obtain ⟨E0, E1, E2, E3, E4, _⟩ := A7.cells
          clear C5
          replace hs5 := Lib.hid hs5
          go_wp2_with fail
          replace hs5 := hs5.out
          clear C0 C1 C2 C3 C4 D0 D1 D2 D3 D4 E0 E1 E2 E3 E4
          have TX2 := (mkTopX 29 (TX.out.kx (TX.out.top.names utd.out)) (by omega) (by omega)).on (keptX_set (keptX_set (keptX_set (keptX_set (keptX_set (KeptX.refl B w.heap.size (wr.alloc (.cells #[.int .i64 u.op, .int .i64 u.a, .int .i64 u.b, .string u.nm, .slice sa u.ks.length sp] 29))) (q := ⟨w.heap.size, 0, none⟩) (.inl rfl) (.int .i64 25)) (q := ⟨w.heap.size, 1, none⟩) (.inl rfl) (.int .i64 0)) (q := ⟨w.heap.size, 2, none⟩) (.inl rfl) (.int .i64 0)) (q := ⟨w.heap.size, 3, none⟩) (.inl rfl) (.string ⟨#[]⟩)) (q := ⟨w.heap.size, 4, none⟩) (.inl rfl) (.slice (some ⟨wr.heap.size, 0, none⟩) 1 1))
          exact ⟨⟨k + 1, .node 25 0 0 ⟨#[]⟩ [u], .slice (some ⟨wr.heap.size, 0, none⟩) 1 1, by go_num, by omega, (((((A7.set0 (.int .i64 25)).set1 (.int .i64 0)).set2 (.int .i64 0)).set3 (.string ⟨#[]⟩)).set4 (.slice (some ⟨wr.heap.size, 0, none⟩) 1 1)), TX2, tOk_no u, td_one uok.out utd.out, by simp [Tm.ks], ((((((Z.alloc (.cells #[.int .i64 u.op, .int .i64 u.a, .int .i64 u.b, .string u.nm, .slice sa u.ks.length sp] 29)).set_other (p := ⟨w.heap.size, 0, none⟩) (z := .int .i64 25) (by simp)).set_other (p := ⟨w.heap.size, 1, none⟩) (z := .int .i64 0) (by simp)).set_other (p := ⟨w.heap.size, 2, none⟩) (z := .int .i64 0) (by simp)).set_other (p := ⟨w.heap.size, 3, none⟩) (z := .string ⟨#[]⟩) (by simp)).set_other (p := ⟨w.heap.size, 4, none⟩) (z := .slice (some ⟨wr.heap.size, 0, none⟩) 1 1) (by simp)), (grown_set (grown_set (grown_set (grown_set (grown_set (grown_alloc G (.cells #[.int .i64 u.op, .int .i64 u.a, .int .i64 u.b, .string u.nm, .slice sa u.ks.length sp] 29)) (p := ⟨w.heap.size, 0, none⟩) (Nat.le_refl _) (.int .i64 25)) (p := ⟨w.heap.size, 1, none⟩) (Nat.le_refl _) (.int .i64 0)) (p := ⟨w.heap.size, 2, none⟩) (Nat.le_refl _) (.int .i64 0)) (p := ⟨w.heap.size, 3, none⟩) (Nat.le_refl _) (.string ⟨#[]⟩)) (p := ⟨w.heap.size, 4, none⟩) (Nat.le_refl _) (.slice (some ⟨wr.heap.size, 0, none⟩) 1 1)), ((((((R.alloc (.cells #[.int .i64 u.op, .int .i64 u.a, .int .i64 u.b, .string u.nm, .slice sa u.ks.length sp] 29)).setNew (q := ⟨w.heap.size, 0, none⟩) (x := .int .i64 25) hr (Nat.le_refl _)).setNew (q := ⟨w.heap.size, 1, none⟩) (x := .int .i64 0) hr (Nat.le_refl _)).setNew (q := ⟨w.heap.size, 2, none⟩) (x := .int .i64 0) hr (Nat.le_refl _)).setNew (q := ⟨w.heap.size, 3, none⟩) (x := .string ⟨#[]⟩) hr (Nat.le_refl _)).setNew (q := ⟨w.heap.size, 4, none⟩) (x := .slice (some ⟨wr.heap.size, 0, none⟩) 1 1) hr (Nat.le_refl _)), by simp; omega⟩, by simp [intOf]; omega⟩
        · have hk7 : k = 7 := by omega
          subst hk7
          obtain ⟨C0, C1, C2, C3, C4, _⟩ := A.cells; obtain ⟨E0, E1, E2, E3, E4, _⟩ := Z.cells; obtain ⟨F0, F1, F2, F3, F4⟩ := Z.frozen
          go_wp2_with fail
          have tf := (TX.out.on (keptX_set (keptX_set (keptX_set (keptX_set (keptX_set (KeptX.refl B w.heap.size wr) (q := ⟨w.heap.size + 1, 0, none⟩) (.inr rfl) (.int .i64 u.op)) (q := ⟨w.heap.size + 1, 1, none⟩) (.inr rfl) (.int .i64 u.a)) (q := ⟨w.heap.size + 1, 2, none⟩) (.inr rfl) (.int .i64 u.b)) (q := ⟨w.heap.size + 1, 3, none⟩) (.inr rfl) (.string u.nm)) (q := ⟨w.heap.size + 1, 4, none⟩) (.inr rfl) (.slice sa u.ks.length sp))).top
          obtain ⟨Zf, Gf, Rf, Kf⟩ := put5 (Z) (G) (R) hr (Nat.le_succ _) (.int .i64 u.op) (.int .i64 u.a) (.int .i64 u.b) (.string u.nm) (.slice sa u.ks.length sp)
          obtain ⟨r0, r1, r2, r3, r4, _⟩ := Zf.cells
          exact bodyPost_ret (v := .agg #[.int .i64 u.op, .int .i64 u.a, .int .i64 u.b, .string u.nm, .slice sa u.ks.length sp]) (by simp [results, Try.results29, go_sem, r0, r1, r2, r3, r4]) rfl ⟨u, _, ((d + 1) + 7), rfl, tf, (by have := uok.out; unfold TOk at this; unfold TK; omega), utd.out, by omega, by omega, Gf, Rf.le (by omega)⟩
    have d0 : (p == 0) = false := by simpa using c0
    have d1 : (p == 1) = false := by simpa using c1
    have d2 : (p == 2) = false := by simpa using c2
    have d3 : (p == 3) = false := by simpa using c3
    have d4 : (p == 4) = false := by simpa using c4
    have d5 : (p == 5) = false := by simpa using c5
    clear c0 c1 c2 c3 c4 c5 O5
    obtain ⟨C0, C1, C2, C3, C4, _⟩ := A5.cells; obtain ⟨D0, D1, D2, D3, D4⟩ := A5.frozen; obtain ⟨E0, E1, E2, E3, E4, _⟩ := Z5.cells; obtain ⟨F0, F1, F2, F3, F4⟩ := Z5.frozen
    go_wp2_with fail
    obtain ⟨Zf, Gf, Rf, Kf⟩ := put5 (Z5) (G5) (R5) hr (Nat.le_succ _) (.int .i64 o) (.int .i64 a) (.int .i64 b) (.string nm) (.slice (some ⟨bb, 0, none⟩) ks.length cap)
    obtain ⟨r0, r1, r2, r3, r4, _⟩ := Zf.cells
    exact bodyPost_ret (v := .agg #[.int .i64 o, .int .i64 a, .int .i64 b, .string nm, .slice (some ⟨bb, 0, none⟩) ks.length cap]) (by simp [results, Try.results29, go_sem, r0, r1, r2, r3, r4]) rfl ⟨.node o a b nm ks, _, (d + 1), rfl, TPX.out.on (kept_grownT Gf hgB), ⟨by simp only [Tm.op]; omega, by simp only [Tm.op]; omega, by simp only [Tm.a]; omega, by simp only [Tm.a]; omega, by simp only [Tm.b]; omega, by simp only [Tm.b]; omega, by simp only [Tm.nm]; exact Nat.le_trans n1 (Nat.le_refl _)⟩, HTD.out, Nat.le_trans hl (by omega), by omega, Gf, Rf.le (by omega)⟩
end Go.Proofs.Ytfkanemjedndgaa
