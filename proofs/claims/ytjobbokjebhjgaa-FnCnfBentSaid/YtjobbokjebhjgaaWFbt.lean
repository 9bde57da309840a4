/- The walk of FnCnfBent: for every argument the law returns true and leaves alone what was there. -/
import Derived.Test.YtjobbokjebhjgaaDj
import Derived.Test.YtjobbokjebhjgaaCe
import Derived.Test.YtjobbokjebhjgaaCr
import Derived.Test.YtjobbokjebhjgaaAp
namespace Go.Proofs.Ytjobbokjebhjgaa
open Go.RowKit

theorem ints_at {w : World} {k : Nat} {t : TypeId} {l : List Int} (h : w.heap[k]? = some (.cells (l.map (Value.int .i64)).toArray t (0, 0))) (hm : l.length ≤ maxLen) : Ints w (.slice (some ⟨k, 0, none⟩) l.length l.length) l := by
  refine ⟨_, _, rfl, Nat.le_refl _, hm, .inr ⟨_, 0, rfl, ?_⟩⟩
  have hk := hk_lt h
  refine ⟨hk, fun i hi => ?_⟩
  simp [World.cell?, h, hi, List.getD_eq_getElem?_getD]
theorem bent_a {m : Int} {ls : List (List Int)} : cnfOkL m (ls ++ [[m + 1]]) = false := by
  unfold cnfOkL; rw [List.all_append]
  have : okFrom m 0 [m + 1] = false := by unfold okFrom mabs; simp; omega
  simp [this]
theorem bent_b {m : Int} {ls : List (List Int)} : cnfOkL m (ls ++ [[1, -1]]) = false := by
  unfold cnfOkL; rw [List.all_append]
  have : okFrom m 0 [1, -1] = false := by unfold okFrom; simp [mabs]; intro; unfold okFrom; simp [mabs]
  simp [this]
theorem bent_e {m : Int} {ls : List (List Int)} : cnfOkL m (ls ++ [[0]]) = false := by
  unfold cnfOkL; rw [List.all_append]
  have : okFrom m 0 [0] = false := by unfold okFrom; simp [mabs]
  simp [this]
theorem bent_f {m : Int} {ls : List (List Int)} (h : cnfOkL m ls = true) (h0 : 1 ≤ m) (hl : ls.length ≤ 40) : cnfOkL m (ls ++ [[-1]]) = true := by
  obtain ⟨m0, m1, _⟩ := cnfOkL_m h
  unfold cnfOkL at h ⊢
  rw [Bool.and_eq_true] at h ⊢
  refine ⟨decide_eq_true ⟨m0, m1, by simp; omega⟩, ?_⟩
  rw [List.all_append, h.2, Bool.true_and]
  simp [okFrom, mabs]; omega
theorem same_longer {m : Int} {ls : List (List Int)} {l : List Int} : sameC m ls m (ls ++ [l]) = false := by
  unfold sameC
  refine decide_eq_false (fun h => ?_)
  have := congrArg List.length h.2
  simp at this
theorem same_last {m : Int} {ls : List (List Int)} {l l' : List Int} (h : l ≠ l') : sameC m (ls ++ [l]) m (ls ++ [l']) = false := by
  unfold sameC
  exact decide_eq_false (fun e => h (by simpa using e.2))
theorem wf_snoc {ls : List (List Int)} {l : List Int} (h : ssWf ls) (hl : ∀ x ∈ l, I64 x) : ssWf (ls ++ [l]) := fun i hi => by
  rcases Nat.lt_or_ge i ls.length with h1 | h1
  · rw [getD_snoc_lt h1]; exact h i h1
  · obtain rfl : i = ls.length := by simp at hi; omega
    rw [getD_snoc_at]; exact intsWf_mem hl
theorem sameC_symm (m : Int) (l : List (List Int)) (m' : Int) (l' : List (List Int)) : sameC m' l' m l = sameC m l m' l' := by
  unfold sameC; exact decide_eq_decide.2 ⟨fun h => ⟨h.1.symm, h.2.symm⟩, fun h => ⟨h.1.symm, h.2.symm⟩⟩

set_option linter.unusedVariables false in
set_option maxRecDepth 100000 in
set_option maxHeartbeats 32000000 in
theorem walk_FnCnfBent {w : World} (v : Value) (h : BytesIn w v) :
    Calls Try.prog 8 #[v] w fun e w' => e = .returned (.bool true) ∧ Below w.heap.size w w' := by
  obtain ⟨a0, len, cp, rfl⟩ : ∃ a len cap, v = .slice a len cap := by
    rcases h with ⟨a, c, rfl⟩ | ⟨b, off, len, cap, rfl, _⟩ <;> exact ⟨_, _, _, rfl⟩
  by_cases hb : (1048576 : Int) < len
  · go_enter Try.func8, Try.ntmps8
    go_wp2_with fail
    go_ret
    exact ⟨rfl, Below.refl _ _⟩
  go_enter Try.func8, Try.ntmps8
  go_wp2_with fail
  refine (drawCnfSame_any _ _ h).mono ?_
  rintro e w1 ⟨_, rfl, ⟨m, x, ls, m', x', ls', rfl, hc, HQ0, hd, hm', hlen', hwf'⟩, K⟩
  obtain ⟨a1, c1, rfl⟩ := hc.form
  obtain ⟨a2, c2, rfl⟩ := hd.form
  have HQ := Lib.hid HQ0
  have hwf : Hid (ssWf ls) := inB7_wf HQ0.2.2.2
  have m1 : 1 ≤ m := HQ0.1
  have m7 : m ≤ 7 := HQ0.2.1
  have l30 : ls.length ≤ 30 := HQ0.2.2.1
  have hwd := Lib.hid hwf'
  clear HQ0 hwf'
  obtain ⟨sv, esv⟩ : ∃ sv, sv = sameC m ls m' ls' := ⟨_, rfl⟩
  obtain ⟨od, eod⟩ : ∃ od, od = cnfOkL m' ls' := ⟨_, rfl⟩
  have S1 : Hid (∀ x y wx, IntSS wx x ls → IntSS wx y ls' → Calls Try.prog 24 #[.agg #[.int .i64 m, x], .agg #[.int .i64 m', y]] wx (fun e w' => e = .returned (.bool sv) ∧ Below wx.heap.size wx w')) := fun x y wx h1 h2 => by rw [esv]; exact cnfSame_impl m x ls m' y ls' wx h1 h2
  have S2 : Hid (∀ x y wx, IntSS wx x ls → IntSS wx y ls' → Calls Try.prog 22 #[.agg #[.int .i64 m, x], .agg #[.int .i64 m', y]] wx (fun e w' => e = .returned (.bool sv) ∧ Below wx.heap.size wx w')) := fun x y wx h1 h2 => by rw [esv]; exact cnfSame_spec m x ls m' y ls' wx h1 h2
  have S3 : Hid (∀ x y wx, IntSS wx x ls' → IntSS wx y ls → Calls Try.prog 24 #[.agg #[.int .i64 m', x], .agg #[.int .i64 m, y]] wx (fun e w' => e = .returned (.bool sv) ∧ Below wx.heap.size wx w')) := fun x y wx h1 h2 => by rw [esv, ← sameC_symm]; exact cnfSame_impl m' x ls' m y ls wx h1 h2
  have S4 : Hid (∀ x wx, IntSS wx x ls → Calls Try.prog 24 #[.agg #[.int .i64 m, x], .agg #[.int .i64 m, x]] wx (fun e w' => e = .returned (.bool true) ∧ Below wx.heap.size wx w')) := fun x wx h1 => by rw [← sameC_self m ls]; exact cnfSame_impl m x ls m x ls wx h1 h1
  have O1 : Hid (∀ x wx, IntSS wx x ls' → Calls Try.prog 27 #[.agg #[.int .i64 m', x]] wx (fun e w' => e = .returned (.bool od) ∧ Below wx.heap.size wx w')) := fun x wx h1 => by rw [eod]; exact cnfOk_impl m' x ls' wx h1 hwd.out
  have O2 : Hid (∀ x wx, IntSS wx x ls' → Calls Try.prog 26 #[.agg #[.int .i64 m', x]] wx (fun e w' => e = .returned (.bool od) ∧ Below wx.heap.size wx w')) := fun x wx h1 => by rw [eod]; exact cnfOk_spec m' x ls' wx h1
  have HM := Lib.hid hm'
  clear esv eod hwd hm' hlen'
  replace hc := hc.below (below_step (below_self_alloc w1 (.cells #[.int .i64 m, .slice a1 ls.length c1] 38)) (.cells #[.int .i64 m', .slice a2 ls'.length c2] 38))
  replace hd := hd.below (below_step (below_self_alloc w1 (.cells #[.int .i64 m, .slice a1 ls.length c1] 38)) (.cells #[.int .i64 m', .slice a2 ls'.length c2] 38))
  replace K := below_step (below_step K (.cells #[.int .i64 m, .slice a1 ls.length c1] 38)) (.cells #[.int .i64 m', .slice a2 ls'.length c2] 38)
  have C := (blk_new w1 (.int .i64 m) (.slice a1 ls.length c1) 38).alloc (.cells #[.int .i64 m', .slice a2 ls'.length c2] 38)
  have D := blk_new1 w1 (.cells #[.int .i64 m, .slice a1 ls.length c1] 38) (.int .i64 m') (.slice a2 ls'.length c2) 38
  obtain ⟨C0, C1, C2⟩ := C.cells
  obtain ⟨D0, D1, D2⟩ := D.cells
  go_wp2_with fail
  clear C0 C1 C2 D0 D1 D2
  replace C := C.drew
  replace D := D.drew
  replace hc := hc.drew
  replace hd := hd.drew
  replace K := K.drew
  have sS := And.intro (And.intro C.cells.1 (C.cells.2.1)) (And.intro D.cells.1 (D.cells.2.1))
  first
    | (go_region_held3 (fun wx : World => (wx.cell? ⟨w1.heap.size, 0, none⟩ = some (.int .i64 m) ∧ wx.cell? ⟨w1.heap.size, 1, none⟩ = some (.slice a1 ls.length c1)) ∧ (wx.cell? ⟨(w1.heap.size + 1), 0, none⟩ = some (.int .i64 m') ∧ wx.cell? ⟨(w1.heap.size + 1), 1, none⟩ = some (.slice a2 ls'.length c2))) (first | (with_reducible assumption)) (first | (go_at_call 24; (with_reducible refine (S1.out _ _ _ hc.now hd.now).mono ?_); rintro e w2 ⟨rfl, hb⟩; replace C := C.keep hb; replace D := D.keep hb; replace hc := hc.below hb; replace hd := hd.below hb; replace K := below_two K hb; clear hb; replace sS := And.intro (And.intro C.cells.1 (C.cells.2.1)) (And.intro D.cells.1 (D.cells.2.1))) | (go_at_call 22; (with_reducible refine (S2.out _ _ _ hc.now hd.now).mono ?_); rintro e w2 ⟨rfl, hb⟩; replace C := C.keep hb; replace D := D.keep hb; replace hc := hc.below hb; replace hd := hd.below hb; replace K := below_two K hb; clear hb; replace sS := And.intro (And.intro C.cells.1 (C.cells.2.1)) (And.intro D.cells.1 (D.cells.2.1))) | (go_at_call 24; (with_reducible refine (S3.out _ _ _ hd.now hc.now).mono ?_); rintro e w2 ⟨rfl, hb⟩; replace C := C.keep hb; replace D := D.keep hb; replace hc := hc.below hb; replace hd := hd.below hb; replace K := below_two K hb; clear hb; replace sS := And.intro (And.intro C.cells.1 (C.cells.2.1)) (And.intro D.cells.1 (D.cells.2.1))) | (go_at_call 24; (with_reducible refine (S4.out _ _ hc.now).mono ?_); rintro e w2 ⟨rfl, hb⟩; replace C := C.keep hb; replace D := D.keep hb; replace hc := hc.below hb; replace hd := hd.below hb; replace K := below_two K hb; clear hb; replace sS := And.intro (And.intro C.cells.1 (C.cells.2.1)) (And.intro D.cells.1 (D.cells.2.1))) | (go_at_call 27; (with_reducible refine (O1.out _ _ hd.now).mono ?_); rintro e w2 ⟨rfl, hb⟩; replace C := C.keep hb; replace D := D.keep hb; replace hc := hc.below hb; replace hd := hd.below hb; replace K := below_two K hb; clear hb; replace sS := And.intro (And.intro C.cells.1 (C.cells.2.1)) (And.intro D.cells.1 (D.cells.2.1))) | (go_at_call 26; (with_reducible refine (O2.out _ _ hd.now).mono ?_); rintro e w2 ⟨rfl, hb⟩; replace C := C.keep hb; replace D := D.keep hb; replace hc := hc.below hb; replace hd := hd.below hb; replace K := below_two K hb; clear hb; replace sS := And.intro (And.intro C.cells.1 (C.cells.2.1)) (And.intro D.cells.1 (D.cells.2.1)))))
    | fail
  clear sS
  obtain ⟨C0, C1, C2⟩ := C.cells
  obtain ⟨D0, D1, D2⟩ := D.cells
  go_wp2_with fail
  clear S1 S2 S3 S4 O1 O2 HM
  clear C0 C1 C2 D0 D1 D2
  clear D hd
  obtain ⟨C0, C1, C2⟩ := C.cells
  obtain ⟨oc, eoc⟩ : ∃ oc, oc = cnfOkL m ls := ⟨_, rfl⟩
  have O3 : Hid (∀ x wx, IntSS wx x ls → Calls Try.prog 27 #[.agg #[.int .i64 m, x]] wx (fun e w' => e = .returned (.bool oc) ∧ Below wx.heap.size wx w')) := fun x wx h1 => by rw [eoc]; exact cnfOk_impl m x ls wx h1 hwf.out
  have EO := Lib.hid eoc
  clear eoc
  refine (O3.out _ _ hc.now).mono ?_; rintro e w3 ⟨rfl, hb⟩
  clear C0 C1 C2
  replace C := C.keep hb
  replace hc := hc.below hb
  replace K := below_two K hb
  clear hb
  obtain ⟨C0, C1, C2⟩ := C.cells
  clear O3
  cases oc
  · go_wp2_with fail
    go_ret
    exact ⟨rfl, K⟩
  have g1 : ¬ m < 1 := by omega
  have gw : IntKind.i64.wrap (m + 1) = m + 1 := IntWalk.i64_in _ (by omega)
  go_upto_region 8 with fail
  go_cut [5] (fun s8 wx => ∃ (g2 : Nat) (x : Value), s8 = .pointer (some ⟨g2, 0, none⟩) ∧ Blk wx g2 (.int .i64 m) x 38 ∧ IntSS wx x (ls ++ [[m + 1]]) ∧ Below w3.heap.size w3 wx)
  case first =>
    obtain ⟨i0, hi, hz0, hz1, hz2⟩ := info_parts infoInts
    have gl := C.lt
    clear C0 C1 C2
    obtain ⟨C0, C1, C2⟩ := C.cells
    have s0 := And.intro C0 C1
    obtain ⟨a, cap, F, e, hnn, hR, hF⟩ := hc
    cases e
    rcases hnn with ⟨rfl, rfl⟩ | ⟨b1, rfl⟩
    · obtain rfl : ls = [] := by
        obtain ⟨_, _, h3⟩ := hR w3 (Kept.refl _ _)
        rcases h3 with h3 | ⟨b, o, e, _⟩
        · exact List.length_eq_zero_iff.1 h3
        · cases e
      clear hR hF
      rw [List.length_nil] at *
      refine wp_region_noPanic ?_
      refine wp_region_held_drew (S := fun wx : World => wx.cell? ⟨w1.heap.size, 0, none⟩ = some (.int .i64 m) ∧ wx.cell? ⟨w1.heap.size, 1, none⟩ = some (.slice none 0 0)) (by kernel_rfl) (s0) (fun hHeld => ?_)
      refine wpAnyH_take (i := 0) (oi := { dst := some 54, op := Go.Op.fieldAddr 38 (Go.Operand.tmp 3) 0, type := 0, pos := _, after := #[], guard := none }) (v := ?_) rfl (by kernel_rfl) (by kernel_rfl) (by kernel_rfl) (fun _ _ _ h => h) (Or.inl ⟨by rfl, ?_⟩) hHeld ?_
      rotate_left
      · (intro wq hSw; (try dsimp only at hSw); (try go_simp); (try with_reducible rfl))
      try simp only [Act.put, List.setIfInBounds_toArray, List.set_cons_zero, List.set_cons_succ]
      refine wpAnyH_take (i := 1) (oi := { dst := some 55, op := Go.Op.load 3 (Go.Operand.tmp 54), type := 3, pos := _, after := #[{ on := 0, ground := Go.Ground.data }], guard := none }) (v := ?_) rfl (by kernel_rfl) (by kernel_rfl) (by kernel_rfl) (fun _ _ _ h => h) (Or.inl ⟨by rfl, ?_⟩) hHeld ?_
      rotate_left
      · (intro wq hSw; (try dsimp only at hSw); (try go_simp); (try with_reducible rfl))
      try simp only [Act.put, List.setIfInBounds_toArray, List.set_cons_zero, List.set_cons_succ]
      refine wpAnyH_take (i := 3) (oi := { dst := some 57, op := Go.Op.fieldAddr 38 (Go.Operand.tmp 3) 1, type := 0, pos := _, after := #[], guard := none }) (v := ?_) rfl (by kernel_rfl) (by kernel_rfl) (by kernel_rfl) (fun _ _ _ h => h) (Or.inl ⟨by rfl, ?_⟩) hHeld ?_
      rotate_left
      · (intro wq hSw; (try dsimp only at hSw); (try go_simp); (try with_reducible rfl))
      try simp only [Act.put, List.setIfInBounds_toArray, List.set_cons_zero, List.set_cons_succ]
      refine wpAnyH_take (i := 4) (oi := { dst := some 58, op := Go.Op.load 33 (Go.Operand.tmp 57), type := 33, pos := _, after := #[{ on := 3, ground := Go.Ground.data }], guard := none }) (v := ?_) rfl (by kernel_rfl) (by kernel_rfl) (by kernel_rfl) (fun _ _ _ h => h) (Or.inl ⟨by rfl, ?_⟩) hHeld ?_
      rotate_left
      · (intro wq hSw; (try dsimp only at hSw); (try go_simp); (try with_reducible rfl))
      try simp only [Act.put, List.setIfInBounds_toArray, List.set_cons_zero, List.set_cons_succ]
      refine wpAnyH_take (i := 6) (oi := { dst := some 60, op := Go.Op.fieldAddr 38 (Go.Operand.tmp 3) 0, type := 0, pos := _, after := #[], guard := none }) (v := ?_) rfl (by kernel_rfl) (by kernel_rfl) (by kernel_rfl) (fun _ _ _ h => h) (Or.inl ⟨by rfl, ?_⟩) hHeld ?_
      rotate_left
      · (intro wq hSw; (try dsimp only at hSw); (try go_simp); (try with_reducible rfl))
      try simp only [Act.put, List.setIfInBounds_toArray, List.set_cons_zero, List.set_cons_succ]
      refine wpAnyH_take (i := 7) (oi := { dst := some 61, op := Go.Op.load 3 (Go.Operand.tmp 60), type := 3, pos := _, after := #[{ on := 6, ground := Go.Ground.data }], guard := none }) (v := ?_) rfl (by kernel_rfl) (by kernel_rfl) (by kernel_rfl) (fun _ _ _ h => h) (Or.inl ⟨by rfl, ?_⟩) hHeld ?_
      rotate_left
      · (intro wq hSw; (try dsimp only at hSw); (try go_simp); (try with_reducible rfl))
      try simp only [Act.put, List.setIfInBounds_toArray, List.set_cons_zero, List.set_cons_succ]
      refine wpAnyH_take (i := 8) (oi := { dst := some 62, op := Go.Op.binOp Go.BinOp.add 3 (Go.Operand.tmp 61) (Go.Operand.const (Go.Value.int Go.IntKind.i64 1)) 3, type := 3, pos := _, after := #[{ on := 7, ground := Go.Ground.data }], guard := none }) (v := ?_) rfl (by kernel_rfl) (by kernel_rfl) (by kernel_rfl) (fun _ _ _ h => h) (Or.inl ⟨by rfl, ?_⟩) hHeld ?_
      rotate_left
      · (intro wq hSw; (try dsimp only at hSw); (try go_simp); (try with_reducible rfl))
      try simp only [Act.put, List.setIfInBounds_toArray, List.set_cons_zero, List.set_cons_succ]
      refine dia_AG w3 22 1 [] (fun kg : Nat => [.slice (some ⟨kg, 0, none⟩) 1 1]) 0 1 (.cells #[.int .i64 0, .slice none 0 0] 38) (.cells #[.int .i64 (m + 1)] 3) (fun kg : Nat => .cells #[.slice (some ⟨kg, 0, none⟩) 1 1] 22) (fun k => .pointer (some ⟨k, 0, none⟩)) (fun k => .slice (some ⟨k, 0, none⟩) 1 1) (fun k => .slice (some ⟨k, 0, none⟩) 1 1) (iA := 13) (iB := 2) (iD := 5) (iG := 9) (iE := 10) (iF := 11) (yA := 5) (yB := 56) (yD := 59) (yG := 63) (yE := 64) (yF := 65) (oA := { dst := some 5, op := Go.Op.alloc 38, type := 0, pos := _, after := #[], guard := none }) (oB := { dst := some 56, op := Go.Op.buildSlice 33 0 #[], type := 33, pos := _, after := #[], guard := none }) (oD := { dst := some 59, op := Go.Op.call { callee := Go.Callee.builtin Go.Builtin.append, args := #[Go.Operand.tmp 56, Go.Operand.tmp 58], argTypes := #[33, 33] }, type := 33, pos := _, after := #[{ on := 2, ground := Go.Ground.data }, { on := 4, ground := Go.Ground.data }], guard := none }) (oG := { dst := some 63, op := Go.Op.buildSlice 22 1 #[(0, Go.Operand.tmp 62)], type := 22, pos := _, after := #[{ on := 8, ground := Go.Ground.data }], guard := none }) (oE := { dst := some 64, op := Go.Op.buildSlice 33 1 #[(0, Go.Operand.tmp 63)], type := 33, pos := _, after := #[{ on := 9, ground := Go.Ground.data }], guard := none }) (oF := { dst := some 65, op := Go.Op.call { callee := Go.Callee.builtin Go.Builtin.append, args := #[Go.Operand.tmp 59, Go.Operand.tmp 64], argTypes := #[33, 33] }, type := 33, pos := _, after := #[{ on := 5, ground := Go.Ground.data }, { on := 10, ground := Go.Ground.data }, { on := 5, ground := Go.Ground.chain }], guard := none }) (N := 2) rfl rfl rfl rfl rfl rfl (by kernel_rfl) (by decide) ⟨of_decide_eq_true rfl, of_decide_eq_true rfl, of_decide_eq_true rfl, of_decide_eq_true rfl, of_decide_eq_true rfl, of_decide_eq_true rfl⟩ (by decide) (fun w hb => two_keep hb gl s0) ?hA ?hB ?hG ?hE ?hD ?hF ?h1 ?h0 ((Below.refl _ _).drew)
      case hA => intro a w K h; go_simp; exact h
      case hB => intro a w K h; go_simp; exact h
      case hG => intro a w K hag h; have e : a.tmps[62]?.getD undef = .int .i64 (m + 1) := (by (have := hag 62 (by decide) (by decide) (by decide) (by decide) (by decide) (by decide); rw [← Array.getD_eq_getD_getElem?]; exact this)); go_simp; (try simp only [e]); (try go_simp); exact h
      case hE => intro a w K kg hag e0 h; have e : a.tmps[63]?.getD undef = .slice (some ⟨kg, 0, none⟩) 1 1 := (by rw [← Array.getD_eq_getD_getElem?]; exact e0); go_simp; (try simp only [e]); (try go_simp); exact h
      case hD =>
        intro a w K kb hag e1 hb own h
        refine step_append_none _ rfl (.tmp 56) (.tmp 58) _ rfl w3.heap.size 22 i0 1 Try.underlying33 hi (.slice (some ⟨kb, 0, none⟩) 0 0) 0 [] e1 own (hag 58 (by decide) (by decide) (by decide) (by decide) (by decide) (by decide)) ?_
        exact h _ _ own (World.grownBy.refl _ _) (.inl rfl)
      case hF =>
        intro a w K kg ke vd hag e1 e2 hb own hk h
        refine step_append_lies _ rfl (.tmp 59) (.tmp 64) _ rfl w3.heap.size 22 i0 (.slice none 0 0) 1 24 Try.underlying33 hi hz0 hz1 hz2 rfl (by omega) vd 0 [] e1 own ⟨ke, 0, none⟩ 1 1 [.slice (some ⟨kg, 0, none⟩) 1 1] e2 rfl (World.news_of_block hk) (by simp [Value.oneCell']) (by omega) (by unfold maxLen; omega) (by omega) hb.size _ rfl ?_
        intro b2 cap2 z2 o1 o2 o3 o4
        exact h _ _ o1 o2 (o3.elim (fun e => .inl e.symm) (fun e => .inr (by rw [e]; rfl)))
      case h1 =>
        intro ka kb kg ke vd vf w2 hb gA hA nA gG hG nG own hHeld
        obtain ⟨g5, c5, rfl, _, _⟩ := own.form (by omega)
        have qz : Blk w2 ka (.int .i64 0) (.slice none 0 0) 38 := (by unfold Blk; exact hA)
        obtain ⟨qz0, qz1, qzl⟩ := qz.cells
        obtain ⟨qf0, qf1⟩ := qz.frozen
        have B3 := ((hb).setCell (p := ⟨ka, 0, none⟩) gA (.int .i64 m)).setCell (p := ⟨ka, 1, none⟩) gA (.slice (some ⟨g5, 0, none⟩) 1 c5)
        have own3 := own_setCell (own_setCell own (p := ⟨ka, 0, none⟩) nA (.int .i64 m)) (p := ⟨ka, 1, none⟩) nA (.slice (some ⟨g5, 0, none⟩) 1 c5)
        have nAG : kg ≠ ka := fun e => by (subst e; rw [hA] at hG; simp at hG)
        have hG3 := hk_set (hk_set hG (p := ⟨ka, 0, none⟩) nAG (.int .i64 m)) (p := ⟨ka, 1, none⟩) nAG (.slice (some ⟨g5, 0, none⟩) 1 c5)
        try simp only [Act.put, List.setIfInBounds_toArray, List.set_cons_zero, List.set_cons_succ]
        refine wpAnyH_take (i := 12) (oi := { dst := some 66, op := Go.Op.build 38 #[(0, Go.Operand.tmp 55), (1, Go.Operand.tmp 65)], type := 38, pos := _, after := #[{ on := 1, ground := Go.Ground.data }, { on := 11, ground := Go.Ground.data }], guard := none }) (v := ?_) rfl (by kernel_rfl) (by kernel_rfl) (by kernel_rfl) (fun _ _ _ h => h) (Or.inl ⟨by rfl, ?_⟩) hHeld ?_
        rotate_left
        · (intro wq hSw; (try dsimp only at hSw); (try go_simp); (try with_reducible rfl))
        try simp only [Act.put, List.setIfInBounds_toArray, List.set_cons_zero, List.set_cons_succ]
        refine wpAnyH_ready (rs := [14]) (by kernel_rfl) (by simp) ?_
        refine AllReadyH.cons (o := { dst := none, op := Go.Op.store 38 (Go.Operand.tmp 5) (Go.Operand.tmp 66), type := 0, pos := _, after := #[{ on := 13, ground := Go.Ground.data }, { on := 12, ground := Go.Ground.data }, { on := 11, ground := Go.Ground.chain }, { on := 0, ground := Go.Ground.phase }, { on := 1, ground := Go.Ground.phase }, { on := 2, ground := Go.Ground.phase }, { on := 3, ground := Go.Ground.phase }, { on := 4, ground := Go.Ground.phase }, { on := 5, ground := Go.Ground.phase }, { on := 6, ground := Go.Ground.phase }, { on := 7, ground := Go.Ground.phase }, { on := 8, ground := Go.Ground.phase }, { on := 9, ground := Go.Ground.phase }, { on := 10, ground := Go.Ground.phase }, { on := 11, ground := Go.Ground.phase }, { on := 12, ground := Go.Ground.phase }, { on := 13, ground := Go.Ground.phase }], guard := none }) rfl (fun KK hKK => ?_) AllReadyH.nil
        go_simp
        refine hKK.out _ _ (two_keep (w := w3) (((hb).setCell (p := ⟨ka, 0, none⟩) gA _).setCell (p := ⟨ka, 1, none⟩) gA _) gl s0) (fun hHeld => ?_)
        clear hKK KK
        try simp only [Act.put, List.setIfInBounds_toArray, List.set_cons_zero, List.set_cons_succ]
        refine wpAnyH_done (by kernel_rfl) ?_ _
        refine NoPanic.normal ?_
        go_wp2_with fail
        go_meet
        exact ⟨ka, _, rfl, (qz.set0 _).set1 _, intSS_of (ls := []) own3 (by first | rfl | omega) (by rfl) (fun i hi => absurd hi (by simp)) (ints_at (l := [m + 1]) hG3 (by simp [maxLen])), B3⟩
      case h0 =>
        intro kb kg ke vd vf w2 hb gG hG nG own hHeld
        obtain ⟨g5, c5, rfl, _, _⟩ := own.form (by omega)
        have B3 := below_step hb (.cells #[.int .i64 m, (.slice (some ⟨g5, 0, none⟩) 1 c5)] 38)
        have own3 := own.alloc (.cells #[.int .i64 m, (.slice (some ⟨g5, 0, none⟩) 1 c5)] 38)
        have hG3 := hk_alloc (o' := (.cells #[.int .i64 m, (.slice (some ⟨g5, 0, none⟩) 1 c5)] 38)) hG
        try simp only [Act.put, List.setIfInBounds_toArray, List.set_cons_zero, List.set_cons_succ]
        refine wpAnyH_take (i := 12) (oi := { dst := some 66, op := Go.Op.build 38 #[(0, Go.Operand.tmp 55), (1, Go.Operand.tmp 65)], type := 38, pos := _, after := #[{ on := 1, ground := Go.Ground.data }, { on := 11, ground := Go.Ground.data }], guard := none }) (v := ?_) rfl (by kernel_rfl) (by kernel_rfl) (by kernel_rfl) (fun _ _ _ h => h) (Or.inl ⟨by rfl, ?_⟩) hHeld ?_
        rotate_left
        · (intro wq hSw; (try dsimp only at hSw); (try go_simp); (try with_reducible rfl))
        try simp only [Act.put, List.setIfInBounds_toArray, List.set_cons_zero, List.set_cons_succ]
        refine wpAnyH_ready (rs := [13]) (by kernel_rfl) (by simp) ?_
        refine AllReadyH.cons (o := { dst := some 5, op := Go.Op.alloc 38, type := 0, pos := _, after := #[], guard := none }) rfl (fun KK hKK => ?_) AllReadyH.nil
        go_simp
        refine hKK.out _ _ (two_keep (w := w3) (below_step hb _) gl s0) (fun hHeld => ?_)
        clear hKK KK
        try simp only [Act.put, List.setIfInBounds_toArray, List.set_cons_zero, List.set_cons_succ]
        refine wpAnyH_ready (rs := [14]) (by kernel_rfl) (by simp) ?_
        refine AllReadyH.cons (o := { dst := none, op := Go.Op.store 38 (Go.Operand.tmp 5) (Go.Operand.tmp 66), type := 0, pos := _, after := #[{ on := 13, ground := Go.Ground.data }, { on := 12, ground := Go.Ground.data }, { on := 11, ground := Go.Ground.chain }, { on := 0, ground := Go.Ground.phase }, { on := 1, ground := Go.Ground.phase }, { on := 2, ground := Go.Ground.phase }, { on := 3, ground := Go.Ground.phase }, { on := 4, ground := Go.Ground.phase }, { on := 5, ground := Go.Ground.phase }, { on := 6, ground := Go.Ground.phase }, { on := 7, ground := Go.Ground.phase }, { on := 8, ground := Go.Ground.phase }, { on := 9, ground := Go.Ground.phase }, { on := 10, ground := Go.Ground.phase }, { on := 11, ground := Go.Ground.phase }, { on := 12, ground := Go.Ground.phase }, { on := 13, ground := Go.Ground.phase }], guard := none }) rfl (fun KK hKK => ?_) AllReadyH.nil
        go_simp
        refine hKK.out _ _ (two_keep (w := w3) (below_step hb _) gl s0) (fun hHeld => ?_)
        clear hKK KK
        try simp only [Act.put, List.setIfInBounds_toArray, List.set_cons_zero, List.set_cons_succ]
        refine wpAnyH_done (by kernel_rfl) ?_ _
        refine NoPanic.normal ?_
        go_wp2_with fail
        go_meet
        exact ⟨w2.heap.size, _, rfl, blk_new w2 _ _ _, intSS_of (ls := []) own3 (by first | rfl | omega) (by rfl) (fun i hi => absurd hi (by simp)) (ints_at (l := [m + 1]) hG3 (by simp [maxLen])), B3⟩
    · have hnew := Lib.hid (fun w' h => (hR w' h).news)
      have hone : Hid (∀ u ∈ (List.range ls.length).map F, u.oneCell' = true) := by
        intro u hu
        obtain ⟨i, hi, rfl⟩ := List.mem_map.1 hu
        obtain ⟨a', c', e, _⟩ := (hF i (List.mem_range.1 hi)).now
        rw [e]; rfl
      have hlen : ((List.range ls.length).map F).length = ls.length * 1 := by simp
      have HF : Hid (∀ i, i < ls.length → ((List.range ls.length).map F).getD i undef = F i ∧ KI 0 w3 (F i) (ls.getD i [])) := fun i hi => ⟨by simp [List.getD_eq_getElem?_getD, hi], hF i hi⟩
      generalize (List.range ls.length).map F = fs at *
      clear hR hF
      refine wp_region_noPanic ?_
      refine wp_region_held_drew (S := fun wx : World => wx.cell? ⟨w1.heap.size, 0, none⟩ = some (.int .i64 m) ∧ wx.cell? ⟨w1.heap.size, 1, none⟩ = some (.slice (some ⟨b1, 0, none⟩) ls.length c1)) (by kernel_rfl) (s0) (fun hHeld => ?_)
      refine wpAnyH_take (i := 0) (oi := { dst := some 54, op := Go.Op.fieldAddr 38 (Go.Operand.tmp 3) 0, type := 0, pos := _, after := #[], guard := none }) (v := ?_) rfl (by kernel_rfl) (by kernel_rfl) (by kernel_rfl) (fun _ _ _ h => h) (Or.inl ⟨by rfl, ?_⟩) hHeld ?_
      rotate_left
      · (intro wq hSw; (try dsimp only at hSw); (try go_simp); (try with_reducible rfl))
      try simp only [Act.put, List.setIfInBounds_toArray, List.set_cons_zero, List.set_cons_succ]
      refine wpAnyH_take (i := 1) (oi := { dst := some 55, op := Go.Op.load 3 (Go.Operand.tmp 54), type := 3, pos := _, after := #[{ on := 0, ground := Go.Ground.data }], guard := none }) (v := ?_) rfl (by kernel_rfl) (by kernel_rfl) (by kernel_rfl) (fun _ _ _ h => h) (Or.inl ⟨by rfl, ?_⟩) hHeld ?_
      rotate_left
      · (intro wq hSw; (try dsimp only at hSw); (try go_simp); (try with_reducible rfl))
      try simp only [Act.put, List.setIfInBounds_toArray, List.set_cons_zero, List.set_cons_succ]
      refine wpAnyH_take (i := 3) (oi := { dst := some 57, op := Go.Op.fieldAddr 38 (Go.Operand.tmp 3) 1, type := 0, pos := _, after := #[], guard := none }) (v := ?_) rfl (by kernel_rfl) (by kernel_rfl) (by kernel_rfl) (fun _ _ _ h => h) (Or.inl ⟨by rfl, ?_⟩) hHeld ?_
      rotate_left
      · (intro wq hSw; (try dsimp only at hSw); (try go_simp); (try with_reducible rfl))
      try simp only [Act.put, List.setIfInBounds_toArray, List.set_cons_zero, List.set_cons_succ]
      refine wpAnyH_take (i := 4) (oi := { dst := some 58, op := Go.Op.load 33 (Go.Operand.tmp 57), type := 33, pos := _, after := #[{ on := 3, ground := Go.Ground.data }], guard := none }) (v := ?_) rfl (by kernel_rfl) (by kernel_rfl) (by kernel_rfl) (fun _ _ _ h => h) (Or.inl ⟨by rfl, ?_⟩) hHeld ?_
      rotate_left
      · (intro wq hSw; (try dsimp only at hSw); (try go_simp); (try with_reducible rfl))
      try simp only [Act.put, List.setIfInBounds_toArray, List.set_cons_zero, List.set_cons_succ]
      refine wpAnyH_take (i := 6) (oi := { dst := some 60, op := Go.Op.fieldAddr 38 (Go.Operand.tmp 3) 0, type := 0, pos := _, after := #[], guard := none }) (v := ?_) rfl (by kernel_rfl) (by kernel_rfl) (by kernel_rfl) (fun _ _ _ h => h) (Or.inl ⟨by rfl, ?_⟩) hHeld ?_
      rotate_left
      · (intro wq hSw; (try dsimp only at hSw); (try go_simp); (try with_reducible rfl))
      try simp only [Act.put, List.setIfInBounds_toArray, List.set_cons_zero, List.set_cons_succ]
      refine wpAnyH_take (i := 7) (oi := { dst := some 61, op := Go.Op.load 3 (Go.Operand.tmp 60), type := 3, pos := _, after := #[{ on := 6, ground := Go.Ground.data }], guard := none }) (v := ?_) rfl (by kernel_rfl) (by kernel_rfl) (by kernel_rfl) (fun _ _ _ h => h) (Or.inl ⟨by rfl, ?_⟩) hHeld ?_
      rotate_left
      · (intro wq hSw; (try dsimp only at hSw); (try go_simp); (try with_reducible rfl))
      try simp only [Act.put, List.setIfInBounds_toArray, List.set_cons_zero, List.set_cons_succ]
      refine wpAnyH_take (i := 8) (oi := { dst := some 62, op := Go.Op.binOp Go.BinOp.add 3 (Go.Operand.tmp 61) (Go.Operand.const (Go.Value.int Go.IntKind.i64 1)) 3, type := 3, pos := _, after := #[{ on := 7, ground := Go.Ground.data }], guard := none }) (v := ?_) rfl (by kernel_rfl) (by kernel_rfl) (by kernel_rfl) (fun _ _ _ h => h) (Or.inl ⟨by rfl, ?_⟩) hHeld ?_
      rotate_left
      · (intro wq hSw; (try dsimp only at hSw); (try go_simp); (try with_reducible rfl))
      try simp only [Act.put, List.setIfInBounds_toArray, List.set_cons_zero, List.set_cons_succ]
      refine dia_AG w3 22 1 fs (fun kg : Nat => [.slice (some ⟨kg, 0, none⟩) 1 1]) ls.length (ls.length + 1) (.cells #[.int .i64 0, .slice none 0 0] 38) (.cells #[.int .i64 (m + 1)] 3) (fun kg : Nat => .cells #[.slice (some ⟨kg, 0, none⟩) 1 1] 22) (fun k => .pointer (some ⟨k, 0, none⟩)) (fun k => .slice (some ⟨k, 0, none⟩) 1 1) (fun k => .slice (some ⟨k, 0, none⟩) 1 1) (iA := 13) (iB := 2) (iD := 5) (iG := 9) (iE := 10) (iF := 11) (yA := 5) (yB := 56) (yD := 59) (yG := 63) (yE := 64) (yF := 65) (oA := { dst := some 5, op := Go.Op.alloc 38, type := 0, pos := _, after := #[], guard := none }) (oB := { dst := some 56, op := Go.Op.buildSlice 33 0 #[], type := 33, pos := _, after := #[], guard := none }) (oD := { dst := some 59, op := Go.Op.call { callee := Go.Callee.builtin Go.Builtin.append, args := #[Go.Operand.tmp 56, Go.Operand.tmp 58], argTypes := #[33, 33] }, type := 33, pos := _, after := #[{ on := 2, ground := Go.Ground.data }, { on := 4, ground := Go.Ground.data }], guard := none }) (oG := { dst := some 63, op := Go.Op.buildSlice 22 1 #[(0, Go.Operand.tmp 62)], type := 22, pos := _, after := #[{ on := 8, ground := Go.Ground.data }], guard := none }) (oE := { dst := some 64, op := Go.Op.buildSlice 33 1 #[(0, Go.Operand.tmp 63)], type := 33, pos := _, after := #[{ on := 9, ground := Go.Ground.data }], guard := none }) (oF := { dst := some 65, op := Go.Op.call { callee := Go.Callee.builtin Go.Builtin.append, args := #[Go.Operand.tmp 59, Go.Operand.tmp 64], argTypes := #[33, 33] }, type := 33, pos := _, after := #[{ on := 5, ground := Go.Ground.data }, { on := 10, ground := Go.Ground.data }, { on := 5, ground := Go.Ground.chain }], guard := none }) (N := 2) rfl rfl rfl rfl rfl rfl (by kernel_rfl) (by decide) ⟨of_decide_eq_true rfl, of_decide_eq_true rfl, of_decide_eq_true rfl, of_decide_eq_true rfl, of_decide_eq_true rfl, of_decide_eq_true rfl⟩ (by decide) (fun w hb => two_keep hb gl s0) ?hA ?hB ?hG ?hE ?hD ?hF ?h1 ?h0 ((Below.refl _ _).drew)
      case hA => intro a w K h; go_simp; exact h
      case hB => intro a w K h; go_simp; exact h
      case hG => intro a w K hag h; have e : a.tmps[62]?.getD undef = .int .i64 (m + 1) := (by (have := hag 62 (by decide) (by decide) (by decide) (by decide) (by decide) (by decide); rw [← Array.getD_eq_getD_getElem?]; exact this)); go_simp; (try simp only [e]); (try go_simp); exact h
      case hE => intro a w K kg hag e0 h; have e : a.tmps[63]?.getD undef = .slice (some ⟨kg, 0, none⟩) 1 1 := (by rw [← Array.getD_eq_getD_getElem?]; exact e0); go_simp; (try simp only [e]); (try go_simp); exact h
      case hD =>
        intro a w K kb hag e1 hb own h
        refine step_append_at _ rfl (.tmp 56) (.tmp 58) _ rfl w3.heap.size 22 i0 (.slice none 0 0) 1 24 Try.underlying33 hi hz0 hz1 hz2 rfl (by omega) (.slice (some ⟨kb, 0, none⟩) 0 0) 0 [] e1 own ⟨b1, 0, none⟩ ls.length c1 fs (hag 58 (by decide) (by decide) (by decide) (by decide) (by decide) (by decide)) hlen (hnew.out _ (kept_below hb)) hone.out (by unfold maxLen; omega) (by omega) hb.size ?_
        intro v' w' o1 o2 o3
        rw [Nat.zero_add] at o1
        exact h v' w' o1 o2 o3
      case hF =>
        intro a w K kg ke vd hag e1 e2 hb own hk h
        refine step_append_lies _ rfl (.tmp 59) (.tmp 64) _ rfl w3.heap.size 22 i0 (.slice none 0 0) 1 24 Try.underlying33 hi hz0 hz1 hz2 rfl (by omega) vd ls.length fs e1 own ⟨ke, 0, none⟩ 1 1 [.slice (some ⟨kg, 0, none⟩) 1 1] e2 rfl (World.news_of_block hk) (by simp [Value.oneCell']) (by omega) (by unfold maxLen; omega) (by omega) hb.size _ rfl ?_
        intro b2 cap2 z2 o1 o2 o3 o4
        exact h _ _ o1 o2 (o3.elim (fun e => .inl e.symm) (fun e => .inr (by rw [e]; rfl)))
      case h1 =>
        intro ka kb kg ke vd vf w2 hb gA hA nA gG hG nG own hHeld
        obtain ⟨g5, c5, rfl, _, _⟩ := own.form (by omega)
        have qz : Blk w2 ka (.int .i64 0) (.slice none 0 0) 38 := (by unfold Blk; exact hA)
        obtain ⟨qz0, qz1, qzl⟩ := qz.cells
        obtain ⟨qf0, qf1⟩ := qz.frozen
        have B3 := ((hb).setCell (p := ⟨ka, 0, none⟩) gA (.int .i64 m)).setCell (p := ⟨ka, 1, none⟩) gA (.slice (some ⟨g5, 0, none⟩) (ls.length + 1) c5)
        have own3 := own_setCell (own_setCell own (p := ⟨ka, 0, none⟩) nA (.int .i64 m)) (p := ⟨ka, 1, none⟩) nA (.slice (some ⟨g5, 0, none⟩) (ls.length + 1) c5)
        have nAG : kg ≠ ka := fun e => by (subst e; rw [hA] at hG; simp at hG)
        have hG3 := hk_set (hk_set hG (p := ⟨ka, 0, none⟩) nAG (.int .i64 m)) (p := ⟨ka, 1, none⟩) nAG (.slice (some ⟨g5, 0, none⟩) (ls.length + 1) c5)
        try simp only [Act.put, List.setIfInBounds_toArray, List.set_cons_zero, List.set_cons_succ]
        refine wpAnyH_take (i := 12) (oi := { dst := some 66, op := Go.Op.build 38 #[(0, Go.Operand.tmp 55), (1, Go.Operand.tmp 65)], type := 38, pos := _, after := #[{ on := 1, ground := Go.Ground.data }, { on := 11, ground := Go.Ground.data }], guard := none }) (v := ?_) rfl (by kernel_rfl) (by kernel_rfl) (by kernel_rfl) (fun _ _ _ h => h) (Or.inl ⟨by rfl, ?_⟩) hHeld ?_
        rotate_left
        · (intro wq hSw; (try dsimp only at hSw); (try go_simp); (try with_reducible rfl))
        try simp only [Act.put, List.setIfInBounds_toArray, List.set_cons_zero, List.set_cons_succ]
        refine wpAnyH_ready (rs := [14]) (by kernel_rfl) (by simp) ?_
        refine AllReadyH.cons (o := { dst := none, op := Go.Op.store 38 (Go.Operand.tmp 5) (Go.Operand.tmp 66), type := 0, pos := _, after := #[{ on := 13, ground := Go.Ground.data }, { on := 12, ground := Go.Ground.data }, { on := 11, ground := Go.Ground.chain }, { on := 0, ground := Go.Ground.phase }, { on := 1, ground := Go.Ground.phase }, { on := 2, ground := Go.Ground.phase }, { on := 3, ground := Go.Ground.phase }, { on := 4, ground := Go.Ground.phase }, { on := 5, ground := Go.Ground.phase }, { on := 6, ground := Go.Ground.phase }, { on := 7, ground := Go.Ground.phase }, { on := 8, ground := Go.Ground.phase }, { on := 9, ground := Go.Ground.phase }, { on := 10, ground := Go.Ground.phase }, { on := 11, ground := Go.Ground.phase }, { on := 12, ground := Go.Ground.phase }, { on := 13, ground := Go.Ground.phase }], guard := none }) rfl (fun KK hKK => ?_) AllReadyH.nil
        go_simp
        refine hKK.out _ _ (two_keep (w := w3) (((hb).setCell (p := ⟨ka, 0, none⟩) gA _).setCell (p := ⟨ka, 1, none⟩) gA _) gl s0) (fun hHeld => ?_)
        clear hKK KK
        try simp only [Act.put, List.setIfInBounds_toArray, List.set_cons_zero, List.set_cons_succ]
        refine wpAnyH_done (by kernel_rfl) ?_ _
        refine NoPanic.normal ?_
        go_wp2_with fail
        go_meet
        exact ⟨ka, _, rfl, (qz.set0 _).set1 _, intSS_of (ls := ls) own3 (by first | rfl | omega) (by omega) (fun i hi => by rw [(HF.out i hi).1]; exact (HF.out i hi).2 _ (kept_below B3)) (ints_at (l := [m + 1]) hG3 (by simp [maxLen])), B3⟩
      case h0 =>
        intro kb kg ke vd vf w2 hb gG hG nG own hHeld
        obtain ⟨g5, c5, rfl, _, _⟩ := own.form (by omega)
        have B3 := below_step hb (.cells #[.int .i64 m, (.slice (some ⟨g5, 0, none⟩) (ls.length + 1) c5)] 38)
        have own3 := own.alloc (.cells #[.int .i64 m, (.slice (some ⟨g5, 0, none⟩) (ls.length + 1) c5)] 38)
        have hG3 := hk_alloc (o' := (.cells #[.int .i64 m, (.slice (some ⟨g5, 0, none⟩) (ls.length + 1) c5)] 38)) hG
        try simp only [Act.put, List.setIfInBounds_toArray, List.set_cons_zero, List.set_cons_succ]
        refine wpAnyH_take (i := 12) (oi := { dst := some 66, op := Go.Op.build 38 #[(0, Go.Operand.tmp 55), (1, Go.Operand.tmp 65)], type := 38, pos := _, after := #[{ on := 1, ground := Go.Ground.data }, { on := 11, ground := Go.Ground.data }], guard := none }) (v := ?_) rfl (by kernel_rfl) (by kernel_rfl) (by kernel_rfl) (fun _ _ _ h => h) (Or.inl ⟨by rfl, ?_⟩) hHeld ?_
        rotate_left
        · (intro wq hSw; (try dsimp only at hSw); (try go_simp); (try with_reducible rfl))
        try simp only [Act.put, List.setIfInBounds_toArray, List.set_cons_zero, List.set_cons_succ]
        refine wpAnyH_ready (rs := [13]) (by kernel_rfl) (by simp) ?_
        refine AllReadyH.cons (o := { dst := some 5, op := Go.Op.alloc 38, type := 0, pos := _, after := #[], guard := none }) rfl (fun KK hKK => ?_) AllReadyH.nil
        go_simp
        refine hKK.out _ _ (two_keep (w := w3) (below_step hb _) gl s0) (fun hHeld => ?_)
        clear hKK KK
        try simp only [Act.put, List.setIfInBounds_toArray, List.set_cons_zero, List.set_cons_succ]
        refine wpAnyH_ready (rs := [14]) (by kernel_rfl) (by simp) ?_
        refine AllReadyH.cons (o := { dst := none, op := Go.Op.store 38 (Go.Operand.tmp 5) (Go.Operand.tmp 66), type := 0, pos := _, after := #[{ on := 13, ground := Go.Ground.data }, { on := 12, ground := Go.Ground.data }, { on := 11, ground := Go.Ground.chain }, { on := 0, ground := Go.Ground.phase }, { on := 1, ground := Go.Ground.phase }, { on := 2, ground := Go.Ground.phase }, { on := 3, ground := Go.Ground.phase }, { on := 4, ground := Go.Ground.phase }, { on := 5, ground := Go.Ground.phase }, { on := 6, ground := Go.Ground.phase }, { on := 7, ground := Go.Ground.phase }, { on := 8, ground := Go.Ground.phase }, { on := 9, ground := Go.Ground.phase }, { on := 10, ground := Go.Ground.phase }, { on := 11, ground := Go.Ground.phase }, { on := 12, ground := Go.Ground.phase }, { on := 13, ground := Go.Ground.phase }], guard := none }) rfl (fun KK hKK => ?_) AllReadyH.nil
        go_simp
        refine hKK.out _ _ (two_keep (w := w3) (below_step hb _) gl s0) (fun hHeld => ?_)
        clear hKK KK
        try simp only [Act.put, List.setIfInBounds_toArray, List.set_cons_zero, List.set_cons_succ]
        refine wpAnyH_done (by kernel_rfl) ?_ _
        refine NoPanic.normal ?_
        go_wp2_with fail
        go_meet
        exact ⟨w2.heap.size, _, rfl, blk_new w2 _ _ _, intSS_of (ls := ls) own3 (by first | rfl | omega) (by omega) (fun i hi => by rw [(HF.out i hi).1]; exact (HF.out i hi).2 _ (kept_below B3)) (ints_at (l := [m + 1]) hG3 (by simp [maxLen])), B3⟩
  case rest =>
    obtain ⟨gA, xA, rfl, BA, dA, hb6⟩ := hcut
    obtain ⟨vA, rfl⟩ : ∃ vA, vA = wc := ⟨_, rfl⟩
    replace C := C.keep hb6
    replace hc := hc.below hb6
    replace K := below_two K hb6
    clear hb6 C0 C1 C2
    obtain ⟨C0, C1, C2⟩ := C.cells
    go_upto_region 9 with fail
    go_cut [6] (fun s8 wx => ∃ (g2 : Nat) (x : Value), s8 = .pointer (some ⟨g2, 0, none⟩) ∧ Blk wx g2 (.int .i64 m) x 38 ∧ IntSS wx x (ls ++ [[1, -1]]) ∧ Below vA.heap.size vA wx)
    case first =>
      obtain ⟨i0, hi, hz0, hz1, hz2⟩ := info_parts infoInts
      have gl := C.lt
      clear C0 C1 C2
      obtain ⟨C0, C1, C2⟩ := C.cells
      have s0 := And.intro C0 C1
      obtain ⟨a, cap, F, e, hnn, hR, hF⟩ := hc
      cases e
      rcases hnn with ⟨rfl, rfl⟩ | ⟨b1, rfl⟩
      · obtain rfl : ls = [] := by
          obtain ⟨_, _, h3⟩ := hR vA (Kept.refl _ _)
          rcases h3 with h3 | ⟨b, o, e, _⟩
          · exact List.length_eq_zero_iff.1 h3
          · cases e
        clear hR hF
        rw [List.length_nil] at *
        refine wp_region_noPanic ?_
        refine wp_region_held_drew (S := fun wx : World => wx.cell? ⟨w1.heap.size, 0, none⟩ = some (.int .i64 m) ∧ wx.cell? ⟨w1.heap.size, 1, none⟩ = some (.slice none 0 0)) (by kernel_rfl) (s0) (fun hHeld => ?_)
        refine wpAnyH_take (i := 0) (oi := { dst := some 67, op := Go.Op.fieldAddr 38 (Go.Operand.tmp 3) 0, type := 0, pos := _, after := #[], guard := none }) (v := ?_) rfl (by kernel_rfl) (by kernel_rfl) (by kernel_rfl) (fun _ _ _ h => h) (Or.inl ⟨by rfl, ?_⟩) hHeld ?_
        rotate_left
        · (intro wq hSw; (try dsimp only at hSw); (try go_simp); (try with_reducible rfl))
        try simp only [Act.put, List.setIfInBounds_toArray, List.set_cons_zero, List.set_cons_succ]
        refine wpAnyH_take (i := 1) (oi := { dst := some 68, op := Go.Op.load 3 (Go.Operand.tmp 67), type := 3, pos := _, after := #[{ on := 0, ground := Go.Ground.data }], guard := none }) (v := ?_) rfl (by kernel_rfl) (by kernel_rfl) (by kernel_rfl) (fun _ _ _ h => h) (Or.inl ⟨by rfl, ?_⟩) hHeld ?_
        rotate_left
        · (intro wq hSw; (try dsimp only at hSw); (try go_simp); (try with_reducible rfl))
        try simp only [Act.put, List.setIfInBounds_toArray, List.set_cons_zero, List.set_cons_succ]
        refine wpAnyH_take (i := 3) (oi := { dst := some 70, op := Go.Op.fieldAddr 38 (Go.Operand.tmp 3) 1, type := 0, pos := _, after := #[], guard := none }) (v := ?_) rfl (by kernel_rfl) (by kernel_rfl) (by kernel_rfl) (fun _ _ _ h => h) (Or.inl ⟨by rfl, ?_⟩) hHeld ?_
        rotate_left
        · (intro wq hSw; (try dsimp only at hSw); (try go_simp); (try with_reducible rfl))
        try simp only [Act.put, List.setIfInBounds_toArray, List.set_cons_zero, List.set_cons_succ]
        refine wpAnyH_take (i := 4) (oi := { dst := some 71, op := Go.Op.load 33 (Go.Operand.tmp 70), type := 33, pos := _, after := #[{ on := 3, ground := Go.Ground.data }], guard := none }) (v := ?_) rfl (by kernel_rfl) (by kernel_rfl) (by kernel_rfl) (fun _ _ _ h => h) (Or.inl ⟨by rfl, ?_⟩) hHeld ?_
        rotate_left
        · (intro wq hSw; (try dsimp only at hSw); (try go_simp); (try with_reducible rfl))
        try simp only [Act.put, List.setIfInBounds_toArray, List.set_cons_zero, List.set_cons_succ]
        refine dia_AG vA 22 1 [] (fun kg : Nat => [.slice (some ⟨kg, 0, none⟩) 2 2]) 0 1 (.cells #[.int .i64 0, .slice none 0 0] 38) (.cells #[.int .i64 (1), .int .i64 (-1)] 3) (fun kg : Nat => .cells #[.slice (some ⟨kg, 0, none⟩) 2 2] 22) (fun k => .pointer (some ⟨k, 0, none⟩)) (fun k => .slice (some ⟨k, 0, none⟩) 2 2) (fun k => .slice (some ⟨k, 0, none⟩) 1 1) (iA := 10) (iB := 2) (iD := 5) (iG := 6) (iE := 7) (iF := 8) (yA := 6) (yB := 69) (yD := 72) (yG := 73) (yE := 74) (yF := 75) (oA := { dst := some 6, op := Go.Op.alloc 38, type := 0, pos := _, after := #[], guard := none }) (oB := { dst := some 69, op := Go.Op.buildSlice 33 0 #[], type := 33, pos := _, after := #[], guard := none }) (oD := { dst := some 72, op := Go.Op.call { callee := Go.Callee.builtin Go.Builtin.append, args := #[Go.Operand.tmp 69, Go.Operand.tmp 71], argTypes := #[33, 33] }, type := 33, pos := _, after := #[{ on := 2, ground := Go.Ground.data }, { on := 4, ground := Go.Ground.data }], guard := none }) (oG := { dst := some 73, op := Go.Op.buildSlice 22 2 #[(0, Go.Operand.const (Go.Value.int Go.IntKind.i64 1)), (1, Go.Operand.const (Go.Value.int Go.IntKind.i64 (-1)))], type := 22, pos := _, after := #[], guard := none }) (oE := { dst := some 74, op := Go.Op.buildSlice 33 1 #[(0, Go.Operand.tmp 73)], type := 33, pos := _, after := #[{ on := 6, ground := Go.Ground.data }], guard := none }) (oF := { dst := some 75, op := Go.Op.call { callee := Go.Callee.builtin Go.Builtin.append, args := #[Go.Operand.tmp 72, Go.Operand.tmp 74], argTypes := #[33, 33] }, type := 33, pos := _, after := #[{ on := 5, ground := Go.Ground.data }, { on := 7, ground := Go.Ground.data }, { on := 5, ground := Go.Ground.chain }], guard := none }) (N := 2) rfl rfl rfl rfl rfl rfl (by kernel_rfl) (by decide) ⟨of_decide_eq_true rfl, of_decide_eq_true rfl, of_decide_eq_true rfl, of_decide_eq_true rfl, of_decide_eq_true rfl, of_decide_eq_true rfl⟩ (by decide) (fun w hb => two_keep hb gl s0) ?hA ?hB ?hG ?hE ?hD ?hF ?h1 ?h0 ((Below.refl _ _).drew)
        case hA => intro a w K h; go_simp; exact h
        case hB => intro a w K h; go_simp; exact h
        case hG => intro a w K hag h; go_simp; exact h
        case hE => intro a w K kg hag e0 h; have e : a.tmps[73]?.getD undef = .slice (some ⟨kg, 0, none⟩) 2 2 := (by rw [← Array.getD_eq_getD_getElem?]; exact e0); go_simp; (try simp only [e]); (try go_simp); exact h
        case hD =>
          intro a w K kb hag e1 hb own h
          refine step_append_none _ rfl (.tmp 69) (.tmp 71) _ rfl vA.heap.size 22 i0 1 Try.underlying33 hi (.slice (some ⟨kb, 0, none⟩) 0 0) 0 [] e1 own (hag 71 (by decide) (by decide) (by decide) (by decide) (by decide) (by decide)) ?_
          exact h _ _ own (World.grownBy.refl _ _) (.inl rfl)
        case hF =>
          intro a w K kg ke vd hag e1 e2 hb own hk h
          refine step_append_lies _ rfl (.tmp 72) (.tmp 74) _ rfl vA.heap.size 22 i0 (.slice none 0 0) 1 24 Try.underlying33 hi hz0 hz1 hz2 rfl (by omega) vd 0 [] e1 own ⟨ke, 0, none⟩ 1 1 [.slice (some ⟨kg, 0, none⟩) 2 2] e2 rfl (World.news_of_block hk) (by simp [Value.oneCell']) (by omega) (by unfold maxLen; omega) (by omega) hb.size _ rfl ?_
          intro b2 cap2 z2 o1 o2 o3 o4
          exact h _ _ o1 o2 (o3.elim (fun e => .inl e.symm) (fun e => .inr (by rw [e]; rfl)))
        case h1 =>
          intro ka kb kg ke vd vf w2 hb gA hA nA gG hG nG own hHeld
          obtain ⟨g5, c5, rfl, _, _⟩ := own.form (by omega)
          have qz : Blk w2 ka (.int .i64 0) (.slice none 0 0) 38 := (by unfold Blk; exact hA)
          obtain ⟨qz0, qz1, qzl⟩ := qz.cells
          obtain ⟨qf0, qf1⟩ := qz.frozen
          have B3 := ((hb).setCell (p := ⟨ka, 0, none⟩) gA (.int .i64 m)).setCell (p := ⟨ka, 1, none⟩) gA (.slice (some ⟨g5, 0, none⟩) 1 c5)
          have own3 := own_setCell (own_setCell own (p := ⟨ka, 0, none⟩) nA (.int .i64 m)) (p := ⟨ka, 1, none⟩) nA (.slice (some ⟨g5, 0, none⟩) 1 c5)
          have nAG : kg ≠ ka := fun e => by (subst e; rw [hA] at hG; simp at hG)
          have hG3 := hk_set (hk_set hG (p := ⟨ka, 0, none⟩) nAG (.int .i64 m)) (p := ⟨ka, 1, none⟩) nAG (.slice (some ⟨g5, 0, none⟩) 1 c5)
          try simp only [Act.put, List.setIfInBounds_toArray, List.set_cons_zero, List.set_cons_succ]
          refine wpAnyH_take (i := 9) (oi := { dst := some 76, op := Go.Op.build 38 #[(0, Go.Operand.tmp 68), (1, Go.Operand.tmp 75)], type := 38, pos := _, after := #[{ on := 1, ground := Go.Ground.data }, { on := 8, ground := Go.Ground.data }], guard := none }) (v := ?_) rfl (by kernel_rfl) (by kernel_rfl) (by kernel_rfl) (fun _ _ _ h => h) (Or.inl ⟨by rfl, ?_⟩) hHeld ?_
          rotate_left
          · (intro wq hSw; (try dsimp only at hSw); (try go_simp); (try with_reducible rfl))
          try simp only [Act.put, List.setIfInBounds_toArray, List.set_cons_zero, List.set_cons_succ]
          refine wpAnyH_ready (rs := [11]) (by kernel_rfl) (by simp) ?_
          refine AllReadyH.cons (o := { dst := none, op := Go.Op.store 38 (Go.Operand.tmp 6) (Go.Operand.tmp 76), type := 0, pos := _, after := #[{ on := 10, ground := Go.Ground.data }, { on := 9, ground := Go.Ground.data }, { on := 8, ground := Go.Ground.chain }, { on := 0, ground := Go.Ground.phase }, { on := 1, ground := Go.Ground.phase }, { on := 2, ground := Go.Ground.phase }, { on := 3, ground := Go.Ground.phase }, { on := 4, ground := Go.Ground.phase }, { on := 5, ground := Go.Ground.phase }, { on := 6, ground := Go.Ground.phase }, { on := 7, ground := Go.Ground.phase }, { on := 8, ground := Go.Ground.phase }, { on := 9, ground := Go.Ground.phase }, { on := 10, ground := Go.Ground.phase }], guard := none }) rfl (fun KK hKK => ?_) AllReadyH.nil
          go_simp
          refine hKK.out _ _ (two_keep (w := vA) (((hb).setCell (p := ⟨ka, 0, none⟩) gA _).setCell (p := ⟨ka, 1, none⟩) gA _) gl s0) (fun hHeld => ?_)
          clear hKK KK
          try simp only [Act.put, List.setIfInBounds_toArray, List.set_cons_zero, List.set_cons_succ]
          refine wpAnyH_done (by kernel_rfl) ?_ _
          refine NoPanic.normal ?_
          go_wp2_with fail
          go_meet
          exact ⟨ka, _, rfl, (qz.set0 _).set1 _, intSS_of (ls := []) own3 (by first | rfl | omega) (by rfl) (fun i hi => absurd hi (by simp)) (ints_at (l := [1, -1]) hG3 (by simp [maxLen])), B3⟩
        case h0 =>
          intro kb kg ke vd vf w2 hb gG hG nG own hHeld
          obtain ⟨g5, c5, rfl, _, _⟩ := own.form (by omega)
          have B3 := below_step hb (.cells #[.int .i64 m, (.slice (some ⟨g5, 0, none⟩) 1 c5)] 38)
          have own3 := own.alloc (.cells #[.int .i64 m, (.slice (some ⟨g5, 0, none⟩) 1 c5)] 38)
          have hG3 := hk_alloc (o' := (.cells #[.int .i64 m, (.slice (some ⟨g5, 0, none⟩) 1 c5)] 38)) hG
          try simp only [Act.put, List.setIfInBounds_toArray, List.set_cons_zero, List.set_cons_succ]
          refine wpAnyH_take (i := 9) (oi := { dst := some 76, op := Go.Op.build 38 #[(0, Go.Operand.tmp 68), (1, Go.Operand.tmp 75)], type := 38, pos := _, after := #[{ on := 1, ground := Go.Ground.data }, { on := 8, ground := Go.Ground.data }], guard := none }) (v := ?_) rfl (by kernel_rfl) (by kernel_rfl) (by kernel_rfl) (fun _ _ _ h => h) (Or.inl ⟨by rfl, ?_⟩) hHeld ?_
          rotate_left
          · (intro wq hSw; (try dsimp only at hSw); (try go_simp); (try with_reducible rfl))
          try simp only [Act.put, List.setIfInBounds_toArray, List.set_cons_zero, List.set_cons_succ]
          refine wpAnyH_ready (rs := [10]) (by kernel_rfl) (by simp) ?_
          refine AllReadyH.cons (o := { dst := some 6, op := Go.Op.alloc 38, type := 0, pos := _, after := #[], guard := none }) rfl (fun KK hKK => ?_) AllReadyH.nil
          go_simp
          refine hKK.out _ _ (two_keep (w := vA) (below_step hb _) gl s0) (fun hHeld => ?_)
          clear hKK KK
          try simp only [Act.put, List.setIfInBounds_toArray, List.set_cons_zero, List.set_cons_succ]
          refine wpAnyH_ready (rs := [11]) (by kernel_rfl) (by simp) ?_
          refine AllReadyH.cons (o := { dst := none, op := Go.Op.store 38 (Go.Operand.tmp 6) (Go.Operand.tmp 76), type := 0, pos := _, after := #[{ on := 10, ground := Go.Ground.data }, { on := 9, ground := Go.Ground.data }, { on := 8, ground := Go.Ground.chain }, { on := 0, ground := Go.Ground.phase }, { on := 1, ground := Go.Ground.phase }, { on := 2, ground := Go.Ground.phase }, { on := 3, ground := Go.Ground.phase }, { on := 4, ground := Go.Ground.phase }, { on := 5, ground := Go.Ground.phase }, { on := 6, ground := Go.Ground.phase }, { on := 7, ground := Go.Ground.phase }, { on := 8, ground := Go.Ground.phase }, { on := 9, ground := Go.Ground.phase }, { on := 10, ground := Go.Ground.phase }], guard := none }) rfl (fun KK hKK => ?_) AllReadyH.nil
          go_simp
          refine hKK.out _ _ (two_keep (w := vA) (below_step hb _) gl s0) (fun hHeld => ?_)
          clear hKK KK
          try simp only [Act.put, List.setIfInBounds_toArray, List.set_cons_zero, List.set_cons_succ]
          refine wpAnyH_done (by kernel_rfl) ?_ _
          refine NoPanic.normal ?_
          go_wp2_with fail
          go_meet
          exact ⟨w2.heap.size, _, rfl, blk_new w2 _ _ _, intSS_of (ls := []) own3 (by first | rfl | omega) (by rfl) (fun i hi => absurd hi (by simp)) (ints_at (l := [1, -1]) hG3 (by simp [maxLen])), B3⟩
      · have hnew := Lib.hid (fun w' h => (hR w' h).news)
        have hone : Hid (∀ u ∈ (List.range ls.length).map F, u.oneCell' = true) := by
          intro u hu
          obtain ⟨i, hi, rfl⟩ := List.mem_map.1 hu
          obtain ⟨a', c', e, _⟩ := (hF i (List.mem_range.1 hi)).now
          rw [e]; rfl
        have hlen : ((List.range ls.length).map F).length = ls.length * 1 := by simp
        have HF : Hid (∀ i, i < ls.length → ((List.range ls.length).map F).getD i undef = F i ∧ KI 0 vA (F i) (ls.getD i [])) := fun i hi => ⟨by simp [List.getD_eq_getElem?_getD, hi], hF i hi⟩
        generalize (List.range ls.length).map F = fs at *
        clear hR hF
        refine wp_region_noPanic ?_
        refine wp_region_held_drew (S := fun wx : World => wx.cell? ⟨w1.heap.size, 0, none⟩ = some (.int .i64 m) ∧ wx.cell? ⟨w1.heap.size, 1, none⟩ = some (.slice (some ⟨b1, 0, none⟩) ls.length c1)) (by kernel_rfl) (s0) (fun hHeld => ?_)
        refine wpAnyH_take (i := 0) (oi := { dst := some 67, op := Go.Op.fieldAddr 38 (Go.Operand.tmp 3) 0, type := 0, pos := _, after := #[], guard := none }) (v := ?_) rfl (by kernel_rfl) (by kernel_rfl) (by kernel_rfl) (fun _ _ _ h => h) (Or.inl ⟨by rfl, ?_⟩) hHeld ?_
        rotate_left
        · (intro wq hSw; (try dsimp only at hSw); (try go_simp); (try with_reducible rfl))
        try simp only [Act.put, List.setIfInBounds_toArray, List.set_cons_zero, List.set_cons_succ]
        refine wpAnyH_take (i := 1) (oi := { dst := some 68, op := Go.Op.load 3 (Go.Operand.tmp 67), type := 3, pos := _, after := #[{ on := 0, ground := Go.Ground.data }], guard := none }) (v := ?_) rfl (by kernel_rfl) (by kernel_rfl) (by kernel_rfl) (fun _ _ _ h => h) (Or.inl ⟨by rfl, ?_⟩) hHeld ?_
        rotate_left
        · (intro wq hSw; (try dsimp only at hSw); (try go_simp); (try with_reducible rfl))
        try simp only [Act.put, List.setIfInBounds_toArray, List.set_cons_zero, List.set_cons_succ]
        refine wpAnyH_take (i := 3) (oi := { dst := some 70, op := Go.Op.fieldAddr 38 (Go.Operand.tmp 3) 1, type := 0, pos := _, after := #[], guard := none }) (v := ?_) rfl (by kernel_rfl) (by kernel_rfl) (by kernel_rfl) (fun _ _ _ h => h) (Or.inl ⟨by rfl, ?_⟩) hHeld ?_
        rotate_left
        · (intro wq hSw; (try dsimp only at hSw); (try go_simp); (try with_reducible rfl))
        try simp only [Act.put, List.setIfInBounds_toArray, List.set_cons_zero, List.set_cons_succ]
        refine wpAnyH_take (i := 4) (oi := { dst := some 71, op := Go.Op.load 33 (Go.Operand.tmp 70), type := 33, pos := _, after := #[{ on := 3, ground := Go.Ground.data }], guard := none }) (v := ?_) rfl (by kernel_rfl) (by kernel_rfl) (by kernel_rfl) (fun _ _ _ h => h) (Or.inl ⟨by rfl, ?_⟩) hHeld ?_
        rotate_left
        · (intro wq hSw; (try dsimp only at hSw); (try go_simp); (try with_reducible rfl))
        try simp only [Act.put, List.setIfInBounds_toArray, List.set_cons_zero, List.set_cons_succ]
        refine dia_AG vA 22 1 fs (fun kg : Nat => [.slice (some ⟨kg, 0, none⟩) 2 2]) ls.length (ls.length + 1) (.cells #[.int .i64 0, .slice none 0 0] 38) (.cells #[.int .i64 (1), .int .i64 (-1)] 3) (fun kg : Nat => .cells #[.slice (some ⟨kg, 0, none⟩) 2 2] 22) (fun k => .pointer (some ⟨k, 0, none⟩)) (fun k => .slice (some ⟨k, 0, none⟩) 2 2) (fun k => .slice (some ⟨k, 0, none⟩) 1 1) (iA := 10) (iB := 2) (iD := 5) (iG := 6) (iE := 7) (iF := 8) (yA := 6) (yB := 69) (yD := 72) (yG := 73) (yE := 74) (yF := 75) (oA := { dst := some 6, op := Go.Op.alloc 38, type := 0, pos := _, after := #[], guard := none }) (oB := { dst := some 69, op := Go.Op.buildSlice 33 0 #[], type := 33, pos := _, after := #[], guard := none }) (oD := { dst := some 72, op := Go.Op.call { callee := Go.Callee.builtin Go.Builtin.append, args := #[Go.Operand.tmp 69, Go.Operand.tmp 71], argTypes := #[33, 33] }, type := 33, pos := _, after := #[{ on := 2, ground := Go.Ground.data }, { on := 4, ground := Go.Ground.data }], guard := none }) (oG := { dst := some 73, op := Go.Op.buildSlice 22 2 #[(0, Go.Operand.const (Go.Value.int Go.IntKind.i64 1)), (1, Go.Operand.const (Go.Value.int Go.IntKind.i64 (-1)))], type := 22, pos := _, after := #[], guard := none }) (oE := { dst := some 74, op := Go.Op.buildSlice 33 1 #[(0, Go.Operand.tmp 73)], type := 33, pos := _, after := #[{ on := 6, ground := Go.Ground.data }], guard := none }) (oF := { dst := some 75, op := Go.Op.call { callee := Go.Callee.builtin Go.Builtin.append, args := #[Go.Operand.tmp 72, Go.Operand.tmp 74], argTypes := #[33, 33] }, type := 33, pos := _, after := #[{ on := 5, ground := Go.Ground.data }, { on := 7, ground := Go.Ground.data }, { on := 5, ground := Go.Ground.chain }], guard := none }) (N := 2) rfl rfl rfl rfl rfl rfl (by kernel_rfl) (by decide) ⟨of_decide_eq_true rfl, of_decide_eq_true rfl, of_decide_eq_true rfl, of_decide_eq_true rfl, of_decide_eq_true rfl, of_decide_eq_true rfl⟩ (by decide) (fun w hb => two_keep hb gl s0) ?hA ?hB ?hG ?hE ?hD ?hF ?h1 ?h0 ((Below.refl _ _).drew)
        case hA => intro a w K h; go_simp; exact h
        case hB => intro a w K h; go_simp; exact h
        case hG => intro a w K hag h; go_simp; exact h
        case hE => intro a w K kg hag e0 h; have e : a.tmps[73]?.getD undef = .slice (some ⟨kg, 0, none⟩) 2 2 := (by rw [← Array.getD_eq_getD_getElem?]; exact e0); go_simp; (try simp only [e]); (try go_simp); exact h
        case hD =>
          intro a w K kb hag e1 hb own h
          refine step_append_at _ rfl (.tmp 69) (.tmp 71) _ rfl vA.heap.size 22 i0 (.slice none 0 0) 1 24 Try.underlying33 hi hz0 hz1 hz2 rfl (by omega) (.slice (some ⟨kb, 0, none⟩) 0 0) 0 [] e1 own ⟨b1, 0, none⟩ ls.length c1 fs (hag 71 (by decide) (by decide) (by decide) (by decide) (by decide) (by decide)) hlen (hnew.out _ (kept_below hb)) hone.out (by unfold maxLen; omega) (by omega) hb.size ?_
          intro v' w' o1 o2 o3
          rw [Nat.zero_add] at o1
          exact h v' w' o1 o2 o3
        case hF =>
          intro a w K kg ke vd hag e1 e2 hb own hk h
          refine step_append_lies _ rfl (.tmp 72) (.tmp 74) _ rfl vA.heap.size 22 i0 (.slice none 0 0) 1 24 Try.underlying33 hi hz0 hz1 hz2 rfl (by omega) vd ls.length fs e1 own ⟨ke, 0, none⟩ 1 1 [.slice (some ⟨kg, 0, none⟩) 2 2] e2 rfl (World.news_of_block hk) (by simp [Value.oneCell']) (by omega) (by unfold maxLen; omega) (by omega) hb.size _ rfl ?_
          intro b2 cap2 z2 o1 o2 o3 o4
          exact h _ _ o1 o2 (o3.elim (fun e => .inl e.symm) (fun e => .inr (by rw [e]; rfl)))
        case h1 =>
          intro ka kb kg ke vd vf w2 hb gA hA nA gG hG nG own hHeld
          obtain ⟨g5, c5, rfl, _, _⟩ := own.form (by omega)
          have qz : Blk w2 ka (.int .i64 0) (.slice none 0 0) 38 := (by unfold Blk; exact hA)
          obtain ⟨qz0, qz1, qzl⟩ := qz.cells
          obtain ⟨qf0, qf1⟩ := qz.frozen
          have B3 := ((hb).setCell (p := ⟨ka, 0, none⟩) gA (.int .i64 m)).setCell (p := ⟨ka, 1, none⟩) gA (.slice (some ⟨g5, 0, none⟩) (ls.length + 1) c5)
          have own3 := own_setCell (own_setCell own (p := ⟨ka, 0, none⟩) nA (.int .i64 m)) (p := ⟨ka, 1, none⟩) nA (.slice (some ⟨g5, 0, none⟩) (ls.length + 1) c5)
          have nAG : kg ≠ ka := fun e => by (subst e; rw [hA] at hG; simp at hG)
          have hG3 := hk_set (hk_set hG (p := ⟨ka, 0, none⟩) nAG (.int .i64 m)) (p := ⟨ka, 1, none⟩) nAG (.slice (some ⟨g5, 0, none⟩) (ls.length + 1) c5)
          try simp only [Act.put, List.setIfInBounds_toArray, List.set_cons_zero, List.set_cons_succ]
          refine wpAnyH_take (i := 9) (oi := { dst := some 76, op := Go.Op.build 38 #[(0, Go.Operand.tmp 68), (1, Go.Operand.tmp 75)], type := 38, pos := _, after := #[{ on := 1, ground := Go.Ground.data }, { on := 8, ground := Go.Ground.data }], guard := none }) (v := ?_) rfl (by kernel_rfl) (by kernel_rfl) (by kernel_rfl) (fun _ _ _ h => h) (Or.inl ⟨by rfl, ?_⟩) hHeld ?_
          rotate_left
          · (intro wq hSw; (try dsimp only at hSw); (try go_simp); (try with_reducible rfl))
          try simp only [Act.put, List.setIfInBounds_toArray, List.set_cons_zero, List.set_cons_succ]
          refine wpAnyH_ready (rs := [11]) (by kernel_rfl) (by simp) ?_
          refine AllReadyH.cons (o := { dst := none, op := Go.Op.store 38 (Go.Operand.tmp 6) (Go.Operand.tmp 76), type := 0, pos := _, after := #[{ on := 10, ground := Go.Ground.data }, { on := 9, ground := Go.Ground.data }, { on := 8, ground := Go.Ground.chain }, { on := 0, ground := Go.Ground.phase }, { on := 1, ground := Go.Ground.phase }, { on := 2, ground := Go.Ground.phase }, { on := 3, ground := Go.Ground.phase }, { on := 4, ground := Go.Ground.phase }, { on := 5, ground := Go.Ground.phase }, { on := 6, ground := Go.Ground.phase }, { on := 7, ground := Go.Ground.phase }, { on := 8, ground := Go.Ground.phase }, { on := 9, ground := Go.Ground.phase }, { on := 10, ground := Go.Ground.phase }], guard := none }) rfl (fun KK hKK => ?_) AllReadyH.nil
          go_simp
          refine hKK.out _ _ (two_keep (w := vA) (((hb).setCell (p := ⟨ka, 0, none⟩) gA _).setCell (p := ⟨ka, 1, none⟩) gA _) gl s0) (fun hHeld => ?_)
          clear hKK KK
          try simp only [Act.put, List.setIfInBounds_toArray, List.set_cons_zero, List.set_cons_succ]
          refine wpAnyH_done (by kernel_rfl) ?_ _
          refine NoPanic.normal ?_
          go_wp2_with fail
          go_meet
          exact ⟨ka, _, rfl, (qz.set0 _).set1 _, intSS_of (ls := ls) own3 (by first | rfl | omega) (by omega) (fun i hi => by rw [(HF.out i hi).1]; exact (HF.out i hi).2 _ (kept_below B3)) (ints_at (l := [1, -1]) hG3 (by simp [maxLen])), B3⟩
        case h0 =>
          intro kb kg ke vd vf w2 hb gG hG nG own hHeld
          obtain ⟨g5, c5, rfl, _, _⟩ := own.form (by omega)
          have B3 := below_step hb (.cells #[.int .i64 m, (.slice (some ⟨g5, 0, none⟩) (ls.length + 1) c5)] 38)
          have own3 := own.alloc (.cells #[.int .i64 m, (.slice (some ⟨g5, 0, none⟩) (ls.length + 1) c5)] 38)
          have hG3 := hk_alloc (o' := (.cells #[.int .i64 m, (.slice (some ⟨g5, 0, none⟩) (ls.length + 1) c5)] 38)) hG
          try simp only [Act.put, List.setIfInBounds_toArray, List.set_cons_zero, List.set_cons_succ]
          refine wpAnyH_take (i := 9) (oi := { dst := some 76, op := Go.Op.build 38 #[(0, Go.Operand.tmp 68), (1, Go.Operand.tmp 75)], type := 38, pos := _, after := #[{ on := 1, ground := Go.Ground.data }, { on := 8, ground := Go.Ground.data }], guard := none }) (v := ?_) rfl (by kernel_rfl) (by kernel_rfl) (by kernel_rfl) (fun _ _ _ h => h) (Or.inl ⟨by rfl, ?_⟩) hHeld ?_
          rotate_left
          · (intro wq hSw; (try dsimp only at hSw); (try go_simp); (try with_reducible rfl))
          try simp only [Act.put, List.setIfInBounds_toArray, List.set_cons_zero, List.set_cons_succ]
          refine wpAnyH_ready (rs := [10]) (by kernel_rfl) (by simp) ?_
          refine AllReadyH.cons (o := { dst := some 6, op := Go.Op.alloc 38, type := 0, pos := _, after := #[], guard := none }) rfl (fun KK hKK => ?_) AllReadyH.nil
          go_simp
          refine hKK.out _ _ (two_keep (w := vA) (below_step hb _) gl s0) (fun hHeld => ?_)
          clear hKK KK
          try simp only [Act.put, List.setIfInBounds_toArray, List.set_cons_zero, List.set_cons_succ]
          refine wpAnyH_ready (rs := [11]) (by kernel_rfl) (by simp) ?_
          refine AllReadyH.cons (o := { dst := none, op := Go.Op.store 38 (Go.Operand.tmp 6) (Go.Operand.tmp 76), type := 0, pos := _, after := #[{ on := 10, ground := Go.Ground.data }, { on := 9, ground := Go.Ground.data }, { on := 8, ground := Go.Ground.chain }, { on := 0, ground := Go.Ground.phase }, { on := 1, ground := Go.Ground.phase }, { on := 2, ground := Go.Ground.phase }, { on := 3, ground := Go.Ground.phase }, { on := 4, ground := Go.Ground.phase }, { on := 5, ground := Go.Ground.phase }, { on := 6, ground := Go.Ground.phase }, { on := 7, ground := Go.Ground.phase }, { on := 8, ground := Go.Ground.phase }, { on := 9, ground := Go.Ground.phase }, { on := 10, ground := Go.Ground.phase }], guard := none }) rfl (fun KK hKK => ?_) AllReadyH.nil
          go_simp
          refine hKK.out _ _ (two_keep (w := vA) (below_step hb _) gl s0) (fun hHeld => ?_)
          clear hKK KK
          try simp only [Act.put, List.setIfInBounds_toArray, List.set_cons_zero, List.set_cons_succ]
          refine wpAnyH_done (by kernel_rfl) ?_ _
          refine NoPanic.normal ?_
          go_wp2_with fail
          go_meet
          exact ⟨w2.heap.size, _, rfl, blk_new w2 _ _ _, intSS_of (ls := ls) own3 (by first | rfl | omega) (by omega) (fun i hi => by rw [(HF.out i hi).1]; exact (HF.out i hi).2 _ (kept_below B3)) (ints_at (l := [1, -1]) hG3 (by simp [maxLen])), B3⟩
    case rest =>
      obtain ⟨gB, xB, rfl, BB, dB, hb6⟩ := hcut
      obtain ⟨vB, rfl⟩ : ∃ vB, vB = wc := ⟨_, rfl⟩
      replace C := C.keep hb6
      replace BA := BA.keep hb6
      replace hc := hc.below hb6
      replace dA := dA.below hb6
      replace K := below_two K hb6
      clear hb6 C0 C1 C2
      obtain ⟨C0, C1, C2⟩ := C.cells
      go_upto_region 10 with fail
      go_cut [7] (fun s8 wx => ∃ (g2 : Nat) (x : Value), s8 = .pointer (some ⟨g2, 0, none⟩) ∧ Blk wx g2 (.int .i64 m) x 38 ∧ IntSS wx x (ls ++ [[0]]) ∧ Below vB.heap.size vB wx)
      case first =>
        obtain ⟨i0, hi, hz0, hz1, hz2⟩ := info_parts infoInts
        have gl := C.lt
        clear C0 C1 C2
        obtain ⟨C0, C1, C2⟩ := C.cells
        have s0 := And.intro C0 C1
        obtain ⟨a, cap, F, e, hnn, hR, hF⟩ := hc
        cases e
        rcases hnn with ⟨rfl, rfl⟩ | ⟨b1, rfl⟩
        · obtain rfl : ls = [] := by
            obtain ⟨_, _, h3⟩ := hR vB (Kept.refl _ _)
            rcases h3 with h3 | ⟨b, o, e, _⟩
            · exact List.length_eq_zero_iff.1 h3
            · cases e
          clear hR hF
          rw [List.length_nil] at *
          refine wp_region_noPanic ?_
          refine wp_region_held_drew (S := fun wx : World => wx.cell? ⟨w1.heap.size, 0, none⟩ = some (.int .i64 m) ∧ wx.cell? ⟨w1.heap.size, 1, none⟩ = some (.slice none 0 0)) (by kernel_rfl) (s0) (fun hHeld => ?_)
          refine wpAnyH_take (i := 0) (oi := { dst := some 77, op := Go.Op.fieldAddr 38 (Go.Operand.tmp 3) 0, type := 0, pos := _, after := #[], guard := none }) (v := ?_) rfl (by kernel_rfl) (by kernel_rfl) (by kernel_rfl) (fun _ _ _ h => h) (Or.inl ⟨by rfl, ?_⟩) hHeld ?_
          rotate_left
          · (intro wq hSw; (try dsimp only at hSw); (try go_simp); (try with_reducible rfl))
          try simp only [Act.put, List.setIfInBounds_toArray, List.set_cons_zero, List.set_cons_succ]
          refine wpAnyH_take (i := 1) (oi := { dst := some 78, op := Go.Op.load 3 (Go.Operand.tmp 77), type := 3, pos := _, after := #[{ on := 0, ground := Go.Ground.data }], guard := none }) (v := ?_) rfl (by kernel_rfl) (by kernel_rfl) (by kernel_rfl) (fun _ _ _ h => h) (Or.inl ⟨by rfl, ?_⟩) hHeld ?_
          rotate_left
          · (intro wq hSw; (try dsimp only at hSw); (try go_simp); (try with_reducible rfl))
          try simp only [Act.put, List.setIfInBounds_toArray, List.set_cons_zero, List.set_cons_succ]
          refine wpAnyH_take (i := 3) (oi := { dst := some 80, op := Go.Op.fieldAddr 38 (Go.Operand.tmp 3) 1, type := 0, pos := _, after := #[], guard := none }) (v := ?_) rfl (by kernel_rfl) (by kernel_rfl) (by kernel_rfl) (fun _ _ _ h => h) (Or.inl ⟨by rfl, ?_⟩) hHeld ?_
          rotate_left
          · (intro wq hSw; (try dsimp only at hSw); (try go_simp); (try with_reducible rfl))
          try simp only [Act.put, List.setIfInBounds_toArray, List.set_cons_zero, List.set_cons_succ]
          refine wpAnyH_take (i := 4) (oi := { dst := some 81, op := Go.Op.load 33 (Go.Operand.tmp 80), type := 33, pos := _, after := #[{ on := 3, ground := Go.Ground.data }], guard := none }) (v := ?_) rfl (by kernel_rfl) (by kernel_rfl) (by kernel_rfl) (fun _ _ _ h => h) (Or.inl ⟨by rfl, ?_⟩) hHeld ?_
          rotate_left
          · (intro wq hSw; (try dsimp only at hSw); (try go_simp); (try with_reducible rfl))
          try simp only [Act.put, List.setIfInBounds_toArray, List.set_cons_zero, List.set_cons_succ]
          refine dia_AG vB 22 1 [] (fun kg : Nat => [.slice (some ⟨kg, 0, none⟩) 1 1]) 0 1 (.cells #[.int .i64 0, .slice none 0 0] 38) (.cells #[.int .i64 (0)] 3) (fun kg : Nat => .cells #[.slice (some ⟨kg, 0, none⟩) 1 1] 22) (fun k => .pointer (some ⟨k, 0, none⟩)) (fun k => .slice (some ⟨k, 0, none⟩) 1 1) (fun k => .slice (some ⟨k, 0, none⟩) 1 1) (iA := 10) (iB := 2) (iD := 5) (iG := 6) (iE := 7) (iF := 8) (yA := 7) (yB := 79) (yD := 82) (yG := 83) (yE := 84) (yF := 85) (oA := { dst := some 7, op := Go.Op.alloc 38, type := 0, pos := _, after := #[], guard := none }) (oB := { dst := some 79, op := Go.Op.buildSlice 33 0 #[], type := 33, pos := _, after := #[], guard := none }) (oD := { dst := some 82, op := Go.Op.call { callee := Go.Callee.builtin Go.Builtin.append, args := #[Go.Operand.tmp 79, Go.Operand.tmp 81], argTypes := #[33, 33] }, type := 33, pos := _, after := #[{ on := 2, ground := Go.Ground.data }, { on := 4, ground := Go.Ground.data }], guard := none }) (oG := { dst := some 83, op := Go.Op.buildSlice 22 1 #[(0, Go.Operand.const (Go.Value.int Go.IntKind.i64 0))], type := 22, pos := _, after := #[], guard := none }) (oE := { dst := some 84, op := Go.Op.buildSlice 33 1 #[(0, Go.Operand.tmp 83)], type := 33, pos := _, after := #[{ on := 6, ground := Go.Ground.data }], guard := none }) (oF := { dst := some 85, op := Go.Op.call { callee := Go.Callee.builtin Go.Builtin.append, args := #[Go.Operand.tmp 82, Go.Operand.tmp 84], argTypes := #[33, 33] }, type := 33, pos := _, after := #[{ on := 5, ground := Go.Ground.data }, { on := 7, ground := Go.Ground.data }, { on := 5, ground := Go.Ground.chain }], guard := none }) (N := 2) rfl rfl rfl rfl rfl rfl (by kernel_rfl) (by decide) ⟨of_decide_eq_true rfl, of_decide_eq_true rfl, of_decide_eq_true rfl, of_decide_eq_true rfl, of_decide_eq_true rfl, of_decide_eq_true rfl⟩ (by decide) (fun w hb => two_keep hb gl s0) ?hA ?hB ?hG ?hE ?hD ?hF ?h1 ?h0 ((Below.refl _ _).drew)
          case hA => intro a w K h; go_simp; exact h
          case hB => intro a w K h; go_simp; exact h
          case hG => intro a w K hag h; go_simp; exact h
          case hE => intro a w K kg hag e0 h; have e : a.tmps[83]?.getD undef = .slice (some ⟨kg, 0, none⟩) 1 1 := (by rw [← Array.getD_eq_getD_getElem?]; exact e0); go_simp; (try simp only [e]); (try go_simp); exact h
          case hD =>
            intro a w K kb hag e1 hb own h
            refine step_append_none _ rfl (.tmp 79) (.tmp 81) _ rfl vB.heap.size 22 i0 1 Try.underlying33 hi (.slice (some ⟨kb, 0, none⟩) 0 0) 0 [] e1 own (hag 81 (by decide) (by decide) (by decide) (by decide) (by decide) (by decide)) ?_
            exact h _ _ own (World.grownBy.refl _ _) (.inl rfl)
          case hF =>
            intro a w K kg ke vd hag e1 e2 hb own hk h
            refine step_append_lies _ rfl (.tmp 82) (.tmp 84) _ rfl vB.heap.size 22 i0 (.slice none 0 0) 1 24 Try.underlying33 hi hz0 hz1 hz2 rfl (by omega) vd 0 [] e1 own ⟨ke, 0, none⟩ 1 1 [.slice (some ⟨kg, 0, none⟩) 1 1] e2 rfl (World.news_of_block hk) (by simp [Value.oneCell']) (by omega) (by unfold maxLen; omega) (by omega) hb.size _ rfl ?_
            intro b2 cap2 z2 o1 o2 o3 o4
            exact h _ _ o1 o2 (o3.elim (fun e => .inl e.symm) (fun e => .inr (by rw [e]; rfl)))
          case h1 =>
            intro ka kb kg ke vd vf w2 hb gA hA nA gG hG nG own hHeld
            obtain ⟨g5, c5, rfl, _, _⟩ := own.form (by omega)
            have qz : Blk w2 ka (.int .i64 0) (.slice none 0 0) 38 := (by unfold Blk; exact hA)
            obtain ⟨qz0, qz1, qzl⟩ := qz.cells
            obtain ⟨qf0, qf1⟩ := qz.frozen
            have B3 := ((hb).setCell (p := ⟨ka, 0, none⟩) gA (.int .i64 m)).setCell (p := ⟨ka, 1, none⟩) gA (.slice (some ⟨g5, 0, none⟩) 1 c5)
            have own3 := own_setCell (own_setCell own (p := ⟨ka, 0, none⟩) nA (.int .i64 m)) (p := ⟨ka, 1, none⟩) nA (.slice (some ⟨g5, 0, none⟩) 1 c5)
            have nAG : kg ≠ ka := fun e => by (subst e; rw [hA] at hG; simp at hG)
            have hG3 := hk_set (hk_set hG (p := ⟨ka, 0, none⟩) nAG (.int .i64 m)) (p := ⟨ka, 1, none⟩) nAG (.slice (some ⟨g5, 0, none⟩) 1 c5)
            try simp only [Act.put, List.setIfInBounds_toArray, List.set_cons_zero, List.set_cons_succ]
            refine wpAnyH_take (i := 9) (oi := { dst := some 86, op := Go.Op.build 38 #[(0, Go.Operand.tmp 78), (1, Go.Operand.tmp 85)], type := 38, pos := _, after := #[{ on := 1, ground := Go.Ground.data }, { on := 8, ground := Go.Ground.data }], guard := none }) (v := ?_) rfl (by kernel_rfl) (by kernel_rfl) (by kernel_rfl) (fun _ _ _ h => h) (Or.inl ⟨by rfl, ?_⟩) hHeld ?_
            rotate_left
            · (intro wq hSw; (try dsimp only at hSw); (try go_simp); (try with_reducible rfl))
            try simp only [Act.put, List.setIfInBounds_toArray, List.set_cons_zero, List.set_cons_succ]
            refine wpAnyH_ready (rs := [11]) (by kernel_rfl) (by simp) ?_
            refine AllReadyH.cons (o := { dst := none, op := Go.Op.store 38 (Go.Operand.tmp 7) (Go.Operand.tmp 86), type := 0, pos := _, after := #[{ on := 10, ground := Go.Ground.data }, { on := 9, ground := Go.Ground.data }, { on := 8, ground := Go.Ground.chain }, { on := 0, ground := Go.Ground.phase }, { on := 1, ground := Go.Ground.phase }, { on := 2, ground := Go.Ground.phase }, { on := 3, ground := Go.Ground.phase }, { on := 4, ground := Go.Ground.phase }, { on := 5, ground := Go.Ground.phase }, { on := 6, ground := Go.Ground.phase }, { on := 7, ground := Go.Ground.phase }, { on := 8, ground := Go.Ground.phase }, { on := 9, ground := Go.Ground.phase }, { on := 10, ground := Go.Ground.phase }], guard := none }) rfl (fun KK hKK => ?_) AllReadyH.nil
            go_simp
            refine hKK.out _ _ (two_keep (w := vB) (((hb).setCell (p := ⟨ka, 0, none⟩) gA _).setCell (p := ⟨ka, 1, none⟩) gA _) gl s0) (fun hHeld => ?_)
            clear hKK KK
            try simp only [Act.put, List.setIfInBounds_toArray, List.set_cons_zero, List.set_cons_succ]
            refine wpAnyH_done (by kernel_rfl) ?_ _
            refine NoPanic.normal ?_
            go_wp2_with fail
            go_meet
            exact ⟨ka, _, rfl, (qz.set0 _).set1 _, intSS_of (ls := []) own3 (by first | rfl | omega) (by rfl) (fun i hi => absurd hi (by simp)) (ints_at (l := [0]) hG3 (by simp [maxLen])), B3⟩
          case h0 =>
            intro kb kg ke vd vf w2 hb gG hG nG own hHeld
            obtain ⟨g5, c5, rfl, _, _⟩ := own.form (by omega)
            have B3 := below_step hb (.cells #[.int .i64 m, (.slice (some ⟨g5, 0, none⟩) 1 c5)] 38)
            have own3 := own.alloc (.cells #[.int .i64 m, (.slice (some ⟨g5, 0, none⟩) 1 c5)] 38)
            have hG3 := hk_alloc (o' := (.cells #[.int .i64 m, (.slice (some ⟨g5, 0, none⟩) 1 c5)] 38)) hG
            try simp only [Act.put, List.setIfInBounds_toArray, List.set_cons_zero, List.set_cons_succ]
            refine wpAnyH_take (i := 9) (oi := { dst := some 86, op := Go.Op.build 38 #[(0, Go.Operand.tmp 78), (1, Go.Operand.tmp 85)], type := 38, pos := _, after := #[{ on := 1, ground := Go.Ground.data }, { on := 8, ground := Go.Ground.data }], guard := none }) (v := ?_) rfl (by kernel_rfl) (by kernel_rfl) (by kernel_rfl) (fun _ _ _ h => h) (Or.inl ⟨by rfl, ?_⟩) hHeld ?_
            rotate_left
            · (intro wq hSw; (try dsimp only at hSw); (try go_simp); (try with_reducible rfl))
            try simp only [Act.put, List.setIfInBounds_toArray, List.set_cons_zero, List.set_cons_succ]
            refine wpAnyH_ready (rs := [10]) (by kernel_rfl) (by simp) ?_
            refine AllReadyH.cons (o := { dst := some 7, op := Go.Op.alloc 38, type := 0, pos := _, after := #[], guard := none }) rfl (fun KK hKK => ?_) AllReadyH.nil
            go_simp
            refine hKK.out _ _ (two_keep (w := vB) (below_step hb _) gl s0) (fun hHeld => ?_)
            clear hKK KK
            try simp only [Act.put, List.setIfInBounds_toArray, List.set_cons_zero, List.set_cons_succ]
            refine wpAnyH_ready (rs := [11]) (by kernel_rfl) (by simp) ?_
            refine AllReadyH.cons (o := { dst := none, op := Go.Op.store 38 (Go.Operand.tmp 7) (Go.Operand.tmp 86), type := 0, pos := _, after := #[{ on := 10, ground := Go.Ground.data }, { on := 9, ground := Go.Ground.data }, { on := 8, ground := Go.Ground.chain }, { on := 0, ground := Go.Ground.phase }, { on := 1, ground := Go.Ground.phase }, { on := 2, ground := Go.Ground.phase }, { on := 3, ground := Go.Ground.phase }, { on := 4, ground := Go.Ground.phase }, { on := 5, ground := Go.Ground.phase }, { on := 6, ground := Go.Ground.phase }, { on := 7, ground := Go.Ground.phase }, { on := 8, ground := Go.Ground.phase }, { on := 9, ground := Go.Ground.phase }, { on := 10, ground := Go.Ground.phase }], guard := none }) rfl (fun KK hKK => ?_) AllReadyH.nil
            go_simp
            refine hKK.out _ _ (two_keep (w := vB) (below_step hb _) gl s0) (fun hHeld => ?_)
            clear hKK KK
            try simp only [Act.put, List.setIfInBounds_toArray, List.set_cons_zero, List.set_cons_succ]
            refine wpAnyH_done (by kernel_rfl) ?_ _
            refine NoPanic.normal ?_
            go_wp2_with fail
            go_meet
            exact ⟨w2.heap.size, _, rfl, blk_new w2 _ _ _, intSS_of (ls := []) own3 (by first | rfl | omega) (by rfl) (fun i hi => absurd hi (by simp)) (ints_at (l := [0]) hG3 (by simp [maxLen])), B3⟩
        · have hnew := Lib.hid (fun w' h => (hR w' h).news)
          have hone : Hid (∀ u ∈ (List.range ls.length).map F, u.oneCell' = true) := by
            intro u hu
            obtain ⟨i, hi, rfl⟩ := List.mem_map.1 hu
            obtain ⟨a', c', e, _⟩ := (hF i (List.mem_range.1 hi)).now
            rw [e]; rfl
          have hlen : ((List.range ls.length).map F).length = ls.length * 1 := by simp
          have HF : Hid (∀ i, i < ls.length → ((List.range ls.length).map F).getD i undef = F i ∧ KI 0 vB (F i) (ls.getD i [])) := fun i hi => ⟨by simp [List.getD_eq_getElem?_getD, hi], hF i hi⟩
          generalize (List.range ls.length).map F = fs at *
          clear hR hF
          refine wp_region_noPanic ?_
          refine wp_region_held_drew (S := fun wx : World => wx.cell? ⟨w1.heap.size, 0, none⟩ = some (.int .i64 m) ∧ wx.cell? ⟨w1.heap.size, 1, none⟩ = some (.slice (some ⟨b1, 0, none⟩) ls.length c1)) (by kernel_rfl) (s0) (fun hHeld => ?_)
          refine wpAnyH_take (i := 0) (oi := { dst := some 77, op := Go.Op.fieldAddr 38 (Go.Operand.tmp 3) 0, type := 0, pos := _, after := #[], guard := none }) (v := ?_) rfl (by kernel_rfl) (by kernel_rfl) (by kernel_rfl) (fun _ _ _ h => h) (Or.inl ⟨by rfl, ?_⟩) hHeld ?_
          rotate_left
          · (intro wq hSw; (try dsimp only at hSw); (try go_simp); (try with_reducible rfl))
          try simp only [Act.put, List.setIfInBounds_toArray, List.set_cons_zero, List.set_cons_succ]
          refine wpAnyH_take (i := 1) (oi := { dst := some 78, op := Go.Op.load 3 (Go.Operand.tmp 77), type := 3, pos := _, after := #[{ on := 0, ground := Go.Ground.data }], guard := none }) (v := ?_) rfl (by kernel_rfl) (by kernel_rfl) (by kernel_rfl) (fun _ _ _ h => h) (Or.inl ⟨by rfl, ?_⟩) hHeld ?_
          rotate_left
          · (intro wq hSw; (try dsimp only at hSw); (try go_simp); (try with_reducible rfl))
          try simp only [Act.put, List.setIfInBounds_toArray, List.set_cons_zero, List.set_cons_succ]
          refine wpAnyH_take (i := 3) (oi := { dst := some 80, op := Go.Op.fieldAddr 38 (Go.Operand.tmp 3) 1, type := 0, pos := _, after := #[], guard := none }) (v := ?_) rfl (by kernel_rfl) (by kernel_rfl) (by kernel_rfl) (fun _ _ _ h => h) (Or.inl ⟨by rfl, ?_⟩) hHeld ?_
          rotate_left
          · (intro wq hSw; (try dsimp only at hSw); (try go_simp); (try with_reducible rfl))
          try simp only [Act.put, List.setIfInBounds_toArray, List.set_cons_zero, List.set_cons_succ]
          refine wpAnyH_take (i := 4) (oi := { dst := some 81, op := Go.Op.load 33 (Go.Operand.tmp 80), type := 33, pos := _, after := #[{ on := 3, ground := Go.Ground.data }], guard := none }) (v := ?_) rfl (by kernel_rfl) (by kernel_rfl) (by kernel_rfl) (fun _ _ _ h => h) (Or.inl ⟨by rfl, ?_⟩) hHeld ?_
          rotate_left
          · (intro wq hSw; (try dsimp only at hSw); (try go_simp); (try with_reducible rfl))
          try simp only [Act.put, List.setIfInBounds_toArray, List.set_cons_zero, List.set_cons_succ]
          refine dia_AG vB 22 1 fs (fun kg : Nat => [.slice (some ⟨kg, 0, none⟩) 1 1]) ls.length (ls.length + 1) (.cells #[.int .i64 0, .slice none 0 0] 38) (.cells #[.int .i64 (0)] 3) (fun kg : Nat => .cells #[.slice (some ⟨kg, 0, none⟩) 1 1] 22) (fun k => .pointer (some ⟨k, 0, none⟩)) (fun k => .slice (some ⟨k, 0, none⟩) 1 1) (fun k => .slice (some ⟨k, 0, none⟩) 1 1) (iA := 10) (iB := 2) (iD := 5) (iG := 6) (iE := 7) (iF := 8) (yA := 7) (yB := 79) (yD := 82) (yG := 83) (yE := 84) (yF := 85) (oA := { dst := some 7, op := Go.Op.alloc 38, type := 0, pos := _, after := #[], guard := none }) (oB := { dst := some 79, op := Go.Op.buildSlice 33 0 #[], type := 33, pos := _, after := #[], guard := none }) (oD := { dst := some 82, op := Go.Op.call { callee := Go.Callee.builtin Go.Builtin.append, args := #[Go.Operand.tmp 79, Go.Operand.tmp 81], argTypes := #[33, 33] }, type := 33, pos := _, after := #[{ on := 2, ground := Go.Ground.data }, { on := 4, ground := Go.Ground.data }], guard := none }) (oG := { dst := some 83, op := Go.Op.buildSlice 22 1 #[(0, Go.Operand.const (Go.Value.int Go.IntKind.i64 0))], type := 22, pos := _, after := #[], guard := none }) (oE := { dst := some 84, op := Go.Op.buildSlice 33 1 #[(0, Go.Operand.tmp 83)], type := 33, pos := _, after := #[{ on := 6, ground := Go.Ground.data }], guard := none }) (oF := { dst := some 85, op := Go.Op.call { callee := Go.Callee.builtin Go.Builtin.append, args := #[Go.Operand.tmp 82, Go.Operand.tmp 84], argTypes := #[33, 33] }, type := 33, pos := _, after := #[{ on := 5, ground := Go.Ground.data }, { on := 7, ground := Go.Ground.data }, { on := 5, ground := Go.Ground.chain }], guard := none }) (N := 2) rfl rfl rfl rfl rfl rfl (by kernel_rfl) (by decide) ⟨of_decide_eq_true rfl, of_decide_eq_true rfl, of_decide_eq_true rfl, of_decide_eq_true rfl, of_decide_eq_true rfl, of_decide_eq_true rfl⟩ (by decide) (fun w hb => two_keep hb gl s0) ?hA ?hB ?hG ?hE ?hD ?hF ?h1 ?h0 ((Below.refl _ _).drew)
          case hA => intro a w K h; go_simp; exact h
          case hB => intro a w K h; go_simp; exact h
          case hG => intro a w K hag h; go_simp; exact h
          case hE => intro a w K kg hag e0 h; have e : a.tmps[83]?.getD undef = .slice (some ⟨kg, 0, none⟩) 1 1 := (by rw [← Array.getD_eq_getD_getElem?]; exact e0); go_simp; (try simp only [e]); (try go_simp); exact h
          case hD =>
            intro a w K kb hag e1 hb own h
            refine step_append_at _ rfl (.tmp 79) (.tmp 81) _ rfl vB.heap.size 22 i0 (.slice none 0 0) 1 24 Try.underlying33 hi hz0 hz1 hz2 rfl (by omega) (.slice (some ⟨kb, 0, none⟩) 0 0) 0 [] e1 own ⟨b1, 0, none⟩ ls.length c1 fs (hag 81 (by decide) (by decide) (by decide) (by decide) (by decide) (by decide)) hlen (hnew.out _ (kept_below hb)) hone.out (by unfold maxLen; omega) (by omega) hb.size ?_
            intro v' w' o1 o2 o3
            rw [Nat.zero_add] at o1
            exact h v' w' o1 o2 o3
          case hF =>
            intro a w K kg ke vd hag e1 e2 hb own hk h
            refine step_append_lies _ rfl (.tmp 82) (.tmp 84) _ rfl vB.heap.size 22 i0 (.slice none 0 0) 1 24 Try.underlying33 hi hz0 hz1 hz2 rfl (by omega) vd ls.length fs e1 own ⟨ke, 0, none⟩ 1 1 [.slice (some ⟨kg, 0, none⟩) 1 1] e2 rfl (World.news_of_block hk) (by simp [Value.oneCell']) (by omega) (by unfold maxLen; omega) (by omega) hb.size _ rfl ?_
            intro b2 cap2 z2 o1 o2 o3 o4
            exact h _ _ o1 o2 (o3.elim (fun e => .inl e.symm) (fun e => .inr (by rw [e]; rfl)))
          case h1 =>
            intro ka kb kg ke vd vf w2 hb gA hA nA gG hG nG own hHeld
            obtain ⟨g5, c5, rfl, _, _⟩ := own.form (by omega)
            have qz : Blk w2 ka (.int .i64 0) (.slice none 0 0) 38 := (by unfold Blk; exact hA)
            obtain ⟨qz0, qz1, qzl⟩ := qz.cells
            obtain ⟨qf0, qf1⟩ := qz.frozen
            have B3 := ((hb).setCell (p := ⟨ka, 0, none⟩) gA (.int .i64 m)).setCell (p := ⟨ka, 1, none⟩) gA (.slice (some ⟨g5, 0, none⟩) (ls.length + 1) c5)
            have own3 := own_setCell (own_setCell own (p := ⟨ka, 0, none⟩) nA (.int .i64 m)) (p := ⟨ka, 1, none⟩) nA (.slice (some ⟨g5, 0, none⟩) (ls.length + 1) c5)
            have nAG : kg ≠ ka := fun e => by (subst e; rw [hA] at hG; simp at hG)
            have hG3 := hk_set (hk_set hG (p := ⟨ka, 0, none⟩) nAG (.int .i64 m)) (p := ⟨ka, 1, none⟩) nAG (.slice (some ⟨g5, 0, none⟩) (ls.length + 1) c5)
            try simp only [Act.put, List.setIfInBounds_toArray, List.set_cons_zero, List.set_cons_succ]
            refine wpAnyH_take (i := 9) (oi := { dst := some 86, op := Go.Op.build 38 #[(0, Go.Operand.tmp 78), (1, Go.Operand.tmp 85)], type := 38, pos := _, after := #[{ on := 1, ground := Go.Ground.data }, { on := 8, ground := Go.Ground.data }], guard := none }) (v := ?_) rfl (by kernel_rfl) (by kernel_rfl) (by kernel_rfl) (fun _ _ _ h => h) (Or.inl ⟨by rfl, ?_⟩) hHeld ?_
            rotate_left
            · (intro wq hSw; (try dsimp only at hSw); (try go_simp); (try with_reducible rfl))
            try simp only [Act.put, List.setIfInBounds_toArray, List.set_cons_zero, List.set_cons_succ]
            refine wpAnyH_ready (rs := [11]) (by kernel_rfl) (by simp) ?_
            refine AllReadyH.cons (o := { dst := none, op := Go.Op.store 38 (Go.Operand.tmp 7) (Go.Operand.tmp 86), type := 0, pos := _, after := #[{ on := 10, ground := Go.Ground.data }, { on := 9, ground := Go.Ground.data }, { on := 8, ground := Go.Ground.chain }, { on := 0, ground := Go.Ground.phase }, { on := 1, ground := Go.Ground.phase }, { on := 2, ground := Go.Ground.phase }, { on := 3, ground := Go.Ground.phase }, { on := 4, ground := Go.Ground.phase }, { on := 5, ground := Go.Ground.phase }, { on := 6, ground := Go.Ground.phase }, { on := 7, ground := Go.Ground.phase }, { on := 8, ground := Go.Ground.phase }, { on := 9, ground := Go.Ground.phase }, { on := 10, ground := Go.Ground.phase }], guard := none }) rfl (fun KK hKK => ?_) AllReadyH.nil
            go_simp
            refine hKK.out _ _ (two_keep (w := vB) (((hb).setCell (p := ⟨ka, 0, none⟩) gA _).setCell (p := ⟨ka, 1, none⟩) gA _) gl s0) (fun hHeld => ?_)
            clear hKK KK
            try simp only [Act.put, List.setIfInBounds_toArray, List.set_cons_zero, List.set_cons_succ]
            refine wpAnyH_done (by kernel_rfl) ?_ _
            refine NoPanic.normal ?_
            go_wp2_with fail
            go_meet
            exact ⟨ka, _, rfl, (qz.set0 _).set1 _, intSS_of (ls := ls) own3 (by first | rfl | omega) (by omega) (fun i hi => by rw [(HF.out i hi).1]; exact (HF.out i hi).2 _ (kept_below B3)) (ints_at (l := [0]) hG3 (by simp [maxLen])), B3⟩
          case h0 =>
            intro kb kg ke vd vf w2 hb gG hG nG own hHeld
            obtain ⟨g5, c5, rfl, _, _⟩ := own.form (by omega)
            have B3 := below_step hb (.cells #[.int .i64 m, (.slice (some ⟨g5, 0, none⟩) (ls.length + 1) c5)] 38)
            have own3 := own.alloc (.cells #[.int .i64 m, (.slice (some ⟨g5, 0, none⟩) (ls.length + 1) c5)] 38)
            have hG3 := hk_alloc (o' := (.cells #[.int .i64 m, (.slice (some ⟨g5, 0, none⟩) (ls.length + 1) c5)] 38)) hG
            try simp only [Act.put, List.setIfInBounds_toArray, List.set_cons_zero, List.set_cons_succ]
            refine wpAnyH_take (i := 9) (oi := { dst := some 86, op := Go.Op.build 38 #[(0, Go.Operand.tmp 78), (1, Go.Operand.tmp 85)], type := 38, pos := _, after := #[{ on := 1, ground := Go.Ground.data }, { on := 8, ground := Go.Ground.data }], guard := none }) (v := ?_) rfl (by kernel_rfl) (by kernel_rfl) (by kernel_rfl) (fun _ _ _ h => h) (Or.inl ⟨by rfl, ?_⟩) hHeld ?_
            rotate_left
            · (intro wq hSw; (try dsimp only at hSw); (try go_simp); (try with_reducible rfl))
            try simp only [Act.put, List.setIfInBounds_toArray, List.set_cons_zero, List.set_cons_succ]
            refine wpAnyH_ready (rs := [10]) (by kernel_rfl) (by simp) ?_
            refine AllReadyH.cons (o := { dst := some 7, op := Go.Op.alloc 38, type := 0, pos := _, after := #[], guard := none }) rfl (fun KK hKK => ?_) AllReadyH.nil
            go_simp
            refine hKK.out _ _ (two_keep (w := vB) (below_step hb _) gl s0) (fun hHeld => ?_)
            clear hKK KK
            try simp only [Act.put, List.setIfInBounds_toArray, List.set_cons_zero, List.set_cons_succ]
            refine wpAnyH_ready (rs := [11]) (by kernel_rfl) (by simp) ?_
            refine AllReadyH.cons (o := { dst := none, op := Go.Op.store 38 (Go.Operand.tmp 7) (Go.Operand.tmp 86), type := 0, pos := _, after := #[{ on := 10, ground := Go.Ground.data }, { on := 9, ground := Go.Ground.data }, { on := 8, ground := Go.Ground.chain }, { on := 0, ground := Go.Ground.phase }, { on := 1, ground := Go.Ground.phase }, { on := 2, ground := Go.Ground.phase }, { on := 3, ground := Go.Ground.phase }, { on := 4, ground := Go.Ground.phase }, { on := 5, ground := Go.Ground.phase }, { on := 6, ground := Go.Ground.phase }, { on := 7, ground := Go.Ground.phase }, { on := 8, ground := Go.Ground.phase }, { on := 9, ground := Go.Ground.phase }, { on := 10, ground := Go.Ground.phase }], guard := none }) rfl (fun KK hKK => ?_) AllReadyH.nil
            go_simp
            refine hKK.out _ _ (two_keep (w := vB) (below_step hb _) gl s0) (fun hHeld => ?_)
            clear hKK KK
            try simp only [Act.put, List.setIfInBounds_toArray, List.set_cons_zero, List.set_cons_succ]
            refine wpAnyH_done (by kernel_rfl) ?_ _
            refine NoPanic.normal ?_
            go_wp2_with fail
            go_meet
            exact ⟨w2.heap.size, _, rfl, blk_new w2 _ _ _, intSS_of (ls := ls) own3 (by first | rfl | omega) (by omega) (fun i hi => by rw [(HF.out i hi).1]; exact (HF.out i hi).2 _ (kept_below B3)) (ints_at (l := [0]) hG3 (by simp [maxLen])), B3⟩
      case rest =>
        obtain ⟨gE, xE, rfl, BE, dE, hb6⟩ := hcut
        obtain ⟨vE, rfl⟩ : ∃ vE, vE = wc := ⟨_, rfl⟩
        replace C := C.keep hb6
        replace BA := BA.keep hb6
        replace BB := BB.keep hb6
        replace hc := hc.below hb6
        replace dA := dA.below hb6
        replace dB := dB.below hb6
        replace K := below_two K hb6
        clear hb6 C0 C1 C2
        obtain ⟨C0, C1, C2⟩ := C.cells
        go_upto_region 11 with fail
        go_cut [8] (fun s8 wx => ∃ (g2 : Nat) (x : Value), s8 = .pointer (some ⟨g2, 0, none⟩) ∧ Blk wx g2 (.int .i64 m) x 38 ∧ IntSS wx x (ls ++ [[-1]]) ∧ Below vE.heap.size vE wx)
        case first =>
          obtain ⟨i0, hi, hz0, hz1, hz2⟩ := info_parts infoInts
          have gl := C.lt
          clear C0 C1 C2
          obtain ⟨C0, C1, C2⟩ := C.cells
          have s0 := And.intro C0 C1
          obtain ⟨a, cap, F, e, hnn, hR, hF⟩ := hc
          cases e
          rcases hnn with ⟨rfl, rfl⟩ | ⟨b1, rfl⟩
          · obtain rfl : ls = [] := by
              obtain ⟨_, _, h3⟩ := hR vE (Kept.refl _ _)
              rcases h3 with h3 | ⟨b, o, e, _⟩
              · exact List.length_eq_zero_iff.1 h3
              · cases e
            clear hR hF
            rw [List.length_nil] at *
            refine wp_region_noPanic ?_
            refine wp_region_held_drew (S := fun wx : World => wx.cell? ⟨w1.heap.size, 0, none⟩ = some (.int .i64 m) ∧ wx.cell? ⟨w1.heap.size, 1, none⟩ = some (.slice none 0 0)) (by kernel_rfl) (s0) (fun hHeld => ?_)
            refine wpAnyH_take (i := 0) (oi := { dst := some 87, op := Go.Op.fieldAddr 38 (Go.Operand.tmp 3) 0, type := 0, pos := _, after := #[], guard := none }) (v := ?_) rfl (by kernel_rfl) (by kernel_rfl) (by kernel_rfl) (fun _ _ _ h => h) (Or.inl ⟨by rfl, ?_⟩) hHeld ?_
            rotate_left
            · (intro wq hSw; (try dsimp only at hSw); (try go_simp); (try with_reducible rfl))
            try simp only [Act.put, List.setIfInBounds_toArray, List.set_cons_zero, List.set_cons_succ]
            refine wpAnyH_take (i := 1) (oi := { dst := some 88, op := Go.Op.load 3 (Go.Operand.tmp 87), type := 3, pos := _, after := #[{ on := 0, ground := Go.Ground.data }], guard := none }) (v := ?_) rfl (by kernel_rfl) (by kernel_rfl) (by kernel_rfl) (fun _ _ _ h => h) (Or.inl ⟨by rfl, ?_⟩) hHeld ?_
            rotate_left
            · (intro wq hSw; (try dsimp only at hSw); (try go_simp); (try with_reducible rfl))
            try simp only [Act.put, List.setIfInBounds_toArray, List.set_cons_zero, List.set_cons_succ]
            refine wpAnyH_take (i := 3) (oi := { dst := some 90, op := Go.Op.fieldAddr 38 (Go.Operand.tmp 3) 1, type := 0, pos := _, after := #[], guard := none }) (v := ?_) rfl (by kernel_rfl) (by kernel_rfl) (by kernel_rfl) (fun _ _ _ h => h) (Or.inl ⟨by rfl, ?_⟩) hHeld ?_
            rotate_left
            · (intro wq hSw; (try dsimp only at hSw); (try go_simp); (try with_reducible rfl))
            try simp only [Act.put, List.setIfInBounds_toArray, List.set_cons_zero, List.set_cons_succ]
            refine wpAnyH_take (i := 4) (oi := { dst := some 91, op := Go.Op.load 33 (Go.Operand.tmp 90), type := 33, pos := _, after := #[{ on := 3, ground := Go.Ground.data }], guard := none }) (v := ?_) rfl (by kernel_rfl) (by kernel_rfl) (by kernel_rfl) (fun _ _ _ h => h) (Or.inl ⟨by rfl, ?_⟩) hHeld ?_
            rotate_left
            · (intro wq hSw; (try dsimp only at hSw); (try go_simp); (try with_reducible rfl))
            try simp only [Act.put, List.setIfInBounds_toArray, List.set_cons_zero, List.set_cons_succ]
            refine dia_AG vE 22 1 [] (fun kg : Nat => [.slice (some ⟨kg, 0, none⟩) 1 1]) 0 1 (.cells #[.int .i64 0, .slice none 0 0] 38) (.cells #[.int .i64 (-1)] 3) (fun kg : Nat => .cells #[.slice (some ⟨kg, 0, none⟩) 1 1] 22) (fun k => .pointer (some ⟨k, 0, none⟩)) (fun k => .slice (some ⟨k, 0, none⟩) 1 1) (fun k => .slice (some ⟨k, 0, none⟩) 1 1) (iA := 10) (iB := 2) (iD := 5) (iG := 6) (iE := 7) (iF := 8) (yA := 8) (yB := 89) (yD := 92) (yG := 93) (yE := 94) (yF := 95) (oA := { dst := some 8, op := Go.Op.alloc 38, type := 0, pos := _, after := #[], guard := none }) (oB := { dst := some 89, op := Go.Op.buildSlice 33 0 #[], type := 33, pos := _, after := #[], guard := none }) (oD := { dst := some 92, op := Go.Op.call { callee := Go.Callee.builtin Go.Builtin.append, args := #[Go.Operand.tmp 89, Go.Operand.tmp 91], argTypes := #[33, 33] }, type := 33, pos := _, after := #[{ on := 2, ground := Go.Ground.data }, { on := 4, ground := Go.Ground.data }], guard := none }) (oG := { dst := some 93, op := Go.Op.buildSlice 22 1 #[(0, Go.Operand.const (Go.Value.int Go.IntKind.i64 (-1)))], type := 22, pos := _, after := #[], guard := none }) (oE := { dst := some 94, op := Go.Op.buildSlice 33 1 #[(0, Go.Operand.tmp 93)], type := 33, pos := _, after := #[{ on := 6, ground := Go.Ground.data }], guard := none }) (oF := { dst := some 95, op := Go.Op.call { callee := Go.Callee.builtin Go.Builtin.append, args := #[Go.Operand.tmp 92, Go.Operand.tmp 94], argTypes := #[33, 33] }, type := 33, pos := _, after := #[{ on := 5, ground := Go.Ground.data }, { on := 7, ground := Go.Ground.data }, { on := 5, ground := Go.Ground.chain }], guard := none }) (N := 2) rfl rfl rfl rfl rfl rfl (by kernel_rfl) (by decide) ⟨of_decide_eq_true rfl, of_decide_eq_true rfl, of_decide_eq_true rfl, of_decide_eq_true rfl, of_decide_eq_true rfl, of_decide_eq_true rfl⟩ (by decide) (fun w hb => two_keep hb gl s0) ?hA ?hB ?hG ?hE ?hD ?hF ?h1 ?h0 ((Below.refl _ _).drew)
            case hA => intro a w K h; go_simp; exact h
            case hB => intro a w K h; go_simp; exact h
            case hG => intro a w K hag h; go_simp; exact h
            case hE => intro a w K kg hag e0 h; have e : a.tmps[93]?.getD undef = .slice (some ⟨kg, 0, none⟩) 1 1 := (by rw [← Array.getD_eq_getD_getElem?]; exact e0); go_simp; (try simp only [e]); (try go_simp); exact h
            case hD =>
              intro a w K kb hag e1 hb own h
              refine step_append_none _ rfl (.tmp 89) (.tmp 91) _ rfl vE.heap.size 22 i0 1 Try.underlying33 hi (.slice (some ⟨kb, 0, none⟩) 0 0) 0 [] e1 own (hag 91 (by decide) (by decide) (by decide) (by decide) (by decide) (by decide)) ?_
              exact h _ _ own (World.grownBy.refl _ _) (.inl rfl)
            case hF =>
              intro a w K kg ke vd hag e1 e2 hb own hk h
              refine step_append_lies _ rfl (.tmp 92) (.tmp 94) _ rfl vE.heap.size 22 i0 (.slice none 0 0) 1 24 Try.underlying33 hi hz0 hz1 hz2 rfl (by omega) vd 0 [] e1 own ⟨ke, 0, none⟩ 1 1 [.slice (some ⟨kg, 0, none⟩) 1 1] e2 rfl (World.news_of_block hk) (by simp [Value.oneCell']) (by omega) (by unfold maxLen; omega) (by omega) hb.size _ rfl ?_
              intro b2 cap2 z2 o1 o2 o3 o4
              exact h _ _ o1 o2 (o3.elim (fun e => .inl e.symm) (fun e => .inr (by rw [e]; rfl)))
            case h1 =>
              intro ka kb kg ke vd vf w2 hb gA hA nA gG hG nG own hHeld
              obtain ⟨g5, c5, rfl, _, _⟩ := own.form (by omega)
              have qz : Blk w2 ka (.int .i64 0) (.slice none 0 0) 38 := (by unfold Blk; exact hA)
              obtain ⟨qz0, qz1, qzl⟩ := qz.cells
              obtain ⟨qf0, qf1⟩ := qz.frozen
              have B3 := ((hb).setCell (p := ⟨ka, 0, none⟩) gA (.int .i64 m)).setCell (p := ⟨ka, 1, none⟩) gA (.slice (some ⟨g5, 0, none⟩) 1 c5)
              have own3 := own_setCell (own_setCell own (p := ⟨ka, 0, none⟩) nA (.int .i64 m)) (p := ⟨ka, 1, none⟩) nA (.slice (some ⟨g5, 0, none⟩) 1 c5)
              have nAG : kg ≠ ka := fun e => by (subst e; rw [hA] at hG; simp at hG)
              have hG3 := hk_set (hk_set hG (p := ⟨ka, 0, none⟩) nAG (.int .i64 m)) (p := ⟨ka, 1, none⟩) nAG (.slice (some ⟨g5, 0, none⟩) 1 c5)
              try simp only [Act.put, List.setIfInBounds_toArray, List.set_cons_zero, List.set_cons_succ]
              refine wpAnyH_take (i := 9) (oi := { dst := some 96, op := Go.Op.build 38 #[(0, Go.Operand.tmp 88), (1, Go.Operand.tmp 95)], type := 38, pos := _, after := #[{ on := 1, ground := Go.Ground.data }, { on := 8, ground := Go.Ground.data }], guard := none }) (v := ?_) rfl (by kernel_rfl) (by kernel_rfl) (by kernel_rfl) (fun _ _ _ h => h) (Or.inl ⟨by rfl, ?_⟩) hHeld ?_
              rotate_left
              · (intro wq hSw; (try dsimp only at hSw); (try go_simp); (try with_reducible rfl))
              try simp only [Act.put, List.setIfInBounds_toArray, List.set_cons_zero, List.set_cons_succ]
              refine wpAnyH_ready (rs := [11]) (by kernel_rfl) (by simp) ?_
              refine AllReadyH.cons (o := { dst := none, op := Go.Op.store 38 (Go.Operand.tmp 8) (Go.Operand.tmp 96), type := 0, pos := _, after := #[{ on := 10, ground := Go.Ground.data }, { on := 9, ground := Go.Ground.data }, { on := 8, ground := Go.Ground.chain }, { on := 0, ground := Go.Ground.phase }, { on := 1, ground := Go.Ground.phase }, { on := 2, ground := Go.Ground.phase }, { on := 3, ground := Go.Ground.phase }, { on := 4, ground := Go.Ground.phase }, { on := 5, ground := Go.Ground.phase }, { on := 6, ground := Go.Ground.phase }, { on := 7, ground := Go.Ground.phase }, { on := 8, ground := Go.Ground.phase }, { on := 9, ground := Go.Ground.phase }, { on := 10, ground := Go.Ground.phase }], guard := none }) rfl (fun KK hKK => ?_) AllReadyH.nil
              go_simp
              refine hKK.out _ _ (two_keep (w := vE) (((hb).setCell (p := ⟨ka, 0, none⟩) gA _).setCell (p := ⟨ka, 1, none⟩) gA _) gl s0) (fun hHeld => ?_)
              clear hKK KK
              try simp only [Act.put, List.setIfInBounds_toArray, List.set_cons_zero, List.set_cons_succ]
              refine wpAnyH_done (by kernel_rfl) ?_ _
              refine NoPanic.normal ?_
              go_wp2_with fail
              go_meet
              exact ⟨ka, _, rfl, (qz.set0 _).set1 _, intSS_of (ls := []) own3 (by first | rfl | omega) (by rfl) (fun i hi => absurd hi (by simp)) (ints_at (l := [-1]) hG3 (by simp [maxLen])), B3⟩
            case h0 =>
              intro kb kg ke vd vf w2 hb gG hG nG own hHeld
              obtain ⟨g5, c5, rfl, _, _⟩ := own.form (by omega)
              have B3 := below_step hb (.cells #[.int .i64 m, (.slice (some ⟨g5, 0, none⟩) 1 c5)] 38)
              have own3 := own.alloc (.cells #[.int .i64 m, (.slice (some ⟨g5, 0, none⟩) 1 c5)] 38)
              have hG3 := hk_alloc (o' := (.cells #[.int .i64 m, (.slice (some ⟨g5, 0, none⟩) 1 c5)] 38)) hG
              try simp only [Act.put, List.setIfInBounds_toArray, List.set_cons_zero, List.set_cons_succ]
              refine wpAnyH_take (i := 9) (oi := { dst := some 96, op := Go.Op.build 38 #[(0, Go.Operand.tmp 88), (1, Go.Operand.tmp 95)], type := 38, pos := _, after := #[{ on := 1, ground := Go.Ground.data }, { on := 8, ground := Go.Ground.data }], guard := none }) (v := ?_) rfl (by kernel_rfl) (by kernel_rfl) (by kernel_rfl) (fun _ _ _ h => h) (Or.inl ⟨by rfl, ?_⟩) hHeld ?_
              rotate_left
              · (intro wq hSw; (try dsimp only at hSw); (try go_simp); (try with_reducible rfl))
              try simp only [Act.put, List.setIfInBounds_toArray, List.set_cons_zero, List.set_cons_succ]
              refine wpAnyH_ready (rs := [10]) (by kernel_rfl) (by simp) ?_
              refine AllReadyH.cons (o := { dst := some 8, op := Go.Op.alloc 38, type := 0, pos := _, after := #[], guard := none }) rfl (fun KK hKK => ?_) AllReadyH.nil
              go_simp
              refine hKK.out _ _ (two_keep (w := vE) (below_step hb _) gl s0) (fun hHeld => ?_)
              clear hKK KK
              try simp only [Act.put, List.setIfInBounds_toArray, List.set_cons_zero, List.set_cons_succ]
              refine wpAnyH_ready (rs := [11]) (by kernel_rfl) (by simp) ?_
              refine AllReadyH.cons (o := { dst := none, op := Go.Op.store 38 (Go.Operand.tmp 8) (Go.Operand.tmp 96), type := 0, pos := _, after := #[{ on := 10, ground := Go.Ground.data }, { on := 9, ground := Go.Ground.data }, { on := 8, ground := Go.Ground.chain }, { on := 0, ground := Go.Ground.phase }, { on := 1, ground := Go.Ground.phase }, { on := 2, ground := Go.Ground.phase }, { on := 3, ground := Go.Ground.phase }, { on := 4, ground := Go.Ground.phase }, { on := 5, ground := Go.Ground.phase }, { on := 6, ground := Go.Ground.phase }, { on := 7, ground := Go.Ground.phase }, { on := 8, ground := Go.Ground.phase }, { on := 9, ground := Go.Ground.phase }, { on := 10, ground := Go.Ground.phase }], guard := none }) rfl (fun KK hKK => ?_) AllReadyH.nil
              go_simp
              refine hKK.out _ _ (two_keep (w := vE) (below_step hb _) gl s0) (fun hHeld => ?_)
              clear hKK KK
              try simp only [Act.put, List.setIfInBounds_toArray, List.set_cons_zero, List.set_cons_succ]
              refine wpAnyH_done (by kernel_rfl) ?_ _
              refine NoPanic.normal ?_
              go_wp2_with fail
              go_meet
              exact ⟨w2.heap.size, _, rfl, blk_new w2 _ _ _, intSS_of (ls := []) own3 (by first | rfl | omega) (by rfl) (fun i hi => absurd hi (by simp)) (ints_at (l := [-1]) hG3 (by simp [maxLen])), B3⟩
          · have hnew := Lib.hid (fun w' h => (hR w' h).news)
            have hone : Hid (∀ u ∈ (List.range ls.length).map F, u.oneCell' = true) := by
              intro u hu
              obtain ⟨i, hi, rfl⟩ := List.mem_map.1 hu
              obtain ⟨a', c', e, _⟩ := (hF i (List.mem_range.1 hi)).now
              rw [e]; rfl
            have hlen : ((List.range ls.length).map F).length = ls.length * 1 := by simp
            have HF : Hid (∀ i, i < ls.length → ((List.range ls.length).map F).getD i undef = F i ∧ KI 0 vE (F i) (ls.getD i [])) := fun i hi => ⟨by simp [List.getD_eq_getElem?_getD, hi], hF i hi⟩
            generalize (List.range ls.length).map F = fs at *
            clear hR hF
            refine wp_region_noPanic ?_
            refine wp_region_held_drew (S := fun wx : World => wx.cell? ⟨w1.heap.size, 0, none⟩ = some (.int .i64 m) ∧ wx.cell? ⟨w1.heap.size, 1, none⟩ = some (.slice (some ⟨b1, 0, none⟩) ls.length c1)) (by kernel_rfl) (s0) (fun hHeld => ?_)
            refine wpAnyH_take (i := 0) (oi := { dst := some 87, op := Go.Op.fieldAddr 38 (Go.Operand.tmp 3) 0, type := 0, pos := _, after := #[], guard := none }) (v := ?_) rfl (by kernel_rfl) (by kernel_rfl) (by kernel_rfl) (fun _ _ _ h => h) (Or.inl ⟨by rfl, ?_⟩) hHeld ?_
            rotate_left
            · (intro wq hSw; (try dsimp only at hSw); (try go_simp); (try with_reducible rfl))
            try simp only [Act.put, List.setIfInBounds_toArray, List.set_cons_zero, List.set_cons_succ]
            refine wpAnyH_take (i := 1) (oi := { dst := some 88, op := Go.Op.load 3 (Go.Operand.tmp 87), type := 3, pos := _, after := #[{ on := 0, ground := Go.Ground.data }], guard := none }) (v := ?_) rfl (by kernel_rfl) (by kernel_rfl) (by kernel_rfl) (fun _ _ _ h => h) (Or.inl ⟨by rfl, ?_⟩) hHeld ?_
            rotate_left
            · (intro wq hSw; (try dsimp only at hSw); (try go_simp); (try with_reducible rfl))
            try simp only [Act.put, List.setIfInBounds_toArray, List.set_cons_zero, List.set_cons_succ]
            refine wpAnyH_take (i := 3) (oi := { dst := some 90, op := Go.Op.fieldAddr 38 (Go.Operand.tmp 3) 1, type := 0, pos := _, after := #[], guard := none }) (v := ?_) rfl (by kernel_rfl) (by kernel_rfl) (by kernel_rfl) (fun _ _ _ h => h) (Or.inl ⟨by rfl, ?_⟩) hHeld ?_
            rotate_left
            · (intro wq hSw; (try dsimp only at hSw); (try go_simp); (try with_reducible rfl))
            try simp only [Act.put, List.setIfInBounds_toArray, List.set_cons_zero, List.set_cons_succ]
            refine wpAnyH_take (i := 4) (oi := { dst := some 91, op := Go.Op.load 33 (Go.Operand.tmp 90), type := 33, pos := _, after := #[{ on := 3, ground := Go.Ground.data }], guard := none }) (v := ?_) rfl (by kernel_rfl) (by kernel_rfl) (by kernel_rfl) (fun _ _ _ h => h) (Or.inl ⟨by rfl, ?_⟩) hHeld ?_
            rotate_left
            · (intro wq hSw; (try dsimp only at hSw); (try go_simp); (try with_reducible rfl))
            try simp only [Act.put, List.setIfInBounds_toArray, List.set_cons_zero, List.set_cons_succ]
            refine dia_AG vE 22 1 fs (fun kg : Nat => [.slice (some ⟨kg, 0, none⟩) 1 1]) ls.length (ls.length + 1) (.cells #[.int .i64 0, .slice none 0 0] 38) (.cells #[.int .i64 (-1)] 3) (fun kg : Nat => .cells #[.slice (some ⟨kg, 0, none⟩) 1 1] 22) (fun k => .pointer (some ⟨k, 0, none⟩)) (fun k => .slice (some ⟨k, 0, none⟩) 1 1) (fun k => .slice (some ⟨k, 0, none⟩) 1 1) (iA := 10) (iB := 2) (iD := 5) (iG := 6) (iE := 7) (iF := 8) (yA := 8) (yB := 89) (yD := 92) (yG := 93) (yE := 94) (yF := 95) (oA := { dst := some 8, op := Go.Op.alloc 38, type := 0, pos := _, after := #[], guard := none }) (oB := { dst := some 89, op := Go.Op.buildSlice 33 0 #[], type := 33, pos := _, after := #[], guard := none }) (oD := { dst := some 92, op := Go.Op.call { callee := Go.Callee.builtin Go.Builtin.append, args := #[Go.Operand.tmp 89, Go.Operand.tmp 91], argTypes := #[33, 33] }, type := 33, pos := _, after := #[{ on := 2, ground := Go.Ground.data }, { on := 4, ground := Go.Ground.data }], guard := none }) (oG := { dst := some 93, op := Go.Op.buildSlice 22 1 #[(0, Go.Operand.const (Go.Value.int Go.IntKind.i64 (-1)))], type := 22, pos := _, after := #[], guard := none }) (oE := { dst := some 94, op := Go.Op.buildSlice 33 1 #[(0, Go.Operand.tmp 93)], type := 33, pos := _, after := #[{ on := 6, ground := Go.Ground.data }], guard := none }) (oF := { dst := some 95, op := Go.Op.call { callee := Go.Callee.builtin Go.Builtin.append, args := #[Go.Operand.tmp 92, Go.Operand.tmp 94], argTypes := #[33, 33] }, type := 33, pos := _, after := #[{ on := 5, ground := Go.Ground.data }, { on := 7, ground := Go.Ground.data }, { on := 5, ground := Go.Ground.chain }], guard := none }) (N := 2) rfl rfl rfl rfl rfl rfl (by kernel_rfl) (by decide) ⟨of_decide_eq_true rfl, of_decide_eq_true rfl, of_decide_eq_true rfl, of_decide_eq_true rfl, of_decide_eq_true rfl, of_decide_eq_true rfl⟩ (by decide) (fun w hb => two_keep hb gl s0) ?hA ?hB ?hG ?hE ?hD ?hF ?h1 ?h0 ((Below.refl _ _).drew)
            case hA => intro a w K h; go_simp; exact h
            case hB => intro a w K h; go_simp; exact h
            case hG => intro a w K hag h; go_simp; exact h
            case hE => intro a w K kg hag e0 h; have e : a.tmps[93]?.getD undef = .slice (some ⟨kg, 0, none⟩) 1 1 := (by rw [← Array.getD_eq_getD_getElem?]; exact e0); go_simp; (try simp only [e]); (try go_simp); exact h
            case hD =>
              intro a w K kb hag e1 hb own h
              refine step_append_at _ rfl (.tmp 89) (.tmp 91) _ rfl vE.heap.size 22 i0 (.slice none 0 0) 1 24 Try.underlying33 hi hz0 hz1 hz2 rfl (by omega) (.slice (some ⟨kb, 0, none⟩) 0 0) 0 [] e1 own ⟨b1, 0, none⟩ ls.length c1 fs (hag 91 (by decide) (by decide) (by decide) (by decide) (by decide) (by decide)) hlen (hnew.out _ (kept_below hb)) hone.out (by unfold maxLen; omega) (by omega) hb.size ?_
              intro v' w' o1 o2 o3
              rw [Nat.zero_add] at o1
              exact h v' w' o1 o2 o3
            case hF =>
              intro a w K kg ke vd hag e1 e2 hb own hk h
              refine step_append_lies _ rfl (.tmp 92) (.tmp 94) _ rfl vE.heap.size 22 i0 (.slice none 0 0) 1 24 Try.underlying33 hi hz0 hz1 hz2 rfl (by omega) vd ls.length fs e1 own ⟨ke, 0, none⟩ 1 1 [.slice (some ⟨kg, 0, none⟩) 1 1] e2 rfl (World.news_of_block hk) (by simp [Value.oneCell']) (by omega) (by unfold maxLen; omega) (by omega) hb.size _ rfl ?_
              intro b2 cap2 z2 o1 o2 o3 o4
              exact h _ _ o1 o2 (o3.elim (fun e => .inl e.symm) (fun e => .inr (by rw [e]; rfl)))
            case h1 =>
              intro ka kb kg ke vd vf w2 hb gA hA nA gG hG nG own hHeld
              obtain ⟨g5, c5, rfl, _, _⟩ := own.form (by omega)
              have qz : Blk w2 ka (.int .i64 0) (.slice none 0 0) 38 := (by unfold Blk; exact hA)
              obtain ⟨qz0, qz1, qzl⟩ := qz.cells
              obtain ⟨qf0, qf1⟩ := qz.frozen
              have B3 := ((hb).setCell (p := ⟨ka, 0, none⟩) gA (.int .i64 m)).setCell (p := ⟨ka, 1, none⟩) gA (.slice (some ⟨g5, 0, none⟩) (ls.length + 1) c5)
              have own3 := own_setCell (own_setCell own (p := ⟨ka, 0, none⟩) nA (.int .i64 m)) (p := ⟨ka, 1, none⟩) nA (.slice (some ⟨g5, 0, none⟩) (ls.length + 1) c5)
              have nAG : kg ≠ ka := fun e => by (subst e; rw [hA] at hG; simp at hG)
              have hG3 := hk_set (hk_set hG (p := ⟨ka, 0, none⟩) nAG (.int .i64 m)) (p := ⟨ka, 1, none⟩) nAG (.slice (some ⟨g5, 0, none⟩) (ls.length + 1) c5)
              try simp only [Act.put, List.setIfInBounds_toArray, List.set_cons_zero, List.set_cons_succ]
              refine wpAnyH_take (i := 9) (oi := { dst := some 96, op := Go.Op.build 38 #[(0, Go.Operand.tmp 88), (1, Go.Operand.tmp 95)], type := 38, pos := _, after := #[{ on := 1, ground := Go.Ground.data }, { on := 8, ground := Go.Ground.data }], guard := none }) (v := ?_) rfl (by kernel_rfl) (by kernel_rfl) (by kernel_rfl) (fun _ _ _ h => h) (Or.inl ⟨by rfl, ?_⟩) hHeld ?_
              rotate_left
              · (intro wq hSw; (try dsimp only at hSw); (try go_simp); (try with_reducible rfl))
              try simp only [Act.put, List.setIfInBounds_toArray, List.set_cons_zero, List.set_cons_succ]
              refine wpAnyH_ready (rs := [11]) (by kernel_rfl) (by simp) ?_
              refine AllReadyH.cons (o := { dst := none, op := Go.Op.store 38 (Go.Operand.tmp 8) (Go.Operand.tmp 96), type := 0, pos := _, after := #[{ on := 10, ground := Go.Ground.data }, { on := 9, ground := Go.Ground.data }, { on := 8, ground := Go.Ground.chain }, { on := 0, ground := Go.Ground.phase }, { on := 1, ground := Go.Ground.phase }, { on := 2, ground := Go.Ground.phase }, { on := 3, ground := Go.Ground.phase }, { on := 4, ground := Go.Ground.phase }, { on := 5, ground := Go.Ground.phase }, { on := 6, ground := Go.Ground.phase }, { on := 7, ground := Go.Ground.phase }, { on := 8, ground := Go.Ground.phase }, { on := 9, ground := Go.Ground.phase }, { on := 10, ground := Go.Ground.phase }], guard := none }) rfl (fun KK hKK => ?_) AllReadyH.nil
              go_simp
              refine hKK.out _ _ (two_keep (w := vE) (((hb).setCell (p := ⟨ka, 0, none⟩) gA _).setCell (p := ⟨ka, 1, none⟩) gA _) gl s0) (fun hHeld => ?_)
              clear hKK KK
              try simp only [Act.put, List.setIfInBounds_toArray, List.set_cons_zero, List.set_cons_succ]
              refine wpAnyH_done (by kernel_rfl) ?_ _
              refine NoPanic.normal ?_
              go_wp2_with fail
              go_meet
              exact ⟨ka, _, rfl, (qz.set0 _).set1 _, intSS_of (ls := ls) own3 (by first | rfl | omega) (by omega) (fun i hi => by rw [(HF.out i hi).1]; exact (HF.out i hi).2 _ (kept_below B3)) (ints_at (l := [-1]) hG3 (by simp [maxLen])), B3⟩
            case h0 =>
              intro kb kg ke vd vf w2 hb gG hG nG own hHeld
              obtain ⟨g5, c5, rfl, _, _⟩ := own.form (by omega)
              have B3 := below_step hb (.cells #[.int .i64 m, (.slice (some ⟨g5, 0, none⟩) (ls.length + 1) c5)] 38)
              have own3 := own.alloc (.cells #[.int .i64 m, (.slice (some ⟨g5, 0, none⟩) (ls.length + 1) c5)] 38)
              have hG3 := hk_alloc (o' := (.cells #[.int .i64 m, (.slice (some ⟨g5, 0, none⟩) (ls.length + 1) c5)] 38)) hG
              try simp only [Act.put, List.setIfInBounds_toArray, List.set_cons_zero, List.set_cons_succ]
              refine wpAnyH_take (i := 9) (oi := { dst := some 96, op := Go.Op.build 38 #[(0, Go.Operand.tmp 88), (1, Go.Operand.tmp 95)], type := 38, pos := _, after := #[{ on := 1, ground := Go.Ground.data }, { on := 8, ground := Go.Ground.data }], guard := none }) (v := ?_) rfl (by kernel_rfl) (by kernel_rfl) (by kernel_rfl) (fun _ _ _ h => h) (Or.inl ⟨by rfl, ?_⟩) hHeld ?_
              rotate_left
              · (intro wq hSw; (try dsimp only at hSw); (try go_simp); (try with_reducible rfl))
              try simp only [Act.put, List.setIfInBounds_toArray, List.set_cons_zero, List.set_cons_succ]
              refine wpAnyH_ready (rs := [10]) (by kernel_rfl) (by simp) ?_
              refine AllReadyH.cons (o := { dst := some 8, op := Go.Op.alloc 38, type := 0, pos := _, after := #[], guard := none }) rfl (fun KK hKK => ?_) AllReadyH.nil
              go_simp
              refine hKK.out _ _ (two_keep (w := vE) (below_step hb _) gl s0) (fun hHeld => ?_)
              clear hKK KK
              try simp only [Act.put, List.setIfInBounds_toArray, List.set_cons_zero, List.set_cons_succ]
              refine wpAnyH_ready (rs := [11]) (by kernel_rfl) (by simp) ?_
              refine AllReadyH.cons (o := { dst := none, op := Go.Op.store 38 (Go.Operand.tmp 8) (Go.Operand.tmp 96), type := 0, pos := _, after := #[{ on := 10, ground := Go.Ground.data }, { on := 9, ground := Go.Ground.data }, { on := 8, ground := Go.Ground.chain }, { on := 0, ground := Go.Ground.phase }, { on := 1, ground := Go.Ground.phase }, { on := 2, ground := Go.Ground.phase }, { on := 3, ground := Go.Ground.phase }, { on := 4, ground := Go.Ground.phase }, { on := 5, ground := Go.Ground.phase }, { on := 6, ground := Go.Ground.phase }, { on := 7, ground := Go.Ground.phase }, { on := 8, ground := Go.Ground.phase }, { on := 9, ground := Go.Ground.phase }, { on := 10, ground := Go.Ground.phase }], guard := none }) rfl (fun KK hKK => ?_) AllReadyH.nil
              go_simp
              refine hKK.out _ _ (two_keep (w := vE) (below_step hb _) gl s0) (fun hHeld => ?_)
              clear hKK KK
              try simp only [Act.put, List.setIfInBounds_toArray, List.set_cons_zero, List.set_cons_succ]
              refine wpAnyH_done (by kernel_rfl) ?_ _
              refine NoPanic.normal ?_
              go_wp2_with fail
              go_meet
              exact ⟨w2.heap.size, _, rfl, blk_new w2 _ _ _, intSS_of (ls := ls) own3 (by first | rfl | omega) (by omega) (fun i hi => by rw [(HF.out i hi).1]; exact (HF.out i hi).2 _ (kept_below B3)) (ints_at (l := [-1]) hG3 (by simp [maxLen])), B3⟩
        case rest =>
          obtain ⟨gF, xF, rfl, BF, dF, hb6⟩ := hcut
          obtain ⟨vF, rfl⟩ : ∃ vF, vF = wc := ⟨_, rfl⟩
          replace C := C.keep hb6
          replace BA := BA.keep hb6
          replace BB := BB.keep hb6
          replace BE := BE.keep hb6
          replace hc := hc.below hb6
          replace dA := dA.below hb6
          replace dB := dB.below hb6
          replace dE := dE.below hb6
          replace K := below_two K hb6
          clear hb6 C0 C1 C2
          obtain ⟨C0, C1, C2⟩ := C.cells
          clear g1 gw
          have QA : Hid (∀ x wx, IntSS wx x (ls ++ [[m + 1]]) → Calls Try.prog 27 #[.agg #[.int .i64 m, x]] wx (fun e w' => e = .returned (.bool false) ∧ Below wx.heap.size wx w')) := fun x wx h1 => (cnfOk_impl m x _ wx h1 (wf_snoc hwf.out (fun x hx => by simp at hx; subst hx; unfold I64; omega))).mono (by rintro e w'' ⟨rfl, hb⟩; rw [bent_a]; exact ⟨rfl, hb⟩)
          have QB : Hid (∀ x wx, IntSS wx x (ls ++ [[1, -1]]) → Calls Try.prog 27 #[.agg #[.int .i64 m, x]] wx (fun e w' => e = .returned (.bool false) ∧ Below wx.heap.size wx w')) := fun x wx h1 => (cnfOk_impl m x _ wx h1 (wf_snoc hwf.out (fun x hx => by simp at hx; unfold I64; omega))).mono (by rintro e w'' ⟨rfl, hb⟩; rw [bent_b]; exact ⟨rfl, hb⟩)
          have QE : Hid (∀ x wx, IntSS wx x (ls ++ [[0]]) → Calls Try.prog 27 #[.agg #[.int .i64 m, x]] wx (fun e w' => e = .returned (.bool false) ∧ Below wx.heap.size wx w')) := fun x wx h1 => (cnfOk_impl m x _ wx h1 (wf_snoc hwf.out (fun x hx => by simp at hx; unfold I64; omega))).mono (by rintro e w'' ⟨rfl, hb⟩; rw [bent_e]; exact ⟨rfl, hb⟩)
          have QF : Hid (∀ x wx, IntSS wx x (ls ++ [[-1]]) → Calls Try.prog 27 #[.agg #[.int .i64 m, x]] wx (fun e w' => e = .returned (.bool true) ∧ Below wx.heap.size wx w')) := fun x wx h1 => (cnfOk_impl m x _ wx h1 (wf_snoc hwf.out (fun x hx => by simp at hx; unfold I64; omega))).mono (by rintro e w'' ⟨rfl, hb⟩; rw [bent_f EO.out.symm m1 (by omega)]; exact ⟨rfl, hb⟩)
          have QS : Hid (∀ x y wx, IntSS wx x ls → IntSS wx y (ls ++ [[-1]]) → Calls Try.prog 24 #[.agg #[.int .i64 m, x], .agg #[.int .i64 m, y]] wx (fun e w' => e = .returned (.bool false) ∧ Below wx.heap.size wx w')) := fun x y wx h1 h2 => (cnfSame_impl m x _ m y _ wx h1 h2).mono (by rintro e w'' ⟨rfl, hb⟩; rw [same_longer]; exact ⟨rfl, hb⟩)
          have QT : Hid (∀ x y wx, IntSS wx x (ls ++ [[m + 1]]) → IntSS wx y (ls ++ [[1, -1]]) → Calls Try.prog 24 #[.agg #[.int .i64 m, x], .agg #[.int .i64 m, y]] wx (fun e w' => e = .returned (.bool false) ∧ Below wx.heap.size wx w')) := fun x y wx h1 h2 => (cnfSame_impl m x _ m y _ wx h1 h2).mono (by rintro e w'' ⟨rfl, hb⟩; rw [same_last (by simp)]; exact ⟨rfl, hb⟩)
          obtain ⟨lA, elA⟩ : ∃ l, l = ls ++ [[m + 1]] := ⟨_, rfl⟩
          rw [← elA] at dA QA QT
          clear elA
          obtain ⟨lB, elB⟩ : ∃ l, l = ls ++ [[1, -1]] := ⟨_, rfl⟩
          rw [← elB] at dB QB QT
          clear elB
          obtain ⟨lE, elE⟩ : ∃ l, l = ls ++ [[0]] := ⟨_, rfl⟩
          rw [← elE] at dE QE
          clear elE
          obtain ⟨lF, elF⟩ : ∃ l, l = ls ++ [[-1]] := ⟨_, rfl⟩
          rw [← elF] at dF QF QS
          clear elF
          obtain ⟨aA, cA, rfl⟩ := dA.form
          obtain ⟨aB, cB, rfl⟩ := dB.form
          obtain ⟨aE, cE, rfl⟩ := dE.form
          obtain ⟨aF, cF, rfl⟩ := dF.form
          clear m1 m7 l30 hwf HQ EO
          clear C0 C1 C2
          obtain ⟨C0, C1, C2⟩ := C.cells
          obtain ⟨BA0, BA1, BA2⟩ := BA.cells
          obtain ⟨BB0, BB1, BB2⟩ := BB.cells
          obtain ⟨BE0, BE1, BE2⟩ := BE.cells
          obtain ⟨BF0, BF1, BF2⟩ := BF.cells
          go_wp2_with fail
          refine (QA.out _ _ dA).mono ?_; rintro e w21 ⟨rfl, hb⟩
          clear C0 C1 C2 BA0 BA1 BA2 BB0 BB1 BB2 BE0 BE1 BE2 BF0 BF1 BF2
          replace C := C.keep hb
          replace BA := BA.keep hb
          replace BB := BB.keep hb
          replace BE := BE.keep hb
          replace BF := BF.keep hb
          replace hc := hc.below hb
          replace dA := dA.below hb
          replace dB := dB.below hb
          replace dE := dE.below hb
          replace dF := dF.below hb
          replace K := below_two K hb
          clear hb
          obtain ⟨C0, C1, C2⟩ := C.cells
          obtain ⟨BA0, BA1, BA2⟩ := BA.cells
          obtain ⟨BB0, BB1, BB2⟩ := BB.cells
          obtain ⟨BE0, BE1, BE2⟩ := BE.cells
          obtain ⟨BF0, BF1, BF2⟩ := BF.cells
          go_wp2_with fail
          refine (QB.out _ _ dB).mono ?_; rintro e w22 ⟨rfl, hb⟩
          clear C0 C1 C2 BA0 BA1 BA2 BB0 BB1 BB2 BE0 BE1 BE2 BF0 BF1 BF2
          replace C := C.keep hb
          replace BA := BA.keep hb
          replace BB := BB.keep hb
          replace BE := BE.keep hb
          replace BF := BF.keep hb
          replace hc := hc.below hb
          replace dA := dA.below hb
          replace dB := dB.below hb
          replace dE := dE.below hb
          replace dF := dF.below hb
          replace K := below_two K hb
          clear hb
          obtain ⟨C0, C1, C2⟩ := C.cells
          obtain ⟨BA0, BA1, BA2⟩ := BA.cells
          obtain ⟨BB0, BB1, BB2⟩ := BB.cells
          obtain ⟨BE0, BE1, BE2⟩ := BE.cells
          obtain ⟨BF0, BF1, BF2⟩ := BF.cells
          go_wp2_with fail
          refine (QE.out _ _ dE).mono ?_; rintro e w23 ⟨rfl, hb⟩
          clear C0 C1 C2 BA0 BA1 BA2 BB0 BB1 BB2 BE0 BE1 BE2 BF0 BF1 BF2
          replace C := C.keep hb
          replace BA := BA.keep hb
          replace BB := BB.keep hb
          replace BE := BE.keep hb
          replace BF := BF.keep hb
          replace hc := hc.below hb
          replace dA := dA.below hb
          replace dB := dB.below hb
          replace dE := dE.below hb
          replace dF := dF.below hb
          replace K := below_two K hb
          clear hb
          obtain ⟨C0, C1, C2⟩ := C.cells
          obtain ⟨BA0, BA1, BA2⟩ := BA.cells
          obtain ⟨BB0, BB1, BB2⟩ := BB.cells
          obtain ⟨BE0, BE1, BE2⟩ := BE.cells
          obtain ⟨BF0, BF1, BF2⟩ := BF.cells
          go_wp2_with fail
          refine (QF.out _ _ dF).mono ?_; rintro e w24 ⟨rfl, hb⟩
          clear C0 C1 C2 BA0 BA1 BA2 BB0 BB1 BB2 BE0 BE1 BE2 BF0 BF1 BF2
          replace C := C.keep hb
          replace BA := BA.keep hb
          replace BB := BB.keep hb
          replace BE := BE.keep hb
          replace BF := BF.keep hb
          replace hc := hc.below hb
          replace dA := dA.below hb
          replace dB := dB.below hb
          replace dE := dE.below hb
          replace dF := dF.below hb
          replace K := below_two K hb
          clear hb
          obtain ⟨C0, C1, C2⟩ := C.cells
          obtain ⟨BA0, BA1, BA2⟩ := BA.cells
          obtain ⟨BB0, BB1, BB2⟩ := BB.cells
          obtain ⟨BE0, BE1, BE2⟩ := BE.cells
          obtain ⟨BF0, BF1, BF2⟩ := BF.cells
          go_wp2_with fail
          refine (QS.out _ _ _ hc.now dF).mono ?_; rintro e w25 ⟨rfl, hb⟩
          clear C0 C1 C2 BA0 BA1 BA2 BB0 BB1 BB2 BE0 BE1 BE2 BF0 BF1 BF2
          replace C := C.keep hb
          replace BA := BA.keep hb
          replace BB := BB.keep hb
          replace BE := BE.keep hb
          replace BF := BF.keep hb
          replace hc := hc.below hb
          replace dA := dA.below hb
          replace dB := dB.below hb
          replace dE := dE.below hb
          replace dF := dF.below hb
          replace K := below_two K hb
          clear hb
          obtain ⟨C0, C1, C2⟩ := C.cells
          obtain ⟨BA0, BA1, BA2⟩ := BA.cells
          obtain ⟨BB0, BB1, BB2⟩ := BB.cells
          obtain ⟨BE0, BE1, BE2⟩ := BE.cells
          obtain ⟨BF0, BF1, BF2⟩ := BF.cells
          go_wp2_with fail
          refine (QT.out _ _ _ dA dB).mono ?_; rintro e w26 ⟨rfl, hb⟩
          clear C0 C1 C2 BA0 BA1 BA2 BB0 BB1 BB2 BE0 BE1 BE2 BF0 BF1 BF2
          replace C := C.keep hb
          replace BA := BA.keep hb
          replace BB := BB.keep hb
          replace BE := BE.keep hb
          replace BF := BF.keep hb
          replace hc := hc.below hb
          replace dA := dA.below hb
          replace dB := dB.below hb
          replace dE := dE.below hb
          replace dF := dF.below hb
          replace K := below_two K hb
          clear hb
          obtain ⟨C0, C1, C2⟩ := C.cells
          obtain ⟨BA0, BA1, BA2⟩ := BA.cells
          obtain ⟨BB0, BB1, BB2⟩ := BB.cells
          obtain ⟨BE0, BE1, BE2⟩ := BE.cells
          obtain ⟨BF0, BF1, BF2⟩ := BF.cells
          go_wp2_with fail
          go_ret
          exact ⟨rfl, K⟩
end Go.Proofs.Ytjobbokjebhjgaa
