/- The walk of FnCnfMore: for every argument the law returns true and leaves alone what was there. -/
import Derived.Test.YtjobbokjebhjgaaWFcl
import Derived.Test.YtjobbokjebhjgaaCr
import Derived.Test.YtjobbokjebhjgaaAp
namespace Go.Proofs.Ytjobbokjebhjgaa
open Go.RowKit

set_option linter.unusedVariables false in
set_option maxRecDepth 100000 in
set_option maxHeartbeats 16000000 in
theorem walk_FnCnfMore {w : World} (v : Value) (h : BytesIn w v) (v' : Value) (h' : BytesIn w v') :
    Calls Try.prog 12 #[v, v'] w fun e w' => e = .returned (.bool true) ∧ Below w.heap.size w w' := by
  obtain ⟨a0, len, cp, rfl⟩ : ∃ a len cap, v = .slice a len cap := by
    rcases h with ⟨a, c, rfl⟩ | ⟨b, off, len, cap, rfl, _⟩ <;> exact ⟨_, _, _, rfl⟩
  obtain ⟨a0', len', cp', rfl⟩ : ∃ a len cap, v' = .slice a len cap := by
    rcases h' with ⟨a, c, rfl⟩ | ⟨b, off, len, cap, rfl, _⟩ <;> exact ⟨_, _, _, rfl⟩
  clear h'
  by_cases hb : (1048576 : Int) < len
  · go_enter Try.func12, Try.ntmps12
    go_wp2_with fail
    go_ret
    exact ⟨rfl, Below.refl _ _⟩
  by_cases hb' : (1048576 : Int) < len'
  · go_enter Try.func12, Try.ntmps12
    go_wp2_with fail
    go_ret
    exact ⟨rfl, Below.refl _ _⟩
  go_enter Try.func12, Try.ntmps12
  go_wp2_with fail
  refine (drawCnfLeast_any _ _ h).mono ?_
  rintro e w1 ⟨_, rfl, ⟨m, x, ls, rfl, hc, hm64, hlen35, hwf0⟩, K⟩
  obtain ⟨a1, c1, rfl⟩ := hc.form
  have hwf := Lib.hid hwf0
  clear hwf0
  replace K := below_step K (.cells #[.int .i64 m, .slice a1 ls.length c1] 38)
  have C := blk_new w1 (.int .i64 m) (.slice a1 ls.length c1) 38
  replace hc := hc.below (below_self_alloc w1 (.cells #[.int .i64 m, .slice a1 ls.length c1] 38))
  obtain ⟨z, hz⟩ : ∃ z, z = leastL m ls := ⟨_, rfl⟩
  have CS : Hid (∀ v' w', IntSS w' v' ls → Calls Try.prog 39 #[.agg #[.int .i64 m, v']] w' (LeastRet z w')) := fun v' w' h => by rw [hz]; exact cnfLeast_spec m v' ls w' h hwf.out
  have CI : Hid (∀ v' w', IntSS w' v' ls → Calls Try.prog 38 #[.agg #[.int .i64 m, v']] w' (LeastRet z w')) := fun v' w' h => by rw [hz]; exact cnfLeast_impl m v' ls w' h hwf.out
  have HZ := Lib.hid hz
  clear hz
  obtain ⟨l, b⟩ := z
  obtain ⟨C0, C1, C2⟩ := C.cells
  go_wp2_with fail
  refine (CI.out _ _ hc.now).mono ?_; rintro e w2 ⟨y2, rfl, o2w, hb2⟩
  obtain ⟨p2, c2, rfl, _⟩ := Row.of_own o2w
  have V := Bools.of_own o2w
  replace K := below_two K hb2
  replace C := C.keep hb2
  replace hc := hc.below hb2
  clear C0 C1 C2 hb2 o2w
  obtain ⟨C0, C1, C2⟩ := C.cells
  go_wp2_with fail
  refine (CS.out _ _ hc.now).mono ?_; rintro e w3 ⟨y3, rfl, o3w, hb3⟩
  obtain ⟨p3, c3, rfl, _⟩ := Row.of_own o3w
  replace K := below_two K hb3
  replace C := C.keep hb3
  replace hc := hc.below hb3
  replace V := V.below hb3
  clear C0 C1 C2 hb3 CS CI
  obtain ⟨C0, C1, C2⟩ := C.cells
  cases b
  · go_wp2_with fail
    refine (wpBools_any _ _ l l _ V (Bools.of_own o3w)).mono ?_; rintro e w4 d4
    obtain ⟨rfl, hb4⟩ := d4.below
    rw [decide_eq_true rfl]
    replace K := below_two K hb4
    replace V := V.below hb4
    have V3 := (Bools.of_own o3w).below hb4
    clear d4 hb4 C0 C1 C2
    go_wp2_with fail
    refine (wpBools_any _ _ l l _ V V3).mono ?_; rintro e w5 d5
    obtain ⟨rfl, hb5⟩ := d5.below
    rw [decide_eq_true rfl]
    replace K := below_two K hb5
    clear d5 hb5
    go_wp2_with fail
    go_ret
    exact ⟨rfl, K⟩
  have hz := HZ.out
  obtain ⟨hk, hm⟩ : cnfOkL m ls = true ∧ m ≤ 10 := by
    by_cases hh : cnfOkL m ls = true ∧ m ≤ 10
    · exact hh
    · unfold leastL at hz; rw [if_neg hh] at hz; cases hz
  rw [leastL_on hk hm] at hz
  obtain ⟨m0, m1, _⟩ := cnfOkL_m hk
  obtain ⟨n, rfl⟩ := Int.eq_ofNat_of_zero_le m0
  have en : ((n : Int).toNat) = n := rfl
  rw [en] at hz
  obtain ⟨hln, hok2, hx2⟩ := more_law hk (by omega) hz.symm
  subst hln
  have HX := Lib.hid hx2
  have HOK2 := Lib.hid hok2
  clear hx2 hok2 hz hk HZ en
  go_wp2_with fail
  refine (wpBools_any _ _ l l _ V (Bools.of_own o3w)).mono ?_; rintro e w4 d4
  obtain ⟨rfl, hb4⟩ := d4.below
  rw [decide_eq_true rfl]
  replace K := below_two K hb4
  replace V := V.below hb4
  replace C := C.keep hb4
  replace hc := hc.below hb4
  clear d4 hb4 C0 C1 C2 o3w
  obtain ⟨C0, C1, C2⟩ := C.cells
  have g35 : ((2500 : Int) ≤ (ls.length : Int)) = False := by simp; omega
  have g36 : decide ((2500 : Int) ≤ (ls.length : Int)) = false := by simp; omega
  obtain ⟨i2, hi', hy0, hy1, hy2⟩ := info_parts infoInt
  have O0 : (w4.alloc (.cells #[] 3)).ownsRow w4.heap.size 3 1 (.slice (some ⟨w4.heap.size, 0, none⟩) 0 0) 0 ((turnL l 0).map (.int .i64)) := own_at (hk_at rfl) (Nat.le_refl _)
  have K0 := below_self_alloc w4 (.cells #[] 3)
  go_wp2_with fail
  clear C0 C1 C2
  have hl10 : l.length ≤ 10 := by omega
  go_loopw [11, 10] (fun i q wr => ∃ (k tb tc : Nat), k ≤ l.length ∧ i = .int .i64 k ∧ q = .slice (some ⟨tb, 0, none⟩) k tc ∧ wr.ownsRow w4.heap.size 3 1 (.slice (some ⟨tb, 0, none⟩) k tc) k ((turnL l k).map (.int .i64)) ∧ Below w4.heap.size w4 wr) (fun i _ _ => l.length - (intOf i).toNat)
  case atStart => exact ⟨0, _, _, Nat.zero_le _, rfl, rfl, O0, K0⟩
  case round =>
    clear O0 K0
    obtain ⟨k, tb, tc, hk, rfl, rfl, own, B⟩ := hrel
    by_cases hlt : k < l.length
    · obtain ⟨vb, off, rfl, c0⟩ : ∃ b off, p2 = some ⟨b, off, none⟩ ∧ wr.cell? ⟨b, off + k, none⟩ = some (.bool (l.getD k false)) := by
        obtain ⟨_, _, e, _, _, h3⟩ := V.below B
        cases e
        rcases h3 with h3 | ⟨b, off, e, _, hcc⟩
        · omega
        · exact ⟨b, off, e, hcc k hlt⟩
      have hk1 : (k : Int) < (l.length : Int) := by omega
      have hsz := B.size

      cases hbk : l.getD k false
      · have et : turnC l k = ((k : Int) + 1) := by unfold turnC; rw [hbk]; rfl
        rw [hbk] at c0
        have B' := below_self_alloc wr (.cells #[.int .i64 ((k : Int) + 1)] 3)
        have own' := own.alloc (.cells #[.int .i64 ((k : Int) + 1)] 3)
        have hsz' := B'.size
        clear own
        go_wp2_with (at_builtin; refine wpList_append_lies _ rfl _ _ _ rfl w4.heap.size 3 i2 (.int .i64 0) 1 8 Try.underlying22 hi' hy0 hy1 hy2 rfl (by omega) _ k ((turnL l k).map (.int .i64)) rfl own' ⟨wr.heap.size, 0, none⟩ 1 1 [.int .i64 ((k : Int) + 1)] rfl rfl (World.news_of_block (heap_alloc_new wr _)) (by simp [Value.oneCell']) (by omega) (by unfold maxLen; omega) (by omega) (by omega) _ rfl ?_; intro b2 cap2 w5 own5 hg5 hat5 hlt5)
        have B5 := below_grows (below_step B (.cells #[.int .i64 ((k : Int) + 1)] 3)) hg5 (own_row_ge own')
        have own6 : w5.ownsRow w4.heap.size 3 1 (.slice (some ⟨b2, 0, none⟩) (k + 1) cap2) (k + 1) ((turnL l (k + 1)).map (.int .i64)) := by
          rw [turnL_succ, List.map_append, et]; exact own5
        go_wp2_with fail
        exact ⟨⟨k + 1, _, _, by omega, by go_num, rfl, own6, B5⟩, by simp [intOf]; omega⟩

      · have et : turnC l k = (-(k : Int) - 1) := by unfold turnC; rw [hbk]; rfl
        rw [hbk] at c0
        have B' := below_self_alloc wr (.cells #[.int .i64 (-(k : Int) - 1)] 3)
        have own' := own.alloc (.cells #[.int .i64 (-(k : Int) - 1)] 3)
        have hsz' := B'.size
        clear own
        go_wp2_with (at_builtin; refine wpList_append_lies _ rfl _ _ _ rfl w4.heap.size 3 i2 (.int .i64 0) 1 8 Try.underlying22 hi' hy0 hy1 hy2 rfl (by omega) _ k ((turnL l k).map (.int .i64)) rfl own' ⟨wr.heap.size, 0, none⟩ 1 1 [.int .i64 (-(k : Int) - 1)] rfl rfl (World.news_of_block (heap_alloc_new wr _)) (by simp [Value.oneCell']) (by omega) (by unfold maxLen; omega) (by omega) (by omega) _ rfl ?_; intro b2 cap2 w5 own5 hg5 hat5 hlt5)
        have B5 := below_grows (below_step B (.cells #[.int .i64 (-(k : Int) - 1)] 3)) hg5 (own_row_ge own')
        have own6 : w5.ownsRow w4.heap.size 3 1 (.slice (some ⟨b2, 0, none⟩) (k + 1) cap2) (k + 1) ((turnL l (k + 1)).map (.int .i64)) := by
          rw [turnL_succ, List.map_append, et]; exact own5
        go_wp2_with fail
        exact ⟨⟨k + 1, _, _, by omega, by go_num, rfl, own6, B5⟩, by simp [intOf]; omega⟩

    · obtain rfl : k = l.length := by omega
      replace C := C.keep B
      replace hc := hc.below B
      replace V := V.below B
      replace K := below_two K B
      have T := Ints.of_own own
      have TL := turnL_len l l.length
      have TW := Lib.hid (turn_wf l l.length (by omega))
      rw [show (Value.slice (some ⟨tb, 0, none⟩) l.length tc) = .slice (some ⟨tb, 0, none⟩) (turnL l l.length).length tc by rw [TL]] at T
      clear own B

      go_upto_region 15 with fail
      go_cut [12, 104, 107, 108, 111, 113, 114, 117] (fun s12 s1 s2 s3 s4 s5 s6 s7 wx => ∃ (g2 : Nat) (x : Value), s12 = .pointer (some ⟨g2, 0, none⟩) ∧ s1 = undef ∧ s2 = undef ∧ s3 = undef ∧ s4 = undef ∧ s5 = undef ∧ s6 = undef ∧ s7 = undef ∧ Blk wx g2 (.int .i64 l.length) x 38 ∧ IntSS wx x (ls ++ [turnL l l.length]) ∧ Below wr.heap.size wr wx)
      case first =>
        obtain ⟨i0, hi, hz0, hz1, hz2⟩ := info_parts infoInts
        have gl := C.lt
        obtain ⟨C0, C1, C2⟩ := C.cells
        have s0 := And.intro C0 C1
        obtain ⟨a, cap, F, e, hnn, hR, hF⟩ := hc
        cases e
        have T1 : ∀ wx, Below wr.heap.size wr wx → Ints wx (.slice (some ⟨tb, 0, none⟩) l.length tc) (turnL l l.length) := fun wx hb => by have := T.below hb; rw [TL] at this; exact this
        rcases hnn with ⟨rfl, rfl⟩ | ⟨b1, rfl⟩
        · obtain rfl : ls = [] := by
            obtain ⟨_, _, h3⟩ := hR wr (Kept.refl _ _)
            rcases h3 with h3 | ⟨b, o, e, _⟩
            · exact List.length_eq_zero_iff.1 h3
            · cases e
          clear hR hF T
          rw [List.length_nil] at *

          refine wp_region_noPanic ?_
          refine wp_region_held_drew (S := fun wx : World => wx.cell? ⟨w1.heap.size, 0, none⟩ = some (.int .i64 l.length) ∧ wx.cell? ⟨w1.heap.size, 1, none⟩ = some (.slice none 0 0)) (by kernel_rfl) (s0) (fun hHeld => ?_)
          refine wpAnyH_take (i := 0) (oi := { dst := some 84, op := Go.Op.fieldAddr 38 (Go.Operand.tmp 5) 0, type := 0, pos := _, after := #[], guard := none }) (v := ?_) rfl (by kernel_rfl) (by kernel_rfl) (by kernel_rfl) (fun _ _ _ h => h) (Or.inl ⟨by rfl, ?_⟩) hHeld ?_
          rotate_left
          · (intro wq hSw; (try dsimp only at hSw); (try go_simp); (try with_reducible rfl))
          try simp only [Act.put, List.setIfInBounds_toArray, List.set_cons_zero, List.set_cons_succ]
          refine wpAnyH_take (i := 1) (oi := { dst := some 85, op := Go.Op.load 3 (Go.Operand.tmp 84), type := 3, pos := _, after := #[{ on := 0, ground := Go.Ground.data }], guard := none }) (v := ?_) rfl (by kernel_rfl) (by kernel_rfl) (by kernel_rfl) (fun _ _ _ h => h) (Or.inl ⟨by rfl, ?_⟩) hHeld ?_
          rotate_left
          · (intro wq hSw; (try dsimp only at hSw); (try go_simp); (try with_reducible rfl))
          try simp only [Act.put, List.setIfInBounds_toArray, List.set_cons_zero, List.set_cons_succ]
          refine wpAnyH_take (i := 3) (oi := { dst := some 87, op := Go.Op.fieldAddr 38 (Go.Operand.tmp 5) 1, type := 0, pos := _, after := #[], guard := none }) (v := ?_) rfl (by kernel_rfl) (by kernel_rfl) (by kernel_rfl) (fun _ _ _ h => h) (Or.inl ⟨by rfl, ?_⟩) hHeld ?_
          rotate_left
          · (intro wq hSw; (try dsimp only at hSw); (try go_simp); (try with_reducible rfl))
          try simp only [Act.put, List.setIfInBounds_toArray, List.set_cons_zero, List.set_cons_succ]
          refine wpAnyH_take (i := 4) (oi := { dst := some 88, op := Go.Op.load 33 (Go.Operand.tmp 87), type := 33, pos := _, after := #[{ on := 3, ground := Go.Ground.data }], guard := none }) (v := ?_) rfl (by kernel_rfl) (by kernel_rfl) (by kernel_rfl) (fun _ _ _ h => h) (Or.inl ⟨by rfl, ?_⟩) hHeld ?_
          rotate_left
          · (intro wq hSw; (try dsimp only at hSw); (try go_simp); (try with_reducible rfl))
          try simp only [Act.put, List.setIfInBounds_toArray, List.set_cons_zero, List.set_cons_succ]
          refine wpAnyH_take (i := 6) (oi := { dst := some 90, op := Go.Op.move (Go.Operand.tmp 10), type := 22, pos := _, after := #[], guard := none }) (v := ?_) rfl (by kernel_rfl) (by kernel_rfl) (by kernel_rfl) (fun _ _ _ h => h) (Or.inl ⟨by rfl, ?_⟩) hHeld ?_
          rotate_left
          · (intro wq hSw; (try dsimp only at hSw); (try go_simp); (try with_reducible rfl))
          try simp only [Act.put, List.setIfInBounds_toArray, List.set_cons_zero, List.set_cons_succ]
          refine dia_A wr 22 1 [] [(.slice (some ⟨tb, 0, none⟩) l.length tc)] 0 1 (.cells #[.int .i64 0, .slice none 0 0] 38) (.cells #[(.slice (some ⟨tb, 0, none⟩) l.length tc)] 22) (fun k => .pointer (some ⟨k, 0, none⟩)) (fun k => .slice (some ⟨k, 0, none⟩) 1 1) (iA := 10) (iB := 2) (iD := 5) (iE := 7) (iF := 8) (yA := 12) (yB := 86) (yD := 89) (yE := 91) (yF := 92) (oA := { dst := some 12, op := Go.Op.alloc 38, type := 0, pos := _, after := #[], guard := none }) (oB := { dst := some 86, op := Go.Op.buildSlice 33 0 #[], type := 33, pos := _, after := #[], guard := none }) (oD := { dst := some 89, op := Go.Op.call { callee := Go.Callee.builtin Go.Builtin.append, args := #[Go.Operand.tmp 86, Go.Operand.tmp 88], argTypes := #[33, 33] }, type := 33, pos := _, after := #[{ on := 2, ground := Go.Ground.data }, { on := 4, ground := Go.Ground.data }], guard := none }) (oE := { dst := some 91, op := Go.Op.buildSlice 33 1 #[(0, Go.Operand.tmp 90)], type := 33, pos := _, after := #[{ on := 6, ground := Go.Ground.data }], guard := none }) (oF := { dst := some 92, op := Go.Op.call { callee := Go.Callee.builtin Go.Builtin.append, args := #[Go.Operand.tmp 89, Go.Operand.tmp 91], argTypes := #[33, 33] }, type := 33, pos := _, after := #[{ on := 5, ground := Go.Ground.data }, { on := 7, ground := Go.Ground.data }, { on := 5, ground := Go.Ground.chain }], guard := none }) (N := 2) rfl rfl rfl rfl rfl (by kernel_rfl) (by decide) ⟨of_decide_eq_true rfl, of_decide_eq_true rfl, of_decide_eq_true rfl, of_decide_eq_true rfl, of_decide_eq_true rfl⟩ (by decide) rfl (fun w hb => two_keep hb gl s0) ?hA ?hB ?hE ?hD ?hF ?h1 ?h0 ((Below.refl _ _).drew)
          case hA => intro a w K h; go_simp; exact h
          case hB => intro a w K h; go_simp; exact h
          case hE => intro a w K hag h; have e : a.tmps[90]?.getD undef = (.slice (some ⟨tb, 0, none⟩) l.length tc) := (by (have := hag 90 (by decide) (by decide) (by decide) (by decide) (by decide); rw [← Array.getD_eq_getD_getElem?]; exact this)); go_simp; (try simp only [e]); (try go_simp); exact h
          case hD =>
            intro a w K kb hag e1 hb own h
            refine step_append_none _ rfl (.tmp 86) (.tmp 88) _ rfl wr.heap.size 22 i0 1 Try.underlying33 hi (.slice (some ⟨kb, 0, none⟩) 0 0) 0 [] e1 own (hag 88 (by decide) (by decide) (by decide) (by decide) (by decide)) ?_
            exact h _ _ own (World.grownBy.refl _ _) (.inl rfl)
          case hF =>
            intro a w K ke vd hag e1 e2 hb own hk h
            refine step_append_lies _ rfl (.tmp 89) (.tmp 91) _ rfl wr.heap.size 22 i0 (.slice none 0 0) 1 24 Try.underlying33 hi hz0 hz1 hz2 rfl (by omega) vd 0 [] e1 own ⟨ke, 0, none⟩ 1 1 [(.slice (some ⟨tb, 0, none⟩) l.length tc)] e2 rfl (World.news_of_block hk) (by simp [Value.oneCell']) (by omega) (by unfold maxLen; omega) (by omega) hb.size _ rfl ?_
            intro b2 cap2 z2 o1 o2 o3 o4
            exact h _ _ o1 o2 (o3.elim (fun e => .inl e.symm) (fun e => .inr (by rw [e]; rfl)))
          case h1 =>
            intro ka kb ke vd vf w2 hb gA hA nA own hHeld
            obtain ⟨g5, c5, rfl, _, _⟩ := own.form (by omega)
            have qz : Blk w2 ka (.int .i64 0) (.slice none 0 0) 38 := (by unfold Blk; exact hA)
            obtain ⟨qz0, qz1, qzl⟩ := qz.cells
            obtain ⟨qf0, qf1⟩ := qz.frozen
            have B3 := ((hb).setCell (p := ⟨ka, 0, none⟩) gA (.int .i64 l.length)).setCell (p := ⟨ka, 1, none⟩) gA (.slice (some ⟨g5, 0, none⟩) 1 c5)
            have own3 := own_setCell (own_setCell own (p := ⟨ka, 0, none⟩) nA (.int .i64 l.length)) (p := ⟨ka, 1, none⟩) nA (.slice (some ⟨g5, 0, none⟩) 1 c5)
            try simp only [Act.put, List.setIfInBounds_toArray, List.set_cons_zero, List.set_cons_succ]
            refine wpAnyH_take (i := 9) (oi := { dst := some 93, op := Go.Op.build 38 #[(0, Go.Operand.tmp 85), (1, Go.Operand.tmp 92)], type := 38, pos := _, after := #[{ on := 1, ground := Go.Ground.data }, { on := 8, ground := Go.Ground.data }], guard := none }) (v := ?_) rfl (by kernel_rfl) (by kernel_rfl) (by kernel_rfl) (fun _ _ _ h => h) (Or.inl ⟨by rfl, ?_⟩) hHeld ?_
            rotate_left
            · (intro wq hSw; (try dsimp only at hSw); (try go_simp); (try with_reducible rfl))
            try simp only [Act.put, List.setIfInBounds_toArray, List.set_cons_zero, List.set_cons_succ]
            refine wpAnyH_ready (rs := [11]) (by kernel_rfl) (by simp) ?_
            refine AllReadyH.cons (o := { dst := none, op := Go.Op.store 38 (Go.Operand.tmp 12) (Go.Operand.tmp 93), type := 0, pos := _, after := #[{ on := 10, ground := Go.Ground.data }, { on := 9, ground := Go.Ground.data }, { on := 8, ground := Go.Ground.chain }, { on := 0, ground := Go.Ground.phase }, { on := 1, ground := Go.Ground.phase }, { on := 2, ground := Go.Ground.phase }, { on := 3, ground := Go.Ground.phase }, { on := 4, ground := Go.Ground.phase }, { on := 5, ground := Go.Ground.phase }, { on := 6, ground := Go.Ground.phase }, { on := 7, ground := Go.Ground.phase }, { on := 8, ground := Go.Ground.phase }, { on := 9, ground := Go.Ground.phase }, { on := 10, ground := Go.Ground.phase }], guard := none }) rfl (fun KK hKK => ?_) AllReadyH.nil
            go_simp
            refine hKK.out _ _ (two_keep (w := wr) (((hb).setCell (p := ⟨ka, 0, none⟩) gA _).setCell (p := ⟨ka, 1, none⟩) gA _) gl s0) (fun hHeld => ?_)
            clear hKK KK
            try simp only [Act.put, List.setIfInBounds_toArray, List.set_cons_zero, List.set_cons_succ]
            refine wpAnyH_done (by kernel_rfl) ?_ _
            refine NoPanic.normal ?_
            go_wp2_with fail
            go_meet
            exact ⟨ka, _, rfl, rfl, rfl, rfl, rfl, rfl, rfl, rfl, (qz.set0 _).set1 _, intSS_of (ls := []) own3 (by first | rfl | omega) (by rfl) (fun i hi => absurd hi (by simp)) (T1 _ B3), B3⟩
          case h0 =>
            intro kb ke vd vf w2 hb own hHeld
            obtain ⟨g5, c5, rfl, _, _⟩ := own.form (by omega)
            have B3 := below_step hb (.cells #[.int .i64 l.length, (.slice (some ⟨g5, 0, none⟩) 1 c5)] 38)
            have own3 := own.alloc (.cells #[.int .i64 l.length, (.slice (some ⟨g5, 0, none⟩) 1 c5)] 38)
            try simp only [Act.put, List.setIfInBounds_toArray, List.set_cons_zero, List.set_cons_succ]
            refine wpAnyH_take (i := 9) (oi := { dst := some 93, op := Go.Op.build 38 #[(0, Go.Operand.tmp 85), (1, Go.Operand.tmp 92)], type := 38, pos := _, after := #[{ on := 1, ground := Go.Ground.data }, { on := 8, ground := Go.Ground.data }], guard := none }) (v := ?_) rfl (by kernel_rfl) (by kernel_rfl) (by kernel_rfl) (fun _ _ _ h => h) (Or.inl ⟨by rfl, ?_⟩) hHeld ?_
            rotate_left
            · (intro wq hSw; (try dsimp only at hSw); (try go_simp); (try with_reducible rfl))
            try simp only [Act.put, List.setIfInBounds_toArray, List.set_cons_zero, List.set_cons_succ]
            refine wpAnyH_ready (rs := [10]) (by kernel_rfl) (by simp) ?_
            refine AllReadyH.cons (o := { dst := some 12, op := Go.Op.alloc 38, type := 0, pos := _, after := #[], guard := none }) rfl (fun KK hKK => ?_) AllReadyH.nil
            go_simp
            refine hKK.out _ _ (two_keep (w := wr) (below_step hb _) gl s0) (fun hHeld => ?_)
            clear hKK KK
            try simp only [Act.put, List.setIfInBounds_toArray, List.set_cons_zero, List.set_cons_succ]
            refine wpAnyH_ready (rs := [11]) (by kernel_rfl) (by simp) ?_
            refine AllReadyH.cons (o := { dst := none, op := Go.Op.store 38 (Go.Operand.tmp 12) (Go.Operand.tmp 93), type := 0, pos := _, after := #[{ on := 10, ground := Go.Ground.data }, { on := 9, ground := Go.Ground.data }, { on := 8, ground := Go.Ground.chain }, { on := 0, ground := Go.Ground.phase }, { on := 1, ground := Go.Ground.phase }, { on := 2, ground := Go.Ground.phase }, { on := 3, ground := Go.Ground.phase }, { on := 4, ground := Go.Ground.phase }, { on := 5, ground := Go.Ground.phase }, { on := 6, ground := Go.Ground.phase }, { on := 7, ground := Go.Ground.phase }, { on := 8, ground := Go.Ground.phase }, { on := 9, ground := Go.Ground.phase }, { on := 10, ground := Go.Ground.phase }], guard := none }) rfl (fun KK hKK => ?_) AllReadyH.nil
            go_simp
            refine hKK.out _ _ (two_keep (w := wr) (below_step hb _) gl s0) (fun hHeld => ?_)
            clear hKK KK
            try simp only [Act.put, List.setIfInBounds_toArray, List.set_cons_zero, List.set_cons_succ]
            refine wpAnyH_done (by kernel_rfl) ?_ _
            refine NoPanic.normal ?_
            go_wp2_with fail
            go_meet
            exact ⟨w2.heap.size, _, rfl, rfl, rfl, rfl, rfl, rfl, rfl, rfl, blk_new w2 _ _ _, intSS_of (ls := []) own3 (by first | rfl | omega) (by rfl) (fun i hi => absurd hi (by simp)) (T1 _ B3), B3⟩

        · have hnew := Lib.hid (fun w' h => (hR w' h).news)
          have hone : Hid (∀ u ∈ (List.range ls.length).map F, u.oneCell' = true) := by
            intro u hu
            obtain ⟨i, hi, rfl⟩ := List.mem_map.1 hu
            obtain ⟨a', c', e, _⟩ := (hF i (List.mem_range.1 hi)).now
            rw [e]; rfl
          have hlen : ((List.range ls.length).map F).length = ls.length * 1 := by simp
          have HF : Hid (∀ i, i < ls.length → ((List.range ls.length).map F).getD i undef = F i ∧ KI 0 wr (F i) (ls.getD i [])) := fun i hi => ⟨by simp [List.getD_eq_getElem?_getD, hi], hF i hi⟩
          generalize (List.range ls.length).map F = fs at *
          clear hR hF T

          refine wp_region_noPanic ?_
          refine wp_region_held_drew (S := fun wx : World => wx.cell? ⟨w1.heap.size, 0, none⟩ = some (.int .i64 l.length) ∧ wx.cell? ⟨w1.heap.size, 1, none⟩ = some (.slice (some ⟨b1, 0, none⟩) ls.length c1)) (by kernel_rfl) (s0) (fun hHeld => ?_)
          refine wpAnyH_take (i := 0) (oi := { dst := some 84, op := Go.Op.fieldAddr 38 (Go.Operand.tmp 5) 0, type := 0, pos := _, after := #[], guard := none }) (v := ?_) rfl (by kernel_rfl) (by kernel_rfl) (by kernel_rfl) (fun _ _ _ h => h) (Or.inl ⟨by rfl, ?_⟩) hHeld ?_
          rotate_left
          · (intro wq hSw; (try dsimp only at hSw); (try go_simp); (try with_reducible rfl))
          try simp only [Act.put, List.setIfInBounds_toArray, List.set_cons_zero, List.set_cons_succ]
          refine wpAnyH_take (i := 1) (oi := { dst := some 85, op := Go.Op.load 3 (Go.Operand.tmp 84), type := 3, pos := _, after := #[{ on := 0, ground := Go.Ground.data }], guard := none }) (v := ?_) rfl (by kernel_rfl) (by kernel_rfl) (by kernel_rfl) (fun _ _ _ h => h) (Or.inl ⟨by rfl, ?_⟩) hHeld ?_
          rotate_left
          · (intro wq hSw; (try dsimp only at hSw); (try go_simp); (try with_reducible rfl))
          try simp only [Act.put, List.setIfInBounds_toArray, List.set_cons_zero, List.set_cons_succ]
          refine wpAnyH_take (i := 3) (oi := { dst := some 87, op := Go.Op.fieldAddr 38 (Go.Operand.tmp 5) 1, type := 0, pos := _, after := #[], guard := none }) (v := ?_) rfl (by kernel_rfl) (by kernel_rfl) (by kernel_rfl) (fun _ _ _ h => h) (Or.inl ⟨by rfl, ?_⟩) hHeld ?_
          rotate_left
          · (intro wq hSw; (try dsimp only at hSw); (try go_simp); (try with_reducible rfl))
          try simp only [Act.put, List.setIfInBounds_toArray, List.set_cons_zero, List.set_cons_succ]
          refine wpAnyH_take (i := 4) (oi := { dst := some 88, op := Go.Op.load 33 (Go.Operand.tmp 87), type := 33, pos := _, after := #[{ on := 3, ground := Go.Ground.data }], guard := none }) (v := ?_) rfl (by kernel_rfl) (by kernel_rfl) (by kernel_rfl) (fun _ _ _ h => h) (Or.inl ⟨by rfl, ?_⟩) hHeld ?_
          rotate_left
          · (intro wq hSw; (try dsimp only at hSw); (try go_simp); (try with_reducible rfl))
          try simp only [Act.put, List.setIfInBounds_toArray, List.set_cons_zero, List.set_cons_succ]
          refine wpAnyH_take (i := 6) (oi := { dst := some 90, op := Go.Op.move (Go.Operand.tmp 10), type := 22, pos := _, after := #[], guard := none }) (v := ?_) rfl (by kernel_rfl) (by kernel_rfl) (by kernel_rfl) (fun _ _ _ h => h) (Or.inl ⟨by rfl, ?_⟩) hHeld ?_
          rotate_left
          · (intro wq hSw; (try dsimp only at hSw); (try go_simp); (try with_reducible rfl))
          try simp only [Act.put, List.setIfInBounds_toArray, List.set_cons_zero, List.set_cons_succ]
          refine dia_A wr 22 1 fs [(.slice (some ⟨tb, 0, none⟩) l.length tc)] ls.length (ls.length + 1) (.cells #[.int .i64 0, .slice none 0 0] 38) (.cells #[(.slice (some ⟨tb, 0, none⟩) l.length tc)] 22) (fun k => .pointer (some ⟨k, 0, none⟩)) (fun k => .slice (some ⟨k, 0, none⟩) 1 1) (iA := 10) (iB := 2) (iD := 5) (iE := 7) (iF := 8) (yA := 12) (yB := 86) (yD := 89) (yE := 91) (yF := 92) (oA := { dst := some 12, op := Go.Op.alloc 38, type := 0, pos := _, after := #[], guard := none }) (oB := { dst := some 86, op := Go.Op.buildSlice 33 0 #[], type := 33, pos := _, after := #[], guard := none }) (oD := { dst := some 89, op := Go.Op.call { callee := Go.Callee.builtin Go.Builtin.append, args := #[Go.Operand.tmp 86, Go.Operand.tmp 88], argTypes := #[33, 33] }, type := 33, pos := _, after := #[{ on := 2, ground := Go.Ground.data }, { on := 4, ground := Go.Ground.data }], guard := none }) (oE := { dst := some 91, op := Go.Op.buildSlice 33 1 #[(0, Go.Operand.tmp 90)], type := 33, pos := _, after := #[{ on := 6, ground := Go.Ground.data }], guard := none }) (oF := { dst := some 92, op := Go.Op.call { callee := Go.Callee.builtin Go.Builtin.append, args := #[Go.Operand.tmp 89, Go.Operand.tmp 91], argTypes := #[33, 33] }, type := 33, pos := _, after := #[{ on := 5, ground := Go.Ground.data }, { on := 7, ground := Go.Ground.data }, { on := 5, ground := Go.Ground.chain }], guard := none }) (N := 2) rfl rfl rfl rfl rfl (by kernel_rfl) (by decide) ⟨of_decide_eq_true rfl, of_decide_eq_true rfl, of_decide_eq_true rfl, of_decide_eq_true rfl, of_decide_eq_true rfl⟩ (by decide) rfl (fun w hb => two_keep hb gl s0) ?hA ?hB ?hE ?hD ?hF ?h1 ?h0 ((Below.refl _ _).drew)
          case hA => intro a w K h; go_simp; exact h
          case hB => intro a w K h; go_simp; exact h
          case hE => intro a w K hag h; have e : a.tmps[90]?.getD undef = (.slice (some ⟨tb, 0, none⟩) l.length tc) := (by (have := hag 90 (by decide) (by decide) (by decide) (by decide) (by decide); rw [← Array.getD_eq_getD_getElem?]; exact this)); go_simp; (try simp only [e]); (try go_simp); exact h
          case hD =>
            intro a w K kb hag e1 hb own h
            refine step_append_at _ rfl (.tmp 86) (.tmp 88) _ rfl wr.heap.size 22 i0 (.slice none 0 0) 1 24 Try.underlying33 hi hz0 hz1 hz2 rfl (by omega) (.slice (some ⟨kb, 0, none⟩) 0 0) 0 [] e1 own ⟨b1, 0, none⟩ ls.length c1 fs (hag 88 (by decide) (by decide) (by decide) (by decide) (by decide)) hlen (hnew.out _ (kept_below hb)) hone.out (by unfold maxLen; omega) (by omega) hb.size ?_
            intro v' w' o1 o2 o3
            rw [Nat.zero_add] at o1
            exact h v' w' o1 o2 o3
          case hF =>
            intro a w K ke vd hag e1 e2 hb own hk h
            refine step_append_lies _ rfl (.tmp 89) (.tmp 91) _ rfl wr.heap.size 22 i0 (.slice none 0 0) 1 24 Try.underlying33 hi hz0 hz1 hz2 rfl (by omega) vd ls.length fs e1 own ⟨ke, 0, none⟩ 1 1 [(.slice (some ⟨tb, 0, none⟩) l.length tc)] e2 rfl (World.news_of_block hk) (by simp [Value.oneCell']) (by omega) (by unfold maxLen; omega) (by omega) hb.size _ rfl ?_
            intro b2 cap2 z2 o1 o2 o3 o4
            exact h _ _ o1 o2 (o3.elim (fun e => .inl e.symm) (fun e => .inr (by rw [e]; rfl)))
          case h1 =>
            intro ka kb ke vd vf w2 hb gA hA nA own hHeld
            obtain ⟨g5, c5, rfl, _, _⟩ := own.form (by omega)
            have qz : Blk w2 ka (.int .i64 0) (.slice none 0 0) 38 := (by unfold Blk; exact hA)
            obtain ⟨qz0, qz1, qzl⟩ := qz.cells
            obtain ⟨qf0, qf1⟩ := qz.frozen
            have B3 := ((hb).setCell (p := ⟨ka, 0, none⟩) gA (.int .i64 l.length)).setCell (p := ⟨ka, 1, none⟩) gA (.slice (some ⟨g5, 0, none⟩) (ls.length + 1) c5)
            have own3 := own_setCell (own_setCell own (p := ⟨ka, 0, none⟩) nA (.int .i64 l.length)) (p := ⟨ka, 1, none⟩) nA (.slice (some ⟨g5, 0, none⟩) (ls.length + 1) c5)
            try simp only [Act.put, List.setIfInBounds_toArray, List.set_cons_zero, List.set_cons_succ]
            refine wpAnyH_take (i := 9) (oi := { dst := some 93, op := Go.Op.build 38 #[(0, Go.Operand.tmp 85), (1, Go.Operand.tmp 92)], type := 38, pos := _, after := #[{ on := 1, ground := Go.Ground.data }, { on := 8, ground := Go.Ground.data }], guard := none }) (v := ?_) rfl (by kernel_rfl) (by kernel_rfl) (by kernel_rfl) (fun _ _ _ h => h) (Or.inl ⟨by rfl, ?_⟩) hHeld ?_
            rotate_left
            · (intro wq hSw; (try dsimp only at hSw); (try go_simp); (try with_reducible rfl))
            try simp only [Act.put, List.setIfInBounds_toArray, List.set_cons_zero, List.set_cons_succ]
            refine wpAnyH_ready (rs := [11]) (by kernel_rfl) (by simp) ?_
            refine AllReadyH.cons (o := { dst := none, op := Go.Op.store 38 (Go.Operand.tmp 12) (Go.Operand.tmp 93), type := 0, pos := _, after := #[{ on := 10, ground := Go.Ground.data }, { on := 9, ground := Go.Ground.data }, { on := 8, ground := Go.Ground.chain }, { on := 0, ground := Go.Ground.phase }, { on := 1, ground := Go.Ground.phase }, { on := 2, ground := Go.Ground.phase }, { on := 3, ground := Go.Ground.phase }, { on := 4, ground := Go.Ground.phase }, { on := 5, ground := Go.Ground.phase }, { on := 6, ground := Go.Ground.phase }, { on := 7, ground := Go.Ground.phase }, { on := 8, ground := Go.Ground.phase }, { on := 9, ground := Go.Ground.phase }, { on := 10, ground := Go.Ground.phase }], guard := none }) rfl (fun KK hKK => ?_) AllReadyH.nil
            go_simp
            refine hKK.out _ _ (two_keep (w := wr) (((hb).setCell (p := ⟨ka, 0, none⟩) gA _).setCell (p := ⟨ka, 1, none⟩) gA _) gl s0) (fun hHeld => ?_)
            clear hKK KK
            try simp only [Act.put, List.setIfInBounds_toArray, List.set_cons_zero, List.set_cons_succ]
            refine wpAnyH_done (by kernel_rfl) ?_ _
            refine NoPanic.normal ?_
            go_wp2_with fail
            go_meet
            exact ⟨ka, _, rfl, rfl, rfl, rfl, rfl, rfl, rfl, rfl, (qz.set0 _).set1 _, intSS_of (ls := ls) own3 (by first | rfl | omega) (by omega) (fun i hi => by rw [(HF.out i hi).1]; exact (HF.out i hi).2 _ (kept_below B3)) (T1 _ B3), B3⟩
          case h0 =>
            intro kb ke vd vf w2 hb own hHeld
            obtain ⟨g5, c5, rfl, _, _⟩ := own.form (by omega)
            have B3 := below_step hb (.cells #[.int .i64 l.length, (.slice (some ⟨g5, 0, none⟩) (ls.length + 1) c5)] 38)
            have own3 := own.alloc (.cells #[.int .i64 l.length, (.slice (some ⟨g5, 0, none⟩) (ls.length + 1) c5)] 38)
            try simp only [Act.put, List.setIfInBounds_toArray, List.set_cons_zero, List.set_cons_succ]
            refine wpAnyH_take (i := 9) (oi := { dst := some 93, op := Go.Op.build 38 #[(0, Go.Operand.tmp 85), (1, Go.Operand.tmp 92)], type := 38, pos := _, after := #[{ on := 1, ground := Go.Ground.data }, { on := 8, ground := Go.Ground.data }], guard := none }) (v := ?_) rfl (by kernel_rfl) (by kernel_rfl) (by kernel_rfl) (fun _ _ _ h => h) (Or.inl ⟨by rfl, ?_⟩) hHeld ?_
            rotate_left
            · (intro wq hSw; (try dsimp only at hSw); (try go_simp); (try with_reducible rfl))
            try simp only [Act.put, List.setIfInBounds_toArray, List.set_cons_zero, List.set_cons_succ]
            refine wpAnyH_ready (rs := [10]) (by kernel_rfl) (by simp) ?_
            refine AllReadyH.cons (o := { dst := some 12, op := Go.Op.alloc 38, type := 0, pos := _, after := #[], guard := none }) rfl (fun KK hKK => ?_) AllReadyH.nil
            go_simp
            refine hKK.out _ _ (two_keep (w := wr) (below_step hb _) gl s0) (fun hHeld => ?_)
            clear hKK KK
            try simp only [Act.put, List.setIfInBounds_toArray, List.set_cons_zero, List.set_cons_succ]
            refine wpAnyH_ready (rs := [11]) (by kernel_rfl) (by simp) ?_
            refine AllReadyH.cons (o := { dst := none, op := Go.Op.store 38 (Go.Operand.tmp 12) (Go.Operand.tmp 93), type := 0, pos := _, after := #[{ on := 10, ground := Go.Ground.data }, { on := 9, ground := Go.Ground.data }, { on := 8, ground := Go.Ground.chain }, { on := 0, ground := Go.Ground.phase }, { on := 1, ground := Go.Ground.phase }, { on := 2, ground := Go.Ground.phase }, { on := 3, ground := Go.Ground.phase }, { on := 4, ground := Go.Ground.phase }, { on := 5, ground := Go.Ground.phase }, { on := 6, ground := Go.Ground.phase }, { on := 7, ground := Go.Ground.phase }, { on := 8, ground := Go.Ground.phase }, { on := 9, ground := Go.Ground.phase }, { on := 10, ground := Go.Ground.phase }], guard := none }) rfl (fun KK hKK => ?_) AllReadyH.nil
            go_simp
            refine hKK.out _ _ (two_keep (w := wr) (below_step hb _) gl s0) (fun hHeld => ?_)
            clear hKK KK
            try simp only [Act.put, List.setIfInBounds_toArray, List.set_cons_zero, List.set_cons_succ]
            refine wpAnyH_done (by kernel_rfl) ?_ _
            refine NoPanic.normal ?_
            go_wp2_with fail
            go_meet
            exact ⟨w2.heap.size, _, rfl, rfl, rfl, rfl, rfl, rfl, rfl, rfl, blk_new w2 _ _ _, intSS_of (ls := ls) own3 (by first | rfl | omega) (by omega) (fun i hi => by rw [(HF.out i hi).1]; exact (HF.out i hi).2 _ (kept_below B3)) (T1 _ B3), B3⟩

      case rest =>
        obtain ⟨g2, x, rfl, rfl, rfl, rfl, rfl, rfl, rfl, rfl, D, hd, hb6⟩ := hcut
        have hwf2 : Hid (ssWf (ls ++ [turnL l l.length])) := fun i hi => by
          rcases Nat.lt_or_ge i ls.length with h1 | h1
          · rw [getD_snoc_lt h1]; exact hwf.out i h1
          · obtain rfl : i = ls.length := by simp at hi; omega
            rw [getD_snoc_at]; exact TW.out
        have HX2 : Hid (∀ x, (x, true) = leastL l.length (ls ++ [turnL l l.length]) → cnfHasL l.length ls x = true ∧ x.length = l.length ∧ x ≠ l ∧ afterL l x = true) := fun x hx => by
          rw [leastL_on HOK2.out hm] at hx; exact HX.out x hx.symm
        obtain ⟨z, hz⟩ : ∃ z, z = leastL l.length (ls ++ [turnL l l.length]) := ⟨_, rfl⟩
        have CI : Hid (∀ v' w', IntSS w' v' (ls ++ [turnL l l.length]) → Calls Try.prog 38 #[.agg #[.int .i64 l.length, v']] w' (LeastRet z w')) := fun v' w' h => by rw [hz]; exact cnfLeast_impl _ v' _ w' h hwf2.out
        have CO : Hid (∀ v' w', IntSS w' v' (ls ++ [turnL l l.length]) → Calls Try.prog 27 #[.agg #[.int .i64 l.length, v']] w' (fun e w'' => e = .returned (.bool true) ∧ Below w'.heap.size w' w'')) := fun v' w' h => (cnfOk_impl _ v' _ w' h hwf2.out).mono (by rintro e w'' ⟨rfl, hb⟩; rw [HOK2.out]; exact ⟨rfl, hb⟩)
        have HX3 : Hid (∀ x, (x, true) = z → cnfHasL l.length ls x = true ∧ x.length = l.length ∧ x ≠ l ∧ afterL l x = true) := fun x hx => HX2.out x (hx.trans hz)
        clear hz HX2 HX HOK2 hwf2
        replace C := C.keep hb6
        replace hc := hc.below hb6
        replace V := V.below hb6
        replace K := below_two K hb6
        clear hb6
        obtain ⟨lx, hlx⟩ : ∃ lx, lx = ls ++ [turnL l l.length] := ⟨_, rfl⟩
        rw [← hlx] at hd CI CO
        obtain ⟨xa, xc, rfl⟩ := hd.form
        clear hlx
        obtain ⟨zl, zb⟩ := z
        obtain ⟨C0, C1, C2⟩ := C.cells
        obtain ⟨D0, D1, D2⟩ := D.cells
        go_wp2_with fail
        refine (CI.out _ _ hd).mono ?_; rintro e w7 ⟨y7, rfl, o7, hb7⟩
        obtain ⟨p7, c7, rfl, _⟩ := Row.of_own o7
        replace C := C.keep hb7
        replace D := D.keep hb7
        replace hc := hc.below hb7
        replace hd := hd.below hb7
        replace V := V.below hb7
        replace K := below_two K hb7
        have V7 := Bools.of_own o7
        clear hb7 o7 C0 C1 C2 D0 D1 D2
        obtain ⟨C0, C1, C2⟩ := C.cells
        obtain ⟨D0, D1, D2⟩ := D.cells
        go_wp2_with fail
        refine (CO.out _ _ hd).mono ?_; rintro e w8 ⟨rfl, hb8⟩
        replace C := C.keep hb8
        replace hc := hc.below hb8
        replace V := V.below hb8
        replace V7 := V7.below hb8
        replace K := below_two K hb8
        clear hb8 C0 C1 C2 D0 D1 D2 D hd
        obtain ⟨C0, C1, C2⟩ := C.cells
        clear CI CO TL TW T hlt hk hl10 g35 g36 hlen35 hm64 hm m0 m1
        cases zb
        · clear HX3 V V7 C hc C0 C1 C2 hwf
          go_wp2_with fail
          go_ret
          exact ⟨rfl, K⟩
        have HE := Lib.hid (HX3.out _ rfl)
        clear HX3
        go_wp2_with fail
        refine (cnfHas_impl _ _ _ _ _ _ hc.now hwf.out V7).mono ?_; rintro e w9 ⟨rfl, hb9⟩
        rw [HE.out.1]
        replace V := V.below hb9
        replace V7 := V7.below hb9
        replace K := below_two K hb9
        clear hb9 C0 C1 C2 C hc
        go_wp2_with fail
        refine (wpBools_any _ _ _ _ _ V7 V).mono ?_; rintro e w10 d10
        obtain ⟨rfl, hb10⟩ := d10.below
        rw [decide_eq_false HE.out.2.2.1]
        replace V := V.below hb10
        replace V7 := V7.below hb10
        replace K := below_two K hb10
        clear d10 hb10
        go_wp2_with fail
        refine (wpAfter_any _ _ _ _ _ V V7 HE.out.2.1).mono ?_; rintro e w11 d11
        obtain ⟨rfl, hb11⟩ := d11.below
        rw [HE.out.2.2.2]
        replace K := below_two K hb11
        clear d11 hb11
        go_wp2_with fail
        go_ret
        exact ⟨rfl, K⟩

end Go.Proofs.Ytjobbokjebhjgaa
