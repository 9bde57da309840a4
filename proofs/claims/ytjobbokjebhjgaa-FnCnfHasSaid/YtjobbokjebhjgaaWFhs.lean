/- The walk of FnCnfHas: for every argument the law returns true and leaves alone what was there. -/
import Derived.Test.YtjobbokjebhjgaaDh
import Derived.Test.YtjobbokjebhjgaaAp
namespace Go.Proofs.Ytjobbokjebhjgaa
open Go.RowKit

theorem hasL_nil {m : Int} {ls : List (List Int)} {l : List Bool} : cnfHasL m (ls ++ [[]]) l = false := by
  unfold cnfHasL; rw [List.all_append]; simp
theorem hasL_none {m : Int} {ls : List (List Int)} {l : List Bool} (hk : cnfOkL m ls = true) (hl : (l.length : Int) = m) : cnfHasL m [] l = true := by
  obtain ⟨h0, h1, _⟩ := cnfOkL_m hk
  unfold cnfHasL cnfOkL
  simp [hl]; omega
theorem all_take_succ {α : Type} [Inhabited α] (p : List α → Bool) (ls : List (List α)) {k : Nat} (h : k < ls.length) : (ls.take (k + 1)).all p = ((ls.take k).all p && p (ls.getD k [])) := by
  rw [List.take_succ_eq_append_getElem h, List.all_append]; simp [List.getD_eq_getElem?_getD, h]
theorem intSS_nil (w : World) : IntSS w (.slice none 0 0) [] :=
  ⟨none, 0, fun _ => undef, rfl, ⟨Nat.le_refl _, Nat.zero_le _, .inl rfl⟩, fun i hi => absurd hi (by simp)⟩
theorem ints_empty (w : World) (k : Nat) : Ints w (.slice (some ⟨k, 0, none⟩) 0 0) [] := ⟨_, 0, rfl, Nat.le_refl _, Nat.zero_le _, .inl rfl⟩

set_option linter.unusedVariables false in
set_option maxRecDepth 100000 in
set_option maxHeartbeats 16000000 in
theorem walk_FnCnfHas {w : World} (v : Value) (h : BytesIn w v) :
    Calls Try.prog 10 #[v] w fun e w' => e = .returned (.bool true) ∧ Below w.heap.size w w' := by
  obtain ⟨a0, len, cp, rfl⟩ : ∃ a len cap, v = .slice a len cap := by
    rcases h with ⟨a, c, rfl⟩ | ⟨b, off, len, cap, rfl, _⟩ <;> exact ⟨_, _, _, rfl⟩
  by_cases hb : (1048576 : Int) < len
  · go_enter Try.func10, Try.ntmps10
    go_wp2_with fail
    go_ret
    exact ⟨rfl, Below.refl _ _⟩
  go_enter Try.func10, Try.ntmps10
  go_wp2_with fail
  refine (drawCnfHas_any _ _ h).mono ?_
  rintro e w1 ⟨_, rfl, ⟨m, x, ls, u, l, rfl, hc, hm64, hlen35, hwf0, V⟩, K⟩
  obtain ⟨a1, c1, rfl⟩ := hc.form
  obtain ⟨pu, cu, rfl⟩ := V.form
  have hwf := Lib.hid hwf0
  clear hwf0
  have V := V
  obtain ⟨hv, ehv⟩ : ∃ hv, hv = cnfHasL m ls l := ⟨_, rfl⟩
  obtain ⟨ok, eok⟩ : ∃ ok, ok = cnfOkL m ls := ⟨_, rfl⟩
  have HI : Hid (∀ x' u' wx, IntSS wx x' ls → Bools wx u' l → Calls Try.prog 35 #[.agg #[.int .i64 m, x'], u'] wx (fun e w' => e = .returned (.bool hv) ∧ Below wx.heap.size wx w')) := fun x' u' wx h1 h2 => by rw [ehv]; exact cnfHas_impl m x' ls u' l wx h1 hwf.out h2
  have HS : Hid (∀ x' u' wx, IntSS wx x' ls → Bools wx u' l → Calls Try.prog 34 #[.agg #[.int .i64 m, x'], u'] wx (fun e w' => e = .returned (.bool hv) ∧ Below wx.heap.size wx w')) := fun x' u' wx h1 h2 => by rw [ehv]; exact cnfHas_spec m x' ls u' l wx h1 hwf.out h2
  have OI : Hid (∀ x' wx, IntSS wx x' ls → Calls Try.prog 27 #[.agg #[.int .i64 m, x']] wx (fun e w' => e = .returned (.bool ok) ∧ Below wx.heap.size wx w')) := fun x' wx h1 => by rw [eok]; exact cnfOk_impl m x' ls wx h1 hwf.out
  have OS : Hid (∀ x' wx, IntSS wx x' ls → Calls Try.prog 26 #[.agg #[.int .i64 m, x']] wx (fun e w' => e = .returned (.bool ok) ∧ Below wx.heap.size wx w')) := fun x' wx h1 => by rw [eok]; exact cnfOk_spec m x' ls wx h1
  have EH := Lib.hid ehv
  have EO := Lib.hid eok
  clear ehv eok
  replace hc := hc.below (below_self_alloc w1 (.cells #[.int .i64 m, .slice a1 ls.length c1] 38))
  replace V := V.below (below_self_alloc w1 (.cells #[.int .i64 m, .slice a1 ls.length c1] 38))
  replace K := below_step K (.cells #[.int .i64 m, .slice a1 ls.length c1] 38)
  have C := blk_new w1 (.int .i64 m) (.slice a1 ls.length c1) 38
  obtain ⟨C0, C1, C2⟩ := C.cells
  cases ok
  · obtain rfl : hv = false := by rw [EH.out]; unfold cnfHasL; rw [← EO.out]; rfl
    go_wp2_with fail
    refine (HI.out _ _ _ hc.now V).mono ?_; rintro e w2 ⟨rfl, hb⟩
    clear C0 C1 C2
    replace C := C.keep hb
    replace hc := hc.below hb
    replace V := V.below hb
    replace K := below_two K hb
    clear hb
    obtain ⟨C0, C1, C2⟩ := C.cells
    go_wp2_with fail
    clear C0 C1 C2
    replace C := C.drew
    replace hc := hc.drew
    replace V := V.drew
    replace K := K.drew
    have sS := And.intro C.cells.1 (C.cells.2.1)
    first
      | (go_region_held3 (fun wx : World => (wx.cell? ⟨w1.heap.size, 0, none⟩ = some (.int .i64 m) ∧ wx.cell? ⟨w1.heap.size, 1, none⟩ = some (.slice a1 ls.length c1))) (first | (with_reducible assumption)) (first | (go_at_call 34; (with_reducible refine (HS.out _ _ _ hc.now V).mono ?_); rintro e w3 ⟨rfl, hb⟩; replace C := C.keep hb; replace hc := hc.below hb; replace V := V.below hb; replace K := below_two K hb; clear hb; replace sS := And.intro C.cells.1 (C.cells.2.1)) | (go_at_call 27; (with_reducible refine (OI.out _ _ hc.now).mono ?_); rintro e w3 ⟨rfl, hb⟩; replace C := C.keep hb; replace hc := hc.below hb; replace V := V.below hb; replace K := below_two K hb; clear hb; replace sS := And.intro C.cells.1 (C.cells.2.1)) | (go_at_call 26; (with_reducible refine (OS.out _ _ hc.now).mono ?_); rintro e w3 ⟨rfl, hb⟩; replace C := C.keep hb; replace hc := hc.below hb; replace V := V.below hb; replace K := below_two K hb; clear hb; replace sS := And.intro C.cells.1 (C.cells.2.1))))
      | fail
    clear sS
    obtain ⟨C0, C1, C2⟩ := C.cells
    go_wp2_with fail
    refine (OS.out _ _ hc.now).mono ?_; rintro e w4 ⟨rfl, hb⟩
    clear C0 C1 C2
    replace C := C.keep hb
    replace hc := hc.below hb
    replace V := V.below hb
    replace K := below_two K hb
    clear hb
    obtain ⟨C0, C1, C2⟩ := C.cells
    go_wp2_with fail
    go_ret
    exact ⟨rfl, K⟩
  by_cases hlm : (l.length : Int) = m
  rotate_left
  · obtain rfl : hv = false := by rw [EH.out]; unfold cnfHasL; rw [decide_eq_false hlm]; simp
    have hlm1 : (((l.length : Int) == m) = false) := by simpa using hlm
    go_wp2_with fail
    refine (HI.out _ _ _ hc.now V).mono ?_; rintro e w2 ⟨rfl, hb⟩
    clear C0 C1 C2
    replace C := C.keep hb
    replace hc := hc.below hb
    replace V := V.below hb
    replace K := below_two K hb
    clear hb
    obtain ⟨C0, C1, C2⟩ := C.cells
    go_wp2_with fail
    clear C0 C1 C2
    replace C := C.drew
    replace hc := hc.drew
    replace V := V.drew
    replace K := K.drew
    have sS := And.intro C.cells.1 (C.cells.2.1)
    first
      | (go_region_held3 (fun wx : World => (wx.cell? ⟨w1.heap.size, 0, none⟩ = some (.int .i64 m) ∧ wx.cell? ⟨w1.heap.size, 1, none⟩ = some (.slice a1 ls.length c1))) (first | (with_reducible assumption)) (first | (go_at_call 34; (with_reducible refine (HS.out _ _ _ hc.now V).mono ?_); rintro e w3 ⟨rfl, hb⟩; replace C := C.keep hb; replace hc := hc.below hb; replace V := V.below hb; replace K := below_two K hb; clear hb; replace sS := And.intro C.cells.1 (C.cells.2.1)) | (go_at_call 27; (with_reducible refine (OI.out _ _ hc.now).mono ?_); rintro e w3 ⟨rfl, hb⟩; replace C := C.keep hb; replace hc := hc.below hb; replace V := V.below hb; replace K := below_two K hb; clear hb; replace sS := And.intro C.cells.1 (C.cells.2.1)) | (go_at_call 26; (with_reducible refine (OS.out _ _ hc.now).mono ?_); rintro e w3 ⟨rfl, hb⟩; replace C := C.keep hb; replace hc := hc.below hb; replace V := V.below hb; replace K := below_two K hb; clear hb; replace sS := And.intro C.cells.1 (C.cells.2.1))))
      | fail
    clear sS
    obtain ⟨C0, C1, C2⟩ := C.cells
    go_wp2_with fail
    refine (OS.out _ _ hc.now).mono ?_; rintro e w4 ⟨rfl, hb⟩
    clear C0 C1 C2
    replace C := C.keep hb
    replace hc := hc.below hb
    replace V := V.below hb
    replace K := below_two K hb
    clear hb
    obtain ⟨C0, C1, C2⟩ := C.cells
    go_wp2_with fail
    go_ret
    exact ⟨rfl, K⟩
  have EL := Lib.hid hlm
  have hk : Hid (cnfOkL m ls = true) := EO.out.symm
  have EA : Hid (hv = ls.all fun c => c.any (nlit l)) := by rw [show Hid _ = _ from rfl, EH.out]; exact cnfHasL_of hk.out hlm
  subst hlm
  clear EH EO
  go_wp2_with fail
  refine (HI.out _ _ _ hc.now V).mono ?_; rintro e w2 ⟨rfl, hb⟩
  clear C0 C1 C2
  replace C := C.keep hb
  replace hc := hc.below hb
  replace V := V.below hb
  replace K := below_two K hb
  clear hb
  obtain ⟨C0, C1, C2⟩ := C.cells
  go_wp2_with fail
  clear C0 C1 C2
  replace C := C.drew
  replace hc := hc.drew
  replace V := V.drew
  replace K := K.drew
  have sS := And.intro C.cells.1 (C.cells.2.1)
  first
    | (go_region_held3 (fun wx : World => (wx.cell? ⟨w1.heap.size, 0, none⟩ = some (.int .i64 l.length) ∧ wx.cell? ⟨w1.heap.size, 1, none⟩ = some (.slice a1 ls.length c1))) (first | (with_reducible assumption)) (first | (go_at_call 34; (with_reducible refine (HS.out _ _ _ hc.now V).mono ?_); rintro e w3 ⟨rfl, hb⟩; replace C := C.keep hb; replace hc := hc.below hb; replace V := V.below hb; replace K := below_two K hb; clear hb; replace sS := And.intro C.cells.1 (C.cells.2.1)) | (go_at_call 27; (with_reducible refine (OI.out _ _ hc.now).mono ?_); rintro e w3 ⟨rfl, hb⟩; replace C := C.keep hb; replace hc := hc.below hb; replace V := V.below hb; replace K := below_two K hb; clear hb; replace sS := And.intro C.cells.1 (C.cells.2.1)) | (go_at_call 26; (with_reducible refine (OS.out _ _ hc.now).mono ?_); rintro e w3 ⟨rfl, hb⟩; replace C := C.keep hb; replace hc := hc.below hb; replace V := V.below hb; replace K := below_two K hb; clear hb; replace sS := And.intro C.cells.1 (C.cells.2.1))))
    | fail
  clear sS
  obtain ⟨C0, C1, C2⟩ := C.cells
  go_wp2_with fail
  refine (OS.out _ _ hc.now).mono ?_; rintro e w4 ⟨rfl, hb⟩
  clear C0 C1 C2
  replace C := C.keep hb
  replace hc := hc.below hb
  replace V := V.below hb
  replace K := below_two K hb
  clear hb
  obtain ⟨C0, C1, C2⟩ := C.cells
  go_wp2_with fail
  clear C0 C1 C2
  go_loopw [6, 7] (fun q i wr => ∃ (k : Nat) (zk : Bool), k ≤ ls.length ∧ i = .int .i64 k ∧ q = .bool zk ∧ Hid (zk = (ls.take k).all fun c => c.any (nlit l)) ∧ Below w4.heap.size w4 wr) (fun q i _ => ls.length - (intOf i).toNat)
  case atStart => exact ⟨0, true, Nat.zero_le _, rfl, rfl, Lib.hid (by simp), Below.refl _ _⟩
  case round =>
    obtain ⟨k, zk, hk1, rfl, rfl, EZ, B⟩ := hrel
    replace C := C.keep B
    replace hc := hc.below B
    replace V := V.below B
    replace K := below_two K B
    obtain ⟨C0, C1, C2⟩ := C.cells
    by_cases hlt : k < ls.length
    · have hk2 : (k : Int) < (ls.length : Int) := by omega
      obtain ⟨eb, eo, ev, rfl, c0, he⟩ : ∃ b off v, a1 = some ⟨b, off, none⟩ ∧ wr.cell? ⟨b, off + k, none⟩ = some v ∧ Ints wr v (ls.getD k []) := by
        obtain ⟨a, cap, F, e, hR, hF⟩ := hc.now
        cases e
        obtain ⟨_, _, r3⟩ := hR
        rcases r3 with h0 | ⟨b, off, ha, _, hcell⟩
        · omega
        · exact ⟨b, off, F k, ha, hcell k hlt, hF k hlt⟩
      obtain ⟨ea, ec, rfl, her⟩ := he
      have he : Ints wr (.slice ea (ls.getD k []).length ec) (ls.getD k []) := ⟨ea, ec, rfl, her⟩
      clear her
      have et := Lib.hid (all_take_succ (fun c => c.any (nlit l)) ls hlt)
      have hw1 := Lib.hid (hwf.out k hlt)
      generalize hel : ls.getD k [] = el at *
      clear hel
      cases zk
      · go_wp2_with fail
        exact ⟨⟨k + 1, false, by omega, by go_num, rfl, Lib.hid (by rw [et.out, ← EZ.out]; rfl), B⟩, by simp [intOf]; omega⟩
      · go_wp2_with fail
        refine (clauseHas_impl _ el _ l _ he hw1.out V).mono ?_; rintro e w5 ⟨rfl, hb5⟩
        go_wp2_with fail
        exact ⟨⟨k + 1, _, by omega, by go_num, rfl, Lib.hid (by rw [et.out, ← EZ.out, Bool.true_and]), below_two B hb5⟩, by simp [intOf]; omega⟩
    · obtain rfl : k = ls.length := by omega
      obtain rfl : zk = hv := by rw [EZ.out, EA.out, List.take_length]
      clear EZ EA B
      clear C0 C1 C2
      obtain ⟨C0, C1, C2⟩ := C.cells
      have g1 : ¬ (ls.length : Int) < (ls.length : Int) := by omega
      go_upto_region 14 with fail
      go_cut [8] (fun s8 wx => ∃ (g2 : Nat) (x : Value), s8 = .pointer (some ⟨g2, 0, none⟩) ∧ Blk wx g2 (.int .i64 l.length) x 38 ∧ IntSS wx x (ls ++ [[]]) ∧ Below wr.heap.size wr wx)
      case first =>
        obtain ⟨i0, hi, hz0, hz1, hz2⟩ := info_parts infoInts
        have gl := C.lt
        clear C0 C1 C2
        obtain ⟨C0, C1, C2⟩ := C.cells
        have s0 := And.intro C0 C1
        obtain ⟨a, cap, F, e, hnn, hR, hF⟩ := hc
        cases e
        rcases hnn with ⟨rfl, rfl⟩ | ⟨b1, rfl⟩
        · obtain rfl : ls = [] := by
            obtain ⟨_, _, h3⟩ := hR wr (Kept.refl _ _)
            rcases h3 with h3 | ⟨b, o, e, _⟩
            · exact List.length_eq_zero_iff.1 h3
            · cases e
          clear hR hF
          rw [List.length_nil] at *
          refine wp_region_noPanic ?_
          refine wp_region_held_drew (S := fun wx : World => wx.cell? ⟨w1.heap.size, 0, none⟩ = some (.int .i64 l.length) ∧ wx.cell? ⟨w1.heap.size, 1, none⟩ = some (.slice none 0 0)) (by kernel_rfl) (s0) (fun hHeld => ?_)
          refine wpAnyH_take (i := 0) (oi := { dst := some 62, op := Go.Op.fieldAddr 38 (Go.Operand.tmp 3) 0, type := 0, pos := _, after := #[], guard := none }) (v := ?_) rfl (by kernel_rfl) (by kernel_rfl) (by kernel_rfl) (fun _ _ _ h => h) (Or.inl ⟨by rfl, ?_⟩) hHeld ?_
          rotate_left
          · (intro wq hSw; (try dsimp only at hSw); (try go_simp); (try with_reducible rfl))
          try simp only [Act.put, List.setIfInBounds_toArray, List.set_cons_zero, List.set_cons_succ]
          refine wpAnyH_take (i := 1) (oi := { dst := some 63, op := Go.Op.load 3 (Go.Operand.tmp 62), type := 3, pos := _, after := #[{ on := 0, ground := Go.Ground.data }], guard := none }) (v := ?_) rfl (by kernel_rfl) (by kernel_rfl) (by kernel_rfl) (fun _ _ _ h => h) (Or.inl ⟨by rfl, ?_⟩) hHeld ?_
          rotate_left
          · (intro wq hSw; (try dsimp only at hSw); (try go_simp); (try with_reducible rfl))
          try simp only [Act.put, List.setIfInBounds_toArray, List.set_cons_zero, List.set_cons_succ]
          refine wpAnyH_take (i := 3) (oi := { dst := some 65, op := Go.Op.fieldAddr 38 (Go.Operand.tmp 3) 1, type := 0, pos := _, after := #[], guard := none }) (v := ?_) rfl (by kernel_rfl) (by kernel_rfl) (by kernel_rfl) (fun _ _ _ h => h) (Or.inl ⟨by rfl, ?_⟩) hHeld ?_
          rotate_left
          · (intro wq hSw; (try dsimp only at hSw); (try go_simp); (try with_reducible rfl))
          try simp only [Act.put, List.setIfInBounds_toArray, List.set_cons_zero, List.set_cons_succ]
          refine wpAnyH_take (i := 4) (oi := { dst := some 66, op := Go.Op.load 33 (Go.Operand.tmp 65), type := 33, pos := _, after := #[{ on := 3, ground := Go.Ground.data }], guard := none }) (v := ?_) rfl (by kernel_rfl) (by kernel_rfl) (by kernel_rfl) (fun _ _ _ h => h) (Or.inl ⟨by rfl, ?_⟩) hHeld ?_
          rotate_left
          · (intro wq hSw; (try dsimp only at hSw); (try go_simp); (try with_reducible rfl))
          try simp only [Act.put, List.setIfInBounds_toArray, List.set_cons_zero, List.set_cons_succ]
          refine dia_AG wr 22 1 [] (fun kg : Nat => [.slice (some ⟨kg, 0, none⟩) 0 0]) 0 1 (.cells #[.int .i64 0, .slice none 0 0] 38) (.cells #[] 3) (fun kg : Nat => .cells #[.slice (some ⟨kg, 0, none⟩) 0 0] 22) (fun k => .pointer (some ⟨k, 0, none⟩)) (fun k => .slice (some ⟨k, 0, none⟩) 0 0) (fun k => .slice (some ⟨k, 0, none⟩) 1 1) (iA := 10) (iB := 2) (iD := 5) (iG := 6) (iE := 7) (iF := 8) (yA := 8) (yB := 64) (yD := 67) (yG := 68) (yE := 69) (yF := 70) (oA := { dst := some 8, op := Go.Op.alloc 38, type := 0, pos := _, after := #[], guard := none }) (oB := { dst := some 64, op := Go.Op.buildSlice 33 0 #[], type := 33, pos := _, after := #[], guard := none }) (oD := { dst := some 67, op := Go.Op.call { callee := Go.Callee.builtin Go.Builtin.append, args := #[Go.Operand.tmp 64, Go.Operand.tmp 66], argTypes := #[33, 33] }, type := 33, pos := _, after := #[{ on := 2, ground := Go.Ground.data }, { on := 4, ground := Go.Ground.data }], guard := none }) (oG := { dst := some 68, op := Go.Op.buildSlice 22 0 #[], type := 22, pos := _, after := #[], guard := none }) (oE := { dst := some 69, op := Go.Op.buildSlice 33 1 #[(0, Go.Operand.tmp 68)], type := 33, pos := _, after := #[{ on := 6, ground := Go.Ground.data }], guard := none }) (oF := { dst := some 70, op := Go.Op.call { callee := Go.Callee.builtin Go.Builtin.append, args := #[Go.Operand.tmp 67, Go.Operand.tmp 69], argTypes := #[33, 33] }, type := 33, pos := _, after := #[{ on := 5, ground := Go.Ground.data }, { on := 7, ground := Go.Ground.data }, { on := 5, ground := Go.Ground.chain }], guard := none }) (N := 2) rfl rfl rfl rfl rfl rfl (by kernel_rfl) (by decide) ⟨of_decide_eq_true rfl, of_decide_eq_true rfl, of_decide_eq_true rfl, of_decide_eq_true rfl, of_decide_eq_true rfl, of_decide_eq_true rfl⟩ (by decide) (fun w hb => two_keep hb gl s0) ?hA ?hB ?hG ?hE ?hD ?hF ?h1 ?h0 ((Below.refl _ _).drew)
          case hA => intro a w K h; go_simp; exact h
          case hB => intro a w K h; go_simp; exact h
          case hG => intro a w K hag h; go_simp; exact h
          case hE => intro a w K kg hag e0 h; have e : a.tmps[68]?.getD undef = .slice (some ⟨kg, 0, none⟩) 0 0 := (by rw [← Array.getD_eq_getD_getElem?]; exact e0); go_simp; (try simp only [e]); (try go_simp); exact h
          case hD =>
            intro a w K kb hag e1 hb own h
            refine step_append_none _ rfl (.tmp 64) (.tmp 66) _ rfl wr.heap.size 22 i0 1 Try.underlying33 hi (.slice (some ⟨kb, 0, none⟩) 0 0) 0 [] e1 own (hag 66 (by decide) (by decide) (by decide) (by decide) (by decide) (by decide)) ?_
            exact h _ _ own (World.grownBy.refl _ _) (.inl rfl)
          case hF =>
            intro a w K kg ke vd hag e1 e2 hb own hk h
            refine step_append_lies _ rfl (.tmp 67) (.tmp 69) _ rfl wr.heap.size 22 i0 (.slice none 0 0) 1 24 Try.underlying33 hi hz0 hz1 hz2 rfl (by omega) vd 0 [] e1 own ⟨ke, 0, none⟩ 1 1 [.slice (some ⟨kg, 0, none⟩) 0 0] e2 rfl (World.news_of_block hk) (by simp [Value.oneCell']) (by omega) (by unfold maxLen; omega) (by omega) hb.size _ rfl ?_
            intro b2 cap2 z2 o1 o2 o3 o4
            exact h _ _ o1 o2 (o3.elim (fun e => .inl e.symm) (fun e => .inr (by rw [e]; rfl)))
          case h1 =>
            intro ka kb kg ke vd vf w2 hb gA hA nA gG hG nG own hHeld
            obtain ⟨g5, c5, rfl, _, _⟩ := own.form (by omega)
            have qz : Blk w2 ka (.int .i64 0) (.slice none 0 0) 38 := (by unfold Blk; exact hA)
            obtain ⟨qz0, qz1, qzl⟩ := qz.cells
            obtain ⟨qf0, qf1⟩ := qz.frozen
            have B3 := ((hb).setCell (p := ⟨ka, 0, none⟩) gA (.int .i64 l.length)).setCell (p := ⟨ka, 1, none⟩) gA (.slice (some ⟨g5, 0, none⟩) 1 c5)
            have own3 := own_setCell (own_setCell own (p := ⟨ka, 0, none⟩) nA (.int .i64 l.length)) (p := ⟨ka, 1, none⟩) nA (.slice (some ⟨g5, 0, none⟩) 1 c5)
            try simp only [Act.put, List.setIfInBounds_toArray, List.set_cons_zero, List.set_cons_succ]
            refine wpAnyH_take (i := 9) (oi := { dst := some 71, op := Go.Op.build 38 #[(0, Go.Operand.tmp 63), (1, Go.Operand.tmp 70)], type := 38, pos := _, after := #[{ on := 1, ground := Go.Ground.data }, { on := 8, ground := Go.Ground.data }], guard := none }) (v := ?_) rfl (by kernel_rfl) (by kernel_rfl) (by kernel_rfl) (fun _ _ _ h => h) (Or.inl ⟨by rfl, ?_⟩) hHeld ?_
            rotate_left
            · (intro wq hSw; (try dsimp only at hSw); (try go_simp); (try with_reducible rfl))
            try simp only [Act.put, List.setIfInBounds_toArray, List.set_cons_zero, List.set_cons_succ]
            refine wpAnyH_ready (rs := [11]) (by kernel_rfl) (by simp) ?_
            refine AllReadyH.cons (o := { dst := none, op := Go.Op.store 38 (Go.Operand.tmp 8) (Go.Operand.tmp 71), type := 0, pos := _, after := #[{ on := 10, ground := Go.Ground.data }, { on := 9, ground := Go.Ground.data }, { on := 8, ground := Go.Ground.chain }, { on := 0, ground := Go.Ground.phase }, { on := 1, ground := Go.Ground.phase }, { on := 2, ground := Go.Ground.phase }, { on := 3, ground := Go.Ground.phase }, { on := 4, ground := Go.Ground.phase }, { on := 5, ground := Go.Ground.phase }, { on := 6, ground := Go.Ground.phase }, { on := 7, ground := Go.Ground.phase }, { on := 8, ground := Go.Ground.phase }, { on := 9, ground := Go.Ground.phase }, { on := 10, ground := Go.Ground.phase }], guard := none }) rfl (fun KK hKK => ?_) AllReadyH.nil
            go_simp
            refine hKK.out _ _ (two_keep (w := wr) (((hb).setCell (p := ⟨ka, 0, none⟩) gA _).setCell (p := ⟨ka, 1, none⟩) gA _) gl s0) (fun hHeld => ?_)
            clear hKK KK
            try simp only [Act.put, List.setIfInBounds_toArray, List.set_cons_zero, List.set_cons_succ]
            refine wpAnyH_done (by kernel_rfl) ?_ _
            refine NoPanic.normal ?_
            go_wp2_with fail
            go_meet
            exact ⟨ka, _, rfl, (qz.set0 _).set1 _, intSS_of (ls := []) own3 (by first | rfl | omega) (by rfl) (fun i hi => absurd hi (by simp)) (ints_empty _ _), B3⟩
          case h0 =>
            intro kb kg ke vd vf w2 hb gG hG nG own hHeld
            obtain ⟨g5, c5, rfl, _, _⟩ := own.form (by omega)
            have B3 := below_step hb (.cells #[.int .i64 l.length, (.slice (some ⟨g5, 0, none⟩) 1 c5)] 38)
            have own3 := own.alloc (.cells #[.int .i64 l.length, (.slice (some ⟨g5, 0, none⟩) 1 c5)] 38)
            try simp only [Act.put, List.setIfInBounds_toArray, List.set_cons_zero, List.set_cons_succ]
            refine wpAnyH_take (i := 9) (oi := { dst := some 71, op := Go.Op.build 38 #[(0, Go.Operand.tmp 63), (1, Go.Operand.tmp 70)], type := 38, pos := _, after := #[{ on := 1, ground := Go.Ground.data }, { on := 8, ground := Go.Ground.data }], guard := none }) (v := ?_) rfl (by kernel_rfl) (by kernel_rfl) (by kernel_rfl) (fun _ _ _ h => h) (Or.inl ⟨by rfl, ?_⟩) hHeld ?_
            rotate_left
            · (intro wq hSw; (try dsimp only at hSw); (try go_simp); (try with_reducible rfl))
            try simp only [Act.put, List.setIfInBounds_toArray, List.set_cons_zero, List.set_cons_succ]
            refine wpAnyH_ready (rs := [10]) (by kernel_rfl) (by simp) ?_
            refine AllReadyH.cons (o := { dst := some 8, op := Go.Op.alloc 38, type := 0, pos := _, after := #[], guard := none }) rfl (fun KK hKK => ?_) AllReadyH.nil
            go_simp
            refine hKK.out _ _ (two_keep (w := wr) (below_step hb _) gl s0) (fun hHeld => ?_)
            clear hKK KK
            try simp only [Act.put, List.setIfInBounds_toArray, List.set_cons_zero, List.set_cons_succ]
            refine wpAnyH_ready (rs := [11]) (by kernel_rfl) (by simp) ?_
            refine AllReadyH.cons (o := { dst := none, op := Go.Op.store 38 (Go.Operand.tmp 8) (Go.Operand.tmp 71), type := 0, pos := _, after := #[{ on := 10, ground := Go.Ground.data }, { on := 9, ground := Go.Ground.data }, { on := 8, ground := Go.Ground.chain }, { on := 0, ground := Go.Ground.phase }, { on := 1, ground := Go.Ground.phase }, { on := 2, ground := Go.Ground.phase }, { on := 3, ground := Go.Ground.phase }, { on := 4, ground := Go.Ground.phase }, { on := 5, ground := Go.Ground.phase }, { on := 6, ground := Go.Ground.phase }, { on := 7, ground := Go.Ground.phase }, { on := 8, ground := Go.Ground.phase }, { on := 9, ground := Go.Ground.phase }, { on := 10, ground := Go.Ground.phase }], guard := none }) rfl (fun KK hKK => ?_) AllReadyH.nil
            go_simp
            refine hKK.out _ _ (two_keep (w := wr) (below_step hb _) gl s0) (fun hHeld => ?_)
            clear hKK KK
            try simp only [Act.put, List.setIfInBounds_toArray, List.set_cons_zero, List.set_cons_succ]
            refine wpAnyH_done (by kernel_rfl) ?_ _
            refine NoPanic.normal ?_
            go_wp2_with fail
            go_meet
            exact ⟨w2.heap.size, _, rfl, blk_new w2 _ _ _, intSS_of (ls := []) own3 (by first | rfl | omega) (by rfl) (fun i hi => absurd hi (by simp)) (ints_empty _ _), B3⟩
        · have hnew := Lib.hid (fun w' h => (hR w' h).news)
          have hone : Hid (∀ u ∈ (List.range ls.length).map F, u.oneCell' = true) := by
            intro u hu
            obtain ⟨i, hi, rfl⟩ := List.mem_map.1 hu
            obtain ⟨a', c', e, _⟩ := (hF i (List.mem_range.1 hi)).now
            rw [e]; rfl
          have hlen : ((List.range ls.length).map F).length = ls.length * 1 := by simp
          have HF : Hid (∀ i, i < ls.length → ((List.range ls.length).map F).getD i undef = F i ∧ KI 0 wr (F i) (ls.getD i [])) := fun i hi => ⟨by simp [List.getD_eq_getElem?_getD, hi], hF i hi⟩
          generalize (List.range ls.length).map F = fs at *
          clear hR hF
          refine wp_region_noPanic ?_
          refine wp_region_held_drew (S := fun wx : World => wx.cell? ⟨w1.heap.size, 0, none⟩ = some (.int .i64 l.length) ∧ wx.cell? ⟨w1.heap.size, 1, none⟩ = some (.slice (some ⟨b1, 0, none⟩) ls.length c1)) (by kernel_rfl) (s0) (fun hHeld => ?_)
          refine wpAnyH_take (i := 0) (oi := { dst := some 62, op := Go.Op.fieldAddr 38 (Go.Operand.tmp 3) 0, type := 0, pos := _, after := #[], guard := none }) (v := ?_) rfl (by kernel_rfl) (by kernel_rfl) (by kernel_rfl) (fun _ _ _ h => h) (Or.inl ⟨by rfl, ?_⟩) hHeld ?_
          rotate_left
          · (intro wq hSw; (try dsimp only at hSw); (try go_simp); (try with_reducible rfl))
          try simp only [Act.put, List.setIfInBounds_toArray, List.set_cons_zero, List.set_cons_succ]
          refine wpAnyH_take (i := 1) (oi := { dst := some 63, op := Go.Op.load 3 (Go.Operand.tmp 62), type := 3, pos := _, after := #[{ on := 0, ground := Go.Ground.data }], guard := none }) (v := ?_) rfl (by kernel_rfl) (by kernel_rfl) (by kernel_rfl) (fun _ _ _ h => h) (Or.inl ⟨by rfl, ?_⟩) hHeld ?_
          rotate_left
          · (intro wq hSw; (try dsimp only at hSw); (try go_simp); (try with_reducible rfl))
          try simp only [Act.put, List.setIfInBounds_toArray, List.set_cons_zero, List.set_cons_succ]
          refine wpAnyH_take (i := 3) (oi := { dst := some 65, op := Go.Op.fieldAddr 38 (Go.Operand.tmp 3) 1, type := 0, pos := _, after := #[], guard := none }) (v := ?_) rfl (by kernel_rfl) (by kernel_rfl) (by kernel_rfl) (fun _ _ _ h => h) (Or.inl ⟨by rfl, ?_⟩) hHeld ?_
          rotate_left
          · (intro wq hSw; (try dsimp only at hSw); (try go_simp); (try with_reducible rfl))
          try simp only [Act.put, List.setIfInBounds_toArray, List.set_cons_zero, List.set_cons_succ]
          refine wpAnyH_take (i := 4) (oi := { dst := some 66, op := Go.Op.load 33 (Go.Operand.tmp 65), type := 33, pos := _, after := #[{ on := 3, ground := Go.Ground.data }], guard := none }) (v := ?_) rfl (by kernel_rfl) (by kernel_rfl) (by kernel_rfl) (fun _ _ _ h => h) (Or.inl ⟨by rfl, ?_⟩) hHeld ?_
          rotate_left
          · (intro wq hSw; (try dsimp only at hSw); (try go_simp); (try with_reducible rfl))
          try simp only [Act.put, List.setIfInBounds_toArray, List.set_cons_zero, List.set_cons_succ]
          refine dia_AG wr 22 1 fs (fun kg : Nat => [.slice (some ⟨kg, 0, none⟩) 0 0]) ls.length (ls.length + 1) (.cells #[.int .i64 0, .slice none 0 0] 38) (.cells #[] 3) (fun kg : Nat => .cells #[.slice (some ⟨kg, 0, none⟩) 0 0] 22) (fun k => .pointer (some ⟨k, 0, none⟩)) (fun k => .slice (some ⟨k, 0, none⟩) 0 0) (fun k => .slice (some ⟨k, 0, none⟩) 1 1) (iA := 10) (iB := 2) (iD := 5) (iG := 6) (iE := 7) (iF := 8) (yA := 8) (yB := 64) (yD := 67) (yG := 68) (yE := 69) (yF := 70) (oA := { dst := some 8, op := Go.Op.alloc 38, type := 0, pos := _, after := #[], guard := none }) (oB := { dst := some 64, op := Go.Op.buildSlice 33 0 #[], type := 33, pos := _, after := #[], guard := none }) (oD := { dst := some 67, op := Go.Op.call { callee := Go.Callee.builtin Go.Builtin.append, args := #[Go.Operand.tmp 64, Go.Operand.tmp 66], argTypes := #[33, 33] }, type := 33, pos := _, after := #[{ on := 2, ground := Go.Ground.data }, { on := 4, ground := Go.Ground.data }], guard := none }) (oG := { dst := some 68, op := Go.Op.buildSlice 22 0 #[], type := 22, pos := _, after := #[], guard := none }) (oE := { dst := some 69, op := Go.Op.buildSlice 33 1 #[(0, Go.Operand.tmp 68)], type := 33, pos := _, after := #[{ on := 6, ground := Go.Ground.data }], guard := none }) (oF := { dst := some 70, op := Go.Op.call { callee := Go.Callee.builtin Go.Builtin.append, args := #[Go.Operand.tmp 67, Go.Operand.tmp 69], argTypes := #[33, 33] }, type := 33, pos := _, after := #[{ on := 5, ground := Go.Ground.data }, { on := 7, ground := Go.Ground.data }, { on := 5, ground := Go.Ground.chain }], guard := none }) (N := 2) rfl rfl rfl rfl rfl rfl (by kernel_rfl) (by decide) ⟨of_decide_eq_true rfl, of_decide_eq_true rfl, of_decide_eq_true rfl, of_decide_eq_true rfl, of_decide_eq_true rfl, of_decide_eq_true rfl⟩ (by decide) (fun w hb => two_keep hb gl s0) ?hA ?hB ?hG ?hE ?hD ?hF ?h1 ?h0 ((Below.refl _ _).drew)
          case hA => intro a w K h; go_simp; exact h
          case hB => intro a w K h; go_simp; exact h
          case hG => intro a w K hag h; go_simp; exact h
          case hE => intro a w K kg hag e0 h; have e : a.tmps[68]?.getD undef = .slice (some ⟨kg, 0, none⟩) 0 0 := (by rw [← Array.getD_eq_getD_getElem?]; exact e0); go_simp; (try simp only [e]); (try go_simp); exact h
          case hD =>
            intro a w K kb hag e1 hb own h
            refine step_append_at _ rfl (.tmp 64) (.tmp 66) _ rfl wr.heap.size 22 i0 (.slice none 0 0) 1 24 Try.underlying33 hi hz0 hz1 hz2 rfl (by omega) (.slice (some ⟨kb, 0, none⟩) 0 0) 0 [] e1 own ⟨b1, 0, none⟩ ls.length c1 fs (hag 66 (by decide) (by decide) (by decide) (by decide) (by decide) (by decide)) hlen (hnew.out _ (kept_below hb)) hone.out (by unfold maxLen; omega) (by omega) hb.size ?_
            intro v' w' o1 o2 o3
            rw [Nat.zero_add] at o1
            exact h v' w' o1 o2 o3
          case hF =>
            intro a w K kg ke vd hag e1 e2 hb own hk h
            refine step_append_lies _ rfl (.tmp 67) (.tmp 69) _ rfl wr.heap.size 22 i0 (.slice none 0 0) 1 24 Try.underlying33 hi hz0 hz1 hz2 rfl (by omega) vd ls.length fs e1 own ⟨ke, 0, none⟩ 1 1 [.slice (some ⟨kg, 0, none⟩) 0 0] e2 rfl (World.news_of_block hk) (by simp [Value.oneCell']) (by omega) (by unfold maxLen; omega) (by omega) hb.size _ rfl ?_
            intro b2 cap2 z2 o1 o2 o3 o4
            exact h _ _ o1 o2 (o3.elim (fun e => .inl e.symm) (fun e => .inr (by rw [e]; rfl)))
          case h1 =>
            intro ka kb kg ke vd vf w2 hb gA hA nA gG hG nG own hHeld
            obtain ⟨g5, c5, rfl, _, _⟩ := own.form (by omega)
            have qz : Blk w2 ka (.int .i64 0) (.slice none 0 0) 38 := (by unfold Blk; exact hA)
            obtain ⟨qz0, qz1, qzl⟩ := qz.cells
            obtain ⟨qf0, qf1⟩ := qz.frozen
            have B3 := ((hb).setCell (p := ⟨ka, 0, none⟩) gA (.int .i64 l.length)).setCell (p := ⟨ka, 1, none⟩) gA (.slice (some ⟨g5, 0, none⟩) (ls.length + 1) c5)
            have own3 := own_setCell (own_setCell own (p := ⟨ka, 0, none⟩) nA (.int .i64 l.length)) (p := ⟨ka, 1, none⟩) nA (.slice (some ⟨g5, 0, none⟩) (ls.length + 1) c5)
            try simp only [Act.put, List.setIfInBounds_toArray, List.set_cons_zero, List.set_cons_succ]
            refine wpAnyH_take (i := 9) (oi := { dst := some 71, op := Go.Op.build 38 #[(0, Go.Operand.tmp 63), (1, Go.Operand.tmp 70)], type := 38, pos := _, after := #[{ on := 1, ground := Go.Ground.data }, { on := 8, ground := Go.Ground.data }], guard := none }) (v := ?_) rfl (by kernel_rfl) (by kernel_rfl) (by kernel_rfl) (fun _ _ _ h => h) (Or.inl ⟨by rfl, ?_⟩) hHeld ?_
            rotate_left
            · (intro wq hSw; (try dsimp only at hSw); (try go_simp); (try with_reducible rfl))
            try simp only [Act.put, List.setIfInBounds_toArray, List.set_cons_zero, List.set_cons_succ]
            refine wpAnyH_ready (rs := [11]) (by kernel_rfl) (by simp) ?_
            refine AllReadyH.cons (o := { dst := none, op := Go.Op.store 38 (Go.Operand.tmp 8) (Go.Operand.tmp 71), type := 0, pos := _, after := #[{ on := 10, ground := Go.Ground.data }, { on := 9, ground := Go.Ground.data }, { on := 8, ground := Go.Ground.chain }, { on := 0, ground := Go.Ground.phase }, { on := 1, ground := Go.Ground.phase }, { on := 2, ground := Go.Ground.phase }, { on := 3, ground := Go.Ground.phase }, { on := 4, ground := Go.Ground.phase }, { on := 5, ground := Go.Ground.phase }, { on := 6, ground := Go.Ground.phase }, { on := 7, ground := Go.Ground.phase }, { on := 8, ground := Go.Ground.phase }, { on := 9, ground := Go.Ground.phase }, { on := 10, ground := Go.Ground.phase }], guard := none }) rfl (fun KK hKK => ?_) AllReadyH.nil
            go_simp
            refine hKK.out _ _ (two_keep (w := wr) (((hb).setCell (p := ⟨ka, 0, none⟩) gA _).setCell (p := ⟨ka, 1, none⟩) gA _) gl s0) (fun hHeld => ?_)
            clear hKK KK
            try simp only [Act.put, List.setIfInBounds_toArray, List.set_cons_zero, List.set_cons_succ]
            refine wpAnyH_done (by kernel_rfl) ?_ _
            refine NoPanic.normal ?_
            go_wp2_with fail
            go_meet
            exact ⟨ka, _, rfl, (qz.set0 _).set1 _, intSS_of (ls := ls) own3 (by first | rfl | omega) (by omega) (fun i hi => by rw [(HF.out i hi).1]; exact (HF.out i hi).2 _ (kept_below B3)) (ints_empty _ _), B3⟩
          case h0 =>
            intro kb kg ke vd vf w2 hb gG hG nG own hHeld
            obtain ⟨g5, c5, rfl, _, _⟩ := own.form (by omega)
            have B3 := below_step hb (.cells #[.int .i64 l.length, (.slice (some ⟨g5, 0, none⟩) (ls.length + 1) c5)] 38)
            have own3 := own.alloc (.cells #[.int .i64 l.length, (.slice (some ⟨g5, 0, none⟩) (ls.length + 1) c5)] 38)
            try simp only [Act.put, List.setIfInBounds_toArray, List.set_cons_zero, List.set_cons_succ]
            refine wpAnyH_take (i := 9) (oi := { dst := some 71, op := Go.Op.build 38 #[(0, Go.Operand.tmp 63), (1, Go.Operand.tmp 70)], type := 38, pos := _, after := #[{ on := 1, ground := Go.Ground.data }, { on := 8, ground := Go.Ground.data }], guard := none }) (v := ?_) rfl (by kernel_rfl) (by kernel_rfl) (by kernel_rfl) (fun _ _ _ h => h) (Or.inl ⟨by rfl, ?_⟩) hHeld ?_
            rotate_left
            · (intro wq hSw; (try dsimp only at hSw); (try go_simp); (try with_reducible rfl))
            try simp only [Act.put, List.setIfInBounds_toArray, List.set_cons_zero, List.set_cons_succ]
            refine wpAnyH_ready (rs := [10]) (by kernel_rfl) (by simp) ?_
            refine AllReadyH.cons (o := { dst := some 8, op := Go.Op.alloc 38, type := 0, pos := _, after := #[], guard := none }) rfl (fun KK hKK => ?_) AllReadyH.nil
            go_simp
            refine hKK.out _ _ (two_keep (w := wr) (below_step hb _) gl s0) (fun hHeld => ?_)
            clear hKK KK
            try simp only [Act.put, List.setIfInBounds_toArray, List.set_cons_zero, List.set_cons_succ]
            refine wpAnyH_ready (rs := [11]) (by kernel_rfl) (by simp) ?_
            refine AllReadyH.cons (o := { dst := none, op := Go.Op.store 38 (Go.Operand.tmp 8) (Go.Operand.tmp 71), type := 0, pos := _, after := #[{ on := 10, ground := Go.Ground.data }, { on := 9, ground := Go.Ground.data }, { on := 8, ground := Go.Ground.chain }, { on := 0, ground := Go.Ground.phase }, { on := 1, ground := Go.Ground.phase }, { on := 2, ground := Go.Ground.phase }, { on := 3, ground := Go.Ground.phase }, { on := 4, ground := Go.Ground.phase }, { on := 5, ground := Go.Ground.phase }, { on := 6, ground := Go.Ground.phase }, { on := 7, ground := Go.Ground.phase }, { on := 8, ground := Go.Ground.phase }, { on := 9, ground := Go.Ground.phase }, { on := 10, ground := Go.Ground.phase }], guard := none }) rfl (fun KK hKK => ?_) AllReadyH.nil
            go_simp
            refine hKK.out _ _ (two_keep (w := wr) (below_step hb _) gl s0) (fun hHeld => ?_)
            clear hKK KK
            try simp only [Act.put, List.setIfInBounds_toArray, List.set_cons_zero, List.set_cons_succ]
            refine wpAnyH_done (by kernel_rfl) ?_ _
            refine NoPanic.normal ?_
            go_wp2_with fail
            go_meet
            exact ⟨w2.heap.size, _, rfl, blk_new w2 _ _ _, intSS_of (ls := ls) own3 (by first | rfl | omega) (by omega) (fun i hi => by rw [(HF.out i hi).1]; exact (HF.out i hi).2 _ (kept_below B3)) (ints_empty _ _), B3⟩
      case rest =>
        obtain ⟨g2, x, rfl, D, hd, hb6⟩ := hcut
        have hwf2 : ssWf (ls ++ [[]]) := fun i hi => by
          rcases Nat.lt_or_ge i ls.length with h1 | h1
          · rw [getD_snoc_lt h1]; exact hwf.out i h1
          · obtain rfl : i = ls.length := by simp at hi; omega
            rw [getD_snoc_at]; exact intsWf_mem (fun x hx => by cases hx)
        have HD : Hid (∀ x' u' wx, IntSS wx x' (ls ++ [[]]) → Bools wx u' l → Calls Try.prog 35 #[.agg #[.int .i64 l.length, x'], u'] wx (fun e w' => e = .returned (.bool false) ∧ Below wx.heap.size wx w')) := fun x' u' wx h1 h2 => (cnfHas_impl l.length x' _ u' l wx h1 hwf2 h2).mono (by rintro e w'' ⟨rfl, hb⟩; rw [hasL_nil]; exact ⟨rfl, hb⟩)
        have HE : Hid (∀ u' wx, Bools wx u' l → Calls Try.prog 35 #[.agg #[.int .i64 l.length, .slice none 0 0], u'] wx (fun e w' => e = .returned (.bool true) ∧ Below wx.heap.size wx w')) := fun u' wx h2 => (cnfHas_impl l.length _ [] u' l wx (intSS_nil _) (fun i hi => absurd hi (by simp)) h2).mono (by rintro e w'' ⟨rfl, hb⟩; rw [hasL_none hk.out rfl]; exact ⟨rfl, hb⟩)
        clear hwf2 hwf hk
        replace C := C.keep hb6
        replace V := V.below hb6
        replace K := below_two K hb6
        clear hb6 C0 C1 C2 hc
        obtain ⟨lx, hlx⟩ : ∃ lx, lx = ls ++ [[]] := ⟨_, rfl⟩
        rw [← hlx] at hd HD
        obtain ⟨xa, xc, rfl⟩ := hd.form
        clear hlx hlt hk1 g1
        obtain ⟨C0, C1, C2⟩ := C.cells
        have nD : ¬ g2 = wc.heap.size := Nat.ne_of_lt D.lt
        replace D := D.alloc (.cells #[.int .i64 l.length, .slice none 0 0] 38)
        replace V := V.below (below_self_alloc wc (.cells #[.int .i64 l.length, .slice none 0 0] 38))
        replace hd := hd.below (below_self_alloc wc (.cells #[.int .i64 l.length, .slice none 0 0] 38))
        replace K := below_step K (.cells #[.int .i64 l.length, .slice none 0 0] 38)
        have E := blk_new wc (.int .i64 l.length) (.slice none 0 0) 38
        obtain ⟨D0, D1, D2⟩ := D.cells
        obtain ⟨E0, E1, E2⟩ := E.cells
        cases zk
        · go_wp2_with fail
          refine (HD.out _ _ _ hd V).mono ?_; rintro e w7 ⟨rfl, hb⟩
          clear D0 D1 D2 E0 E1 E2
          clear nD
          replace D := D.keep hb
          replace E := E.keep hb
          replace V := V.below hb
          replace hd := hd.below hb
          replace K := below_two K hb
          clear hb
          obtain ⟨D0, D1, D2⟩ := D.cells
          obtain ⟨E0, E1, E2⟩ := E.cells
          go_wp2_with fail
          refine (HE.out _ _ V).mono ?_; rintro e w8 ⟨rfl, hb⟩
          clear D0 D1 D2 E0 E1 E2
          replace D := D.keep hb
          replace E := E.keep hb
          replace V := V.below hb
          replace hd := hd.below hb
          replace K := below_two K hb
          clear hb
          obtain ⟨D0, D1, D2⟩ := D.cells
          obtain ⟨E0, E1, E2⟩ := E.cells
          go_wp2_with fail
          go_ret
          exact ⟨rfl, K⟩
        · go_wp2_with fail
          refine (HD.out _ _ _ hd V).mono ?_; rintro e w7 ⟨rfl, hb⟩
          clear D0 D1 D2 E0 E1 E2
          clear nD
          replace D := D.keep hb
          replace E := E.keep hb
          replace V := V.below hb
          replace hd := hd.below hb
          replace K := below_two K hb
          clear hb
          obtain ⟨D0, D1, D2⟩ := D.cells
          obtain ⟨E0, E1, E2⟩ := E.cells
          go_wp2_with fail
          refine (HE.out _ _ V).mono ?_; rintro e w8 ⟨rfl, hb⟩
          clear D0 D1 D2 E0 E1 E2
          replace D := D.keep hb
          replace E := E.keep hb
          replace V := V.below hb
          replace hd := hd.below hb
          replace K := below_two K hb
          clear hb
          obtain ⟨D0, D1, D2⟩ := D.cells
          obtain ⟨E0, E1, E2⟩ := E.cells
          go_wp2_with fail
          go_ret
          exact ⟨rfl, K⟩
end Go.Proofs.Ytjobbokjebhjgaa
