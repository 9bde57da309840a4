/- The walk of FnNetBent: for every argument the law returns true and leaves alone what was there. -/
import Derived.Test.YteeaafdgkepaeaaHh
namespace Go.Proofs.Yteeaafdgkepaeaa
open Go.RowKit

theorem bad_last {m : Int} {gs : List Gt} {g : Gt} (h : ¬ gOk (1 + m + gs.length) g) : netV m (gs ++ [g]) = false := by
  refine netV_false.2 (fun hn => h ?_)
  have h2 := (hn.2 gs.length (by simp)).1
  rw [snocG_at] at h2
  exact h2
theorem bad_twice {m : Int} {gs : List Gt} (h : 0 < gs.length) : netV m (gs ++ gs) = false := by
  refine netV_false.2 (fun hn => ?_)
  have h2 := (hn.2 gs.length (by simp; omega)).2 0 h
  refine h2 ?_
  rw [List.getD_eq_getElem?_getD, List.getD_eq_getElem?_getD, List.getElem?_append_left h, List.getElem?_append_right (Nat.le_refl _), Nat.sub_self]
theorem sameN_longer {m : Int} {gs : List Gt} {g : Gt} : sameN m gs m (gs ++ [g]) = false := by
  unfold sameN
  refine decide_eq_false (fun h => ?_)
  have := congrArg List.length h.2
  simp at this
theorem sameN_symm (m : Int) (l : List Gt) (m' : Int) (l' : List Gt) : sameN m' l' m l = sameN m l m' l' := by
  unfold sameN; exact decide_eq_decide.2 ⟨fun h => ⟨h.1.symm, h.2.symm⟩, fun h => ⟨h.1.symm, h.2.symm⟩⟩
theorem ok_a {m : Int} {n : Nat} : ¬ gOk (1 + m + n) (false, 2, 2 + m + n) := fun h => by
  have := h.2.2.2.1
  dsimp only at this
  omega
theorem ok_b {m : Int} : ¬ gOk m (false, 2, -2) := fun h => by
  have := h.2.2.2.2.2.1
  simp [mabs] at this
theorem ok_c {m : Int} : ¬ gOk m (false, 1, 2) := fun h => by
  have := h.2.2.2.2.1
  simp [mabs] at this
theorem WfG.twice {gs : List Gt} (h : WfG gs) : WfG (gs ++ gs) := fun i hi => by
  by_cases h1 : i < gs.length
  · have : (gs ++ gs).getD i gz = gs.getD i gz := by rw [List.getD_eq_getElem?_getD, List.getD_eq_getElem?_getD, List.getElem?_append_left h1]
    rw [this]; exact h i h1
  · have : (gs ++ gs).getD i gz = gs.getD (i - gs.length) gz := by rw [List.getD_eq_getElem?_getD, List.getD_eq_getElem?_getD, List.getElem?_append_right (by omega)]
    rw [this]; exact h _ (by simp at hi; omega)

set_option linter.unusedVariables false in
set_option maxRecDepth 100000 in
set_option maxHeartbeats 32000000 in
theorem walk_FnNetBent (v : Value) {w : World} (h : BytesIn w v) :
    Calls Try.prog 7 #[v] w fun e w' => e = .returned (.bool true) ∧ Below w.heap.size w w' := by
  obtain ⟨a0, len, cp, rfl⟩ : ∃ a len cap, v = .slice a len cap := by
    rcases h with ⟨a, c, rfl⟩ | ⟨b, off, len, cap, rfl, _⟩ <;> exact ⟨_, _, _, rfl⟩
  by_cases hb : (1048576 : Int) < len
  · go_enter Try.func7, Try.ntmps7
    go_wp2_with fail
    go_ret
    exact ⟨rfl, Below.refl _ _⟩
  obtain ⟨i0, hi, hz0, hz1, hz2⟩ := info_parts infoGate
  go_enter Try.func7, Try.ntmps7
  go_wp2_with fail
  refine (drawNetSame_any _ _ h).mono ?_
  rintro e w1 ⟨m, gs, a, c, m', gs', a', c', rfl, m0, m4, own, gb, hl, m0', m20', own', wf', hl', K⟩
  clear h
  have hG := own.gates
  have nG := nilOrB_own own
  have hD := own'.gates
  have nD := nilOrB_own own'
  have wfG := Lib.hid (gb_wf gb)
  have NG := Lib.hid nG
  obtain ⟨sv, hsv⟩ : ∃ z, z = sameN m gs m' gs' := ⟨_, rfl⟩
  obtain ⟨od, hod⟩ : ∃ z, z = netV m' gs' := ⟨_, rfl⟩
  have SA : Hid (∀ w', Gates w' (.slice a gs.length c) gs → Gates w' (.slice a' gs'.length c') gs' → Calls Try.prog 20 #[.agg #[.int .i64 m, .slice a gs.length c], .agg #[.int .i64 m', .slice a' gs'.length c']] w' (fun e w2 => e = .returned (.bool sv) ∧ Below w'.heap.size w' w2)) := fun w' h1 h2 => by rw [hsv]; exact netSame_impl m _ gs m' _ gs' w' h1 h2
  have SB : Hid (∀ w', Gates w' (.slice a gs.length c) gs → Gates w' (.slice a' gs'.length c') gs' → Calls Try.prog 18 #[.agg #[.int .i64 m, .slice a gs.length c], .agg #[.int .i64 m', .slice a' gs'.length c']] w' (fun e w2 => e = .returned (.bool sv) ∧ Below w'.heap.size w' w2)) := fun w' h1 h2 => by rw [hsv]; exact netSame_spec m _ gs m' _ gs' w' h1 h2
  have SC : Hid (∀ w', Gates w' (.slice a gs.length c) gs → Gates w' (.slice a' gs'.length c') gs' → Calls Try.prog 20 #[.agg #[.int .i64 m', .slice a' gs'.length c'], .agg #[.int .i64 m, .slice a gs.length c]] w' (fun e w2 => e = .returned (.bool sv) ∧ Below w'.heap.size w' w2)) := fun w' h1 h2 => by rw [hsv, ← sameN_symm]; exact netSame_impl m' _ gs' m _ gs w' h2 h1
  have SD : Hid (∀ w', Gates w' (.slice a gs.length c) gs → Calls Try.prog 20 #[.agg #[.int .i64 m, .slice a gs.length c], .agg #[.int .i64 m, .slice a gs.length c]] w' (fun e w2 => e = .returned (.bool true) ∧ Below w'.heap.size w' w2)) := fun w' h1 => by rw [← sameN_self m gs]; exact netSame_impl m _ gs m _ gs w' h1 h1
  have O1 : Hid (∀ w', Gates w' (.slice a' gs'.length c') gs' → Calls Try.prog 23 #[.agg #[.int .i64 m', .slice a' gs'.length c']] w' (fun e w2 => e = .returned (.bool od) ∧ Below w'.heap.size w' w2)) := fun w' h1 => by rw [hod]; exact netOk_impl m' _ gs' w' h1 nD wf'
  have O2 : Hid (∀ w', Gates w' (.slice a' gs'.length c') gs' → Calls Try.prog 22 #[.agg #[.int .i64 m', .slice a' gs'.length c']] w' (fun e w2 => e = .returned (.bool od) ∧ Below w'.heap.size w' w2)) := fun w' h1 => by rw [hod]; exact netOk_spec m' _ gs' w' h1
  clear hsv hod own own' gb nG nD wf' m0' m20' hl'
  replace hG := hG.below (below_step (below_self_alloc w1 (.cells #[.int .i64 m, .slice a gs.length c] 39)) (.cells #[.int .i64 m', .slice a' gs'.length c'] 39))
  replace hD := hD.below (below_step (below_self_alloc w1 (.cells #[.int .i64 m, .slice a gs.length c] 39)) (.cells #[.int .i64 m', .slice a' gs'.length c'] 39))
  replace K := below_step (below_step K (.cells #[.int .i64 m, .slice a gs.length c] 39)) (.cells #[.int .i64 m', .slice a' gs'.length c'] 39)
  have C := (blk_new w1 (.int .i64 m) (.slice a gs.length c) 39).alloc (.cells #[.int .i64 m', .slice a' gs'.length c'] 39)
  have D := blk_new1 w1 (.cells #[.int .i64 m, .slice a gs.length c] 39) (.int .i64 m') (.slice a' gs'.length c') 39
  obtain ⟨C0, C1, C2⟩ := C.cells
  obtain ⟨D0, D1, D2⟩ := D.cells
  go_wp2_with fail
  clear C0 C1 C2 D0 D1 D2
  replace C := C.drew
  replace D := D.drew
  replace hG := hG.drew
  replace hD := hD.drew
  replace K := K.drew
  have sS := And.intro (And.intro C.cells.1 (C.cells.2.1)) (And.intro D.cells.1 (D.cells.2.1))
  first
    | (go_region_held3 (fun wx : World => (wx.cell? ⟨w1.heap.size, 0, none⟩ = some (.int .i64 m) ∧ wx.cell? ⟨w1.heap.size, 1, none⟩ = some (.slice a gs.length c)) ∧ (wx.cell? ⟨(w1.heap.size + 1), 0, none⟩ = some (.int .i64 m') ∧ wx.cell? ⟨(w1.heap.size + 1), 1, none⟩ = some (.slice a' gs'.length c'))) (first | (with_reducible assumption)) (first | (go_at_call 20; (with_reducible refine (SA.out _ hG hD).mono ?_); rintro e w2 ⟨rfl, hb⟩; replace C := C.keep hb; replace D := D.keep hb; replace hG := hG.below hb; replace hD := hD.below hb; replace K := below_two K hb; clear hb; replace sS := And.intro (And.intro C.cells.1 (C.cells.2.1)) (And.intro D.cells.1 (D.cells.2.1))) | (go_at_call 18; (with_reducible refine (SB.out _ hG hD).mono ?_); rintro e w2 ⟨rfl, hb⟩; replace C := C.keep hb; replace D := D.keep hb; replace hG := hG.below hb; replace hD := hD.below hb; replace K := below_two K hb; clear hb; replace sS := And.intro (And.intro C.cells.1 (C.cells.2.1)) (And.intro D.cells.1 (D.cells.2.1))) | (go_at_call 20; (with_reducible refine (SC.out _ hG hD).mono ?_); rintro e w2 ⟨rfl, hb⟩; replace C := C.keep hb; replace D := D.keep hb; replace hG := hG.below hb; replace hD := hD.below hb; replace K := below_two K hb; clear hb; replace sS := And.intro (And.intro C.cells.1 (C.cells.2.1)) (And.intro D.cells.1 (D.cells.2.1))) | (go_at_call 20; (with_reducible refine (SD.out _ hG).mono ?_); rintro e w2 ⟨rfl, hb⟩; replace C := C.keep hb; replace D := D.keep hb; replace hG := hG.below hb; replace hD := hD.below hb; replace K := below_two K hb; clear hb; replace sS := And.intro (And.intro C.cells.1 (C.cells.2.1)) (And.intro D.cells.1 (D.cells.2.1))) | (go_at_call 23; (with_reducible refine (O1.out _ hD).mono ?_); rintro e w2 ⟨rfl, hb⟩; replace C := C.keep hb; replace D := D.keep hb; replace hG := hG.below hb; replace hD := hD.below hb; replace K := below_two K hb; clear hb; replace sS := And.intro (And.intro C.cells.1 (C.cells.2.1)) (And.intro D.cells.1 (D.cells.2.1))) | (go_at_call 22; (with_reducible refine (O2.out _ hD).mono ?_); rintro e w2 ⟨rfl, hb⟩; replace C := C.keep hb; replace D := D.keep hb; replace hG := hG.below hb; replace hD := hD.below hb; replace K := below_two K hb; clear hb; replace sS := And.intro (And.intro C.cells.1 (C.cells.2.1)) (And.intro D.cells.1 (D.cells.2.1)))))
    | fail
  clear sS
  obtain ⟨C0, C1, C2⟩ := C.cells
  obtain ⟨D0, D1, D2⟩ := D.cells
  go_wp2_with fail
  clear SA SB SC SD O1 O2
  clear C0 C1 C2 D0 D1 D2
  clear D hD
  obtain ⟨C0, C1, C2⟩ := C.cells
  obtain ⟨z, hz⟩ : ∃ z, z = netV m gs := ⟨_, rfl⟩
  have P1 : Hid (∀ w', Gates w' (.slice a gs.length c) gs → Calls Try.prog 22 #[.agg #[.int .i64 m, .slice a gs.length c]] w' (fun e w2 => e = .returned (.bool z) ∧ Below w'.heap.size w' w2)) := fun w' h1 => by rw [hz]; exact netOk_spec m _ gs w' h1
  have P2 : Hid (∀ w', Gates w' (.slice a gs.length c) gs → Calls Try.prog 23 #[.agg #[.int .i64 m, .slice a gs.length c]] w' (fun e w2 => e = .returned (.bool z) ∧ Below w'.heap.size w' w2)) := fun w' h1 => by rw [hz]; exact netOk_impl m _ gs w' h1 NG.out wfG.out
  clear hz
  refine (P1.out _ hG).mono ?_; rintro e w3 ⟨rfl, hb⟩
  clear C0 C1 C2
  replace C := C.keep hb
  replace hG := hG.below hb
  replace K := below_two K hb
  clear hb
  obtain ⟨C0, C1, C2⟩ := C.cells
  clear P1
  cases z
  · go_wp2_with fail
    refine (P2.out _ hG).mono ?_; rintro e w4 ⟨rfl, hb⟩
    clear C0 C1 C2
    replace C := C.keep hb
    replace hG := hG.below hb
    replace K := below_two K hb
    clear hb
    obtain ⟨C0, C1, C2⟩ := C.cells
    go_wp2_with fail
    go_ret
    exact ⟨rfl, K⟩
  clear P2
  have hw1 : IntKind.i64.wrap (2 + m) = 2 + m := IntWalk.i64_in _ (by omega)
  have hw2 : IntKind.i64.wrap (2 + m + gs.length) = 2 + m + gs.length := IntWalk.i64_in _ (by omega)
  rcases NG.out with e1 | ⟨bb, len1, cap1, e1⟩
  · simp only [Value.slice.injEq] at e1
    obtain ⟨rfl, e2, rfl⟩ := e1
    obtain rfl : gs = [] := List.length_eq_zero_iff.1 e2
    rw [List.length_nil] at *
    clear e2
    go_upto_region 10 with fail
    obtain ⟨VA, hVA⟩ : ∃ V, V = w3.alloc (.cells #[.int .i64 m, .slice none 0 0] 39) := ⟨_, rfl⟩
    rw [← hVA]
    have ZA : Blk VA w3.heap.size (.int .i64 m) (.slice none 0 0) 39 := by rw [hVA]; exact blk_new w3 _ _ _
    have BV : Below w3.heap.size w3 VA := by rw [hVA]; exact below_self_alloc w3 _
    clear hVA
    clear C0 C1 C2
    have hlzA : w3.heap.size < VA.heap.size := ZA.lt
    obtain ⟨lA, hlA⟩ : ∃ l : List Gt, l = [] ++ [(false, 2, 2 + m)] := ⟨_, rfl⟩
    replace hlA := Lib.hid hlA
    go_cut [6] (fun s wx => s = .pointer (some ⟨w3.heap.size, 0, none⟩) ∧ ∃ (b2 c2 : Nat), Blk wx w3.heap.size (.int .i64 m) (.slice (some ⟨b2, 0, none⟩) 1 c2) 39 ∧ OwnG wx VA.heap.size (.slice (some ⟨b2, 0, none⟩) 1 c2) lA ∧ Below w3.heap.size w3 wx)
    case first =>
      have hGV := hG.below BV
      obtain ⟨C0, C1, C2⟩ := (C.keep BV).cells
      have own0 : (VA.alloc (.cells #[] 47)).ownsRow VA.heap.size 47 3 (.slice (some ⟨VA.heap.size, 0, none⟩) 0 0) 0 [] := World.ownsRow_lit (e := 47) (size := 3) VA #[] 0 (Nat.le_refl _) (Nat.zero_le _) rfl
      have B0 := below_self_alloc VA (.cells #[] 47)
      obtain ⟨w5, hw5⟩ : ∃ w5, w5 = VA.alloc (.cells #[] 47) := ⟨_, rfl⟩
      have own5 := own0
      have B5 := B0
      rw [← hw5] at own5 B5
      have HW5 := Lib.hid hw5
      clear hw5 hGV
      have own5a : ((VA.alloc (.cells #[] 47)).alloc (.cells #[.bool false, .int .i64 2, .int .i64 (2 + m)] 47)).ownsRow VA.heap.size 47 3 (.slice (some ⟨VA.heap.size, 0, none⟩) 0 0) 0 (gflat []) := World.ownsRow.alloc own0 _
      clear own5
      have hs5 := B0.size
      go_wp2_with (at_builtin; refine wpList_append_lies _ rfl _ _ _ rfl VA.heap.size 47 i0 (.agg #[.bool false, .int .i64 0, .int .i64 0]) 3 24 Try.underlying37 hi hz0 hz1 hz2 rfl (by omega) (.slice (some ⟨VA.heap.size, 0, none⟩) 0 0) 0 (gflat []) (by rfl) own5a ⟨VA.heap.size + 1, 0, none⟩ 1 1 [.bool false, .int .i64 2, .int .i64 (2 + m)] rfl rfl (by have := World.news_of_block (heap_alloc_new (VA.alloc (.cells #[] 47)) (.cells #[.bool false, .int .i64 2, .int .i64 (2 + m)] 47)); simpa using this) (by simp [Value.oneCell']) (by omega) (by unfold maxLen; omega) (by omega) (by simp; omega) _ rfl ?_)
      intro b6 cap6 w6 own6 hg6 hat6 hlt6
      have B6 : Below VA.heap.size VA w6 := below_grows (below_step B0 (.cells #[.bool false, .int .i64 2, .int .i64 (2 + m)] 47)) hg6 (fun q hq => (own5a.lt q hq).1)
      have Z6 := ZA.keep B6
      obtain ⟨E0, E1, _⟩ := Z6.cells; obtain ⟨F0, F1⟩ := Z6.frozen
      have Y6 := Z6.set1 (.slice (some ⟨b6, 0, none⟩) 1 cap6)
      have own7 : OwnG (w6.setCell ⟨w3.heap.size, 1, none⟩ (.slice (some ⟨b6, 0, none⟩) 1 cap6)) VA.heap.size (.slice (some ⟨b6, 0, none⟩) 1 cap6) lA := by rw [hlA.out]; exact putSnoc (g := (false, 2, 2 + m)) (gs := []) (Go.RowKit.ownsRow_setCell_below own6 (a := ⟨w3.heap.size, 1, none⟩) hlzA (.slice (some ⟨b6, 0, none⟩) 1 cap6))
      have BX : Below w3.heap.size w3 (w6.setCell ⟨w3.heap.size, 1, none⟩ (.slice (some ⟨b6, 0, none⟩) 1 cap6)) := (below_two BV B6).setCell (p := ⟨w3.heap.size, 1, none⟩) (Nat.le_refl _) (.slice (some ⟨b6, 0, none⟩) 1 cap6)
      replace own7 := Lib.hid own7; replace BX := Lib.hid BX; replace Y6 := Lib.hid Y6
      clear own5a hg6 hat6 hlt6 own6 Z6 hs5 B5 B6
      go_wp2_with fail
      go_meet
      exact ⟨rfl, _, _, Y6.out, own7.out, BX.out⟩
    case rest =>
      obtain ⟨rfl, bA, cA, YA, ownA, BX⟩ := hcut
      obtain ⟨uA, rfl⟩ : ∃ x, x = wc := ⟨_, rfl⟩
      replace C := C.keep BX
      replace hG := hG.below BX
      replace K := below_two K BX
      clear BX BV hlzA ZA
      obtain ⟨C0, C1, C2⟩ := C.cells
      go_upto_region 12 with fail
      obtain ⟨VB, hVB⟩ : ∃ V, V = uA.alloc (.cells #[.int .i64 m, .slice none 0 0] 39) := ⟨_, rfl⟩
      rw [← hVB]
      have ZB : Blk VB uA.heap.size (.int .i64 m) (.slice none 0 0) 39 := by rw [hVB]; exact blk_new uA _ _ _
      have BV : Below uA.heap.size uA VB := by rw [hVB]; exact below_self_alloc uA _
      clear hVB
      clear C0 C1 C2
      have hlzB : uA.heap.size < VB.heap.size := ZB.lt
      obtain ⟨lB, hlB⟩ : ∃ l : List Gt, l = [] ++ [(false, 2, -2)] := ⟨_, rfl⟩
      replace hlB := Lib.hid hlB
      go_cut [7] (fun s wx => s = .pointer (some ⟨uA.heap.size, 0, none⟩) ∧ ∃ (b2 c2 : Nat), Blk wx uA.heap.size (.int .i64 m) (.slice (some ⟨b2, 0, none⟩) 1 c2) 39 ∧ OwnG wx VB.heap.size (.slice (some ⟨b2, 0, none⟩) 1 c2) lB ∧ Below uA.heap.size uA wx)
      case first =>
        have hGV := hG.below BV
        obtain ⟨C0, C1, C2⟩ := (C.keep BV).cells
        have own0 : (VB.alloc (.cells #[] 47)).ownsRow VB.heap.size 47 3 (.slice (some ⟨VB.heap.size, 0, none⟩) 0 0) 0 [] := World.ownsRow_lit (e := 47) (size := 3) VB #[] 0 (Nat.le_refl _) (Nat.zero_le _) rfl
        have B0 := below_self_alloc VB (.cells #[] 47)
        obtain ⟨w5, hw5⟩ : ∃ w5, w5 = VB.alloc (.cells #[] 47) := ⟨_, rfl⟩
        have own5 := own0
        have B5 := B0
        rw [← hw5] at own5 B5
        have HW5 := Lib.hid hw5
        clear hw5 hGV
        have own5a : ((VB.alloc (.cells #[] 47)).alloc (.cells #[.bool false, .int .i64 2, .int .i64 (-2)] 47)).ownsRow VB.heap.size 47 3 (.slice (some ⟨VB.heap.size, 0, none⟩) 0 0) 0 (gflat []) := World.ownsRow.alloc own0 _
        clear own5
        have hs5 := B0.size
        go_wp2_with (at_builtin; refine wpList_append_lies _ rfl _ _ _ rfl VB.heap.size 47 i0 (.agg #[.bool false, .int .i64 0, .int .i64 0]) 3 24 Try.underlying37 hi hz0 hz1 hz2 rfl (by omega) (.slice (some ⟨VB.heap.size, 0, none⟩) 0 0) 0 (gflat []) (by rfl) own5a ⟨VB.heap.size + 1, 0, none⟩ 1 1 [.bool false, .int .i64 2, .int .i64 (-2)] rfl rfl (by have := World.news_of_block (heap_alloc_new (VB.alloc (.cells #[] 47)) (.cells #[.bool false, .int .i64 2, .int .i64 (-2)] 47)); simpa using this) (by simp [Value.oneCell']) (by omega) (by unfold maxLen; omega) (by omega) (by simp; omega) _ rfl ?_)
        intro b6 cap6 w6 own6 hg6 hat6 hlt6
        have B6 : Below VB.heap.size VB w6 := below_grows (below_step B0 (.cells #[.bool false, .int .i64 2, .int .i64 (-2)] 47)) hg6 (fun q hq => (own5a.lt q hq).1)
        have Z6 := ZB.keep B6
        obtain ⟨E0, E1, _⟩ := Z6.cells; obtain ⟨F0, F1⟩ := Z6.frozen
        have Y6 := Z6.set1 (.slice (some ⟨b6, 0, none⟩) 1 cap6)
        have own7 : OwnG (w6.setCell ⟨uA.heap.size, 1, none⟩ (.slice (some ⟨b6, 0, none⟩) 1 cap6)) VB.heap.size (.slice (some ⟨b6, 0, none⟩) 1 cap6) lB := by rw [hlB.out]; exact putSnoc (g := (false, 2, -2)) (gs := []) (Go.RowKit.ownsRow_setCell_below own6 (a := ⟨uA.heap.size, 1, none⟩) hlzB (.slice (some ⟨b6, 0, none⟩) 1 cap6))
        have BX : Below uA.heap.size uA (w6.setCell ⟨uA.heap.size, 1, none⟩ (.slice (some ⟨b6, 0, none⟩) 1 cap6)) := (below_two BV B6).setCell (p := ⟨uA.heap.size, 1, none⟩) (Nat.le_refl _) (.slice (some ⟨b6, 0, none⟩) 1 cap6)
        replace own7 := Lib.hid own7; replace BX := Lib.hid BX; replace Y6 := Lib.hid Y6
        clear own5a hg6 hat6 hlt6 own6 Z6 hs5 B5 B6
        go_wp2_with fail
        go_meet
        exact ⟨rfl, _, _, Y6.out, own7.out, BX.out⟩
      case rest =>
        obtain ⟨rfl, bB, cB, YB, ownB, BX⟩ := hcut
        obtain ⟨uB, rfl⟩ : ∃ x, x = wc := ⟨_, rfl⟩
        replace C := C.keep BX
        replace YA := YA.keep BX
        replace hG := hG.below BX
        replace ownA := OwnG.below ownA BX
        replace K := below_two K BX
        clear BX BV hlzB ZB
        obtain ⟨C0, C1, C2⟩ := C.cells
        go_upto_region 14 with fail
        obtain ⟨VE, hVE⟩ : ∃ V, V = uB.alloc (.cells #[.int .i64 m, .slice none 0 0] 39) := ⟨_, rfl⟩
        rw [← hVE]
        have ZE : Blk VE uB.heap.size (.int .i64 m) (.slice none 0 0) 39 := by rw [hVE]; exact blk_new uB _ _ _
        have BV : Below uB.heap.size uB VE := by rw [hVE]; exact below_self_alloc uB _
        clear hVE
        clear C0 C1 C2
        have hlzE : uB.heap.size < VE.heap.size := ZE.lt
        obtain ⟨lE, hlE⟩ : ∃ l : List Gt, l = [] ++ [(false, 1, 2)] := ⟨_, rfl⟩
        replace hlE := Lib.hid hlE
        go_cut [8] (fun s wx => s = .pointer (some ⟨uB.heap.size, 0, none⟩) ∧ ∃ (b2 c2 : Nat), Blk wx uB.heap.size (.int .i64 m) (.slice (some ⟨b2, 0, none⟩) 1 c2) 39 ∧ OwnG wx VE.heap.size (.slice (some ⟨b2, 0, none⟩) 1 c2) lE ∧ Below uB.heap.size uB wx)
        case first =>
          have hGV := hG.below BV
          obtain ⟨C0, C1, C2⟩ := (C.keep BV).cells
          have own0 : (VE.alloc (.cells #[] 47)).ownsRow VE.heap.size 47 3 (.slice (some ⟨VE.heap.size, 0, none⟩) 0 0) 0 [] := World.ownsRow_lit (e := 47) (size := 3) VE #[] 0 (Nat.le_refl _) (Nat.zero_le _) rfl
          have B0 := below_self_alloc VE (.cells #[] 47)
          obtain ⟨w5, hw5⟩ : ∃ w5, w5 = VE.alloc (.cells #[] 47) := ⟨_, rfl⟩
          have own5 := own0
          have B5 := B0
          rw [← hw5] at own5 B5
          have HW5 := Lib.hid hw5
          clear hw5 hGV
          have own5a : ((VE.alloc (.cells #[] 47)).alloc (.cells #[.bool false, .int .i64 1, .int .i64 2] 47)).ownsRow VE.heap.size 47 3 (.slice (some ⟨VE.heap.size, 0, none⟩) 0 0) 0 (gflat []) := World.ownsRow.alloc own0 _
          clear own5
          have hs5 := B0.size
          go_wp2_with (at_builtin; refine wpList_append_lies _ rfl _ _ _ rfl VE.heap.size 47 i0 (.agg #[.bool false, .int .i64 0, .int .i64 0]) 3 24 Try.underlying37 hi hz0 hz1 hz2 rfl (by omega) (.slice (some ⟨VE.heap.size, 0, none⟩) 0 0) 0 (gflat []) (by rfl) own5a ⟨VE.heap.size + 1, 0, none⟩ 1 1 [.bool false, .int .i64 1, .int .i64 2] rfl rfl (by have := World.news_of_block (heap_alloc_new (VE.alloc (.cells #[] 47)) (.cells #[.bool false, .int .i64 1, .int .i64 2] 47)); simpa using this) (by simp [Value.oneCell']) (by omega) (by unfold maxLen; omega) (by omega) (by simp; omega) _ rfl ?_)
          intro b6 cap6 w6 own6 hg6 hat6 hlt6
          have B6 : Below VE.heap.size VE w6 := below_grows (below_step B0 (.cells #[.bool false, .int .i64 1, .int .i64 2] 47)) hg6 (fun q hq => (own5a.lt q hq).1)
          have Z6 := ZE.keep B6
          obtain ⟨E0, E1, _⟩ := Z6.cells; obtain ⟨F0, F1⟩ := Z6.frozen
          have Y6 := Z6.set1 (.slice (some ⟨b6, 0, none⟩) 1 cap6)
          have own7 : OwnG (w6.setCell ⟨uB.heap.size, 1, none⟩ (.slice (some ⟨b6, 0, none⟩) 1 cap6)) VE.heap.size (.slice (some ⟨b6, 0, none⟩) 1 cap6) lE := by rw [hlE.out]; exact putSnoc (g := (false, 1, 2)) (gs := []) (Go.RowKit.ownsRow_setCell_below own6 (a := ⟨uB.heap.size, 1, none⟩) hlzE (.slice (some ⟨b6, 0, none⟩) 1 cap6))
          have BX : Below uB.heap.size uB (w6.setCell ⟨uB.heap.size, 1, none⟩ (.slice (some ⟨b6, 0, none⟩) 1 cap6)) := (below_two BV B6).setCell (p := ⟨uB.heap.size, 1, none⟩) (Nat.le_refl _) (.slice (some ⟨b6, 0, none⟩) 1 cap6)
          replace own7 := Lib.hid own7; replace BX := Lib.hid BX; replace Y6 := Lib.hid Y6
          clear own5a hg6 hat6 hlt6 own6 Z6 hs5 B5 B6
          go_wp2_with fail
          go_meet
          exact ⟨rfl, _, _, Y6.out, own7.out, BX.out⟩
        case rest =>
          obtain ⟨rfl, bE, cE, YE, ownE, BX⟩ := hcut
          obtain ⟨uE, rfl⟩ : ∃ x, x = wc := ⟨_, rfl⟩
          replace C := C.keep BX
          replace YA := YA.keep BX
          replace YB := YB.keep BX
          replace hG := hG.below BX
          replace ownA := OwnG.below ownA BX
          replace ownB := OwnG.below ownB BX
          replace K := below_two K BX
          clear BX BV hlzE ZE
          obtain ⟨C0, C1, C2⟩ := C.cells
          go_upto_region 16 with fail
          obtain ⟨VD, hVD⟩ : ∃ V, V = uE.alloc (.cells #[.int .i64 m, .slice none 0 0] 39) := ⟨_, rfl⟩
          rw [← hVD]
          have ZD : Blk VD uE.heap.size (.int .i64 m) (.slice none 0 0) 39 := by rw [hVD]; exact blk_new uE _ _ _
          have BV : Below uE.heap.size uE VD := by rw [hVD]; exact below_self_alloc uE _
          clear hVD
          clear C0 C1 C2
          have hlzD : uE.heap.size < VD.heap.size := ZD.lt
          obtain ⟨dd, hdd⟩ : ∃ dd : List Gt, dd = [] ++ [] := ⟨_, rfl⟩
          replace hdd := Lib.hid hdd
          go_cut [9] (fun s wx => s = .pointer (some ⟨uE.heap.size, 0, none⟩) ∧ ∃ (a2 : Option Addr) (c2 : Nat), Blk wx uE.heap.size (.int .i64 m) (.slice a2 dd.length c2) 39 ∧ OwnG wx VD.heap.size (.slice a2 dd.length c2) dd ∧ Below uE.heap.size uE wx)
          case first =>
            have hGV := (hG.below BV).drew
            have CV := (C.keep BV).drew
            replace ZD := ZD.drew
            have BW := BV.drew
            refine wp_region_noPanic ?_
            refine wp_region_held_drew (S := fun wx : World => wx.cell? ⟨w1.heap.size, 1, none⟩ = some (.slice none 0 0)) (by kernel_rfl) (CV.cells.2.1) (fun hHeld => ?_)
            obtain ⟨V, hV⟩ : ∃ V, V = VD.drew := ⟨_, rfl⟩
            rw [← hV] at hHeld hGV CV ZD BW ⊢
            have hlV : uE.heap.size < V.heap.size := ZD.lt
            have hVV : VD.heap.size ≤ V.heap.size := by rw [hV]; exact Nat.le_refl _
            clear hV
            refine wpAnyH_take (i := 1) (oi := { dst := some 90, op := Go.Op.fieldAddr 39 (Go.Operand.tmp 3) 1, type := 0, pos := _, after := #[], guard := none }) (v := ?_) rfl (by kernel_rfl) (by kernel_rfl) (by kernel_rfl) (fun _ _ _ h => h) (Or.inl ⟨by rfl, ?_⟩) hHeld ?_
            rotate_left
            · (intro wq hSw; (try dsimp only at hSw); (try go_simp); (try with_reducible rfl))
            try simp only [Act.put, List.setIfInBounds_toArray, List.set_cons_zero, List.set_cons_succ]
            refine wpAnyH_take (i := 2) (oi := { dst := some 91, op := Go.Op.load 37 (Go.Operand.tmp 90), type := 37, pos := _, after := #[{ on := 1, ground := Go.Ground.data }], guard := none }) (v := ?_) rfl (by kernel_rfl) (by kernel_rfl) (by kernel_rfl) (fun _ _ _ h => h) (Or.inl ⟨by rfl, ?_⟩) hHeld ?_
            rotate_left
            · (intro wq hSw; (try dsimp only at hSw); (try go_simp); (try with_reducible rfl))
            try simp only [Act.put, List.setIfInBounds_toArray, List.set_cons_zero, List.set_cons_succ]
            refine wpAnyH_take (i := 4) (oi := { dst := some 93, op := Go.Op.fieldAddr 39 (Go.Operand.tmp 3) 1, type := 0, pos := _, after := #[], guard := none }) (v := ?_) rfl (by kernel_rfl) (by kernel_rfl) (by kernel_rfl) (fun _ _ _ h => h) (Or.inl ⟨by rfl, ?_⟩) hHeld ?_
            rotate_left
            · (intro wq hSw; (try dsimp only at hSw); (try go_simp); (try with_reducible rfl))
            try simp only [Act.put, List.setIfInBounds_toArray, List.set_cons_zero, List.set_cons_succ]
            refine wpAnyH_take (i := 5) (oi := { dst := some 94, op := Go.Op.load 37 (Go.Operand.tmp 93), type := 37, pos := _, after := #[{ on := 4, ground := Go.Ground.data }], guard := none }) (v := ?_) rfl (by kernel_rfl) (by kernel_rfl) (by kernel_rfl) (fun _ _ _ h => h) (Or.inl ⟨by rfl, ?_⟩) hHeld ?_
            rotate_left
            · (intro wq hSw; (try dsimp only at hSw); (try go_simp); (try with_reducible rfl))
            try simp only [Act.put, List.setIfInBounds_toArray, List.set_cons_zero, List.set_cons_succ]
            have own0 : (V.alloc (.cells #[] 47)).ownsRow V.heap.size 47 3 (.slice (some ⟨V.heap.size, 0, none⟩) 0 0) 0 [] := World.ownsRow_lit (e := 47) (size := 3) V #[] 0 (Nat.le_refl _) (Nat.zero_le _) rfl
            have B0 := below_self_alloc V (.cells #[] 47)
            have C0 := CV.keep B0
            refine wpAnyH_ready (rs := [0]) (by kernel_rfl) (by simp) ?_
            refine AllReadyH.cons (o := { dst := some 89, op := Go.Op.buildSlice 37 0 #[], type := 37, pos := _, after := #[], guard := none }) rfl (fun KK hKK => ?_) AllReadyH.nil
            go_simp
            refine hKK.out _ _ (C0.cells.2.1) (fun hHeld => ?_)
            clear hKK KK
            try simp only [Act.put, List.setIfInBounds_toArray, List.set_cons_zero, List.set_cons_succ]
            refine wpAnyH_ready (rs := [3]) (by kernel_rfl) (by simp) ?_
            refine AllReadyH.cons (o := { dst := some 92, op := Go.Op.call { callee := Go.Callee.builtin Go.Builtin.append, args := #[Go.Operand.tmp 89, Go.Operand.tmp 91], argTypes := #[37, 37] }, type := 37, pos := _, after := #[{ on := 0, ground := Go.Ground.data }, { on := 2, ground := Go.Ground.data }], guard := none }) rfl (fun KK hKK => ?_) AllReadyH.nil
            refine step_append_none _ rfl (.tmp 89) (.tmp 91) _ rfl V.heap.size 47 i0 3 Try.underlying37 hi (.slice (some ⟨V.heap.size, 0, none⟩) 0 0) 0 [] (by rfl) own0 (by rfl) ?_
            have C5 := C0
            try go_simp
            refine hKK.out _ _ (C5.cells.2.1) (fun hHeld => ?_)
            clear hKK KK
            try simp only [Act.put, List.setIfInBounds_toArray, List.set_cons_zero, List.set_cons_succ]
            refine wpAnyH_ready (rs := [6]) (by kernel_rfl) (by simp) ?_
            refine AllReadyH.cons (o := { dst := some 95, op := Go.Op.call { callee := Go.Callee.builtin Go.Builtin.append, args := #[Go.Operand.tmp 92, Go.Operand.tmp 94], argTypes := #[37, 37] }, type := 37, pos := _, after := #[{ on := 3, ground := Go.Ground.data }, { on := 5, ground := Go.Ground.data }, { on := 3, ground := Go.Ground.chain }], guard := none }) rfl (fun KK hKK => ?_) AllReadyH.nil
            refine step_append_none _ rfl (.tmp 92) (.tmp 94) _ rfl V.heap.size 47 i0 3 Try.underlying37 hi (.slice (some ⟨V.heap.size, 0, none⟩) 0 0) 0 [] (by rfl) own0 (by rfl) ?_
            obtain ⟨w6, hw6⟩ : ∃ w6, w6 = V.alloc (.cells #[] 47) := ⟨_, rfl⟩
            rw [← hw6] at own0 B0 C0 C5 ⊢
            clear hw6
            have B6 := B0
            have own7 : OwnG w6 V.heap.size (.slice (some ⟨V.heap.size, 0, none⟩) 0 0) dd := by rw [hdd.out]; exact own0
            have hd0 : dd.length = 0 := by rw [hdd.out]; rfl
            replace hd0 := Lib.hid hd0
            clear own0 B0 C5
            have Z6 := ZD.keep B6
            obtain ⟨E0, E1, _⟩ := Z6.cells; obtain ⟨F0, F1⟩ := Z6.frozen
            have C6 := (CV.keep B6)
            have C6s := C6.set_other (p := ⟨uE.heap.size, 1, none⟩) (z := (.slice (some ⟨V.heap.size, 0, none⟩) 0 0)) (by show w1.heap.size ≠ uE.heap.size; have := C.lt; omega)
            try go_simp
            refine hKK.out _ _ (C6.cells.2.1) (fun hHeld => ?_)
            clear hKK KK
            try simp only [Act.put, List.setIfInBounds_toArray, List.set_cons_zero, List.set_cons_succ]
            refine wpAnyH_take (i := 7) (oi := { dst := some 96, op := Go.Op.fieldAddr 39 (Go.Operand.tmp 9) 1, type := 0, pos := _, after := #[{ on := 0, ground := Go.Ground.phase }, { on := 1, ground := Go.Ground.phase }, { on := 2, ground := Go.Ground.phase }, { on := 3, ground := Go.Ground.phase }, { on := 4, ground := Go.Ground.phase }, { on := 5, ground := Go.Ground.phase }, { on := 6, ground := Go.Ground.phase }], guard := none }) (v := ?_) rfl (by kernel_rfl) (by kernel_rfl) (by kernel_rfl) (fun _ _ _ h => h) (Or.inl ⟨by rfl, ?_⟩) hHeld ?_
            rotate_left
            · (intro wq hSw; (try dsimp only at hSw); (try go_simp); (try with_reducible rfl))
            try simp only [Act.put, List.setIfInBounds_toArray, List.set_cons_zero, List.set_cons_succ]
            refine wpAnyH_ready (rs := [8]) (by kernel_rfl) (by simp) ?_
            refine AllReadyH.cons (o := { dst := none, op := Go.Op.store 37 (Go.Operand.tmp 96) (Go.Operand.tmp 95), type := 0, pos := _, after := #[{ on := 7, ground := Go.Ground.data }, { on := 6, ground := Go.Ground.data }, { on := 6, ground := Go.Ground.chain }, { on := 0, ground := Go.Ground.phase }, { on := 1, ground := Go.Ground.phase }, { on := 2, ground := Go.Ground.phase }, { on := 3, ground := Go.Ground.phase }, { on := 4, ground := Go.Ground.phase }, { on := 5, ground := Go.Ground.phase }, { on := 6, ground := Go.Ground.phase }], guard := none }) rfl (fun KK hKK => ?_) AllReadyH.nil
            go_simp
            refine hKK.out _ _ (C6s.cells.2.1) (fun hHeld => ?_)
            clear hKK KK
            try simp only [Act.put, List.setIfInBounds_toArray, List.set_cons_zero, List.set_cons_succ]
            refine wpAnyH_done (by kernel_rfl) ?_ _
            refine NoPanic.normal ?_
            clear E0 E1 F0 F1 hHeld C6 C6s
            have Y6 := Z6.set1 (.slice (some ⟨V.heap.size, 0, none⟩) 0 0)
            have own8 : OwnG (w6.setCell ⟨uE.heap.size, 1, none⟩ (.slice (some ⟨V.heap.size, 0, none⟩) 0 0)) VD.heap.size (.slice (some ⟨V.heap.size, 0, none⟩) 0 0) dd := OwnG.le (Go.RowKit.ownsRow_setCell_below own7 (a := ⟨uE.heap.size, 1, none⟩) hlV (.slice (some ⟨V.heap.size, 0, none⟩) 0 0)) hVV
            have BX : Below uE.heap.size uE (w6.setCell ⟨uE.heap.size, 1, none⟩ (.slice (some ⟨V.heap.size, 0, none⟩) 0 0)) := (below_two BW B6).setCell (p := ⟨uE.heap.size, 1, none⟩) (Nat.le_refl _) (.slice (some ⟨V.heap.size, 0, none⟩) 0 0)
            replace own8 := Lib.hid own8; replace BX := Lib.hid BX; replace Y6 := Lib.hid Y6
            clear own7 Z6 B6 hGV CV ZD BW
            go_wp2_with fail
            go_meet
            exact ⟨rfl, some ⟨V.heap.size, 0, none⟩, 0, by rw [hd0.out]; exact Y6.out, by rw [hd0.out]; exact own8.out, BX.out⟩
          case rest =>
            obtain ⟨rfl, aD, cD, YD, ownD, BX⟩ := hcut
            obtain ⟨uD, rfl⟩ : ∃ x, x = wc := ⟨_, rfl⟩
            replace C := C.keep BX
            replace YA := YA.keep BX
            replace YB := YB.keep BX
            replace YE := YE.keep BX
            replace hG := hG.below BX
            replace ownA := OwnG.below ownA BX
            replace ownB := OwnG.below ownB BX
            replace ownE := OwnG.below ownE BX
            replace K := below_two K BX
            clear BX BV hlzD ZD
            have QA : Hid (∀ w' x, Gates w' x lA → NilOrB x → Calls Try.prog 23 #[.agg #[.int .i64 m, x]] w' (fun e w2 => e = .returned (.bool false) ∧ Below w'.heap.size w' w2)) := fun w' x h1 h2 => (netOk_impl m x _ w' h1 h2 (by rw [hlA.out]; exact wfG.out.snoc ⟨wf_in ⟨by dsimp only; omega, by dsimp only; omega⟩, wf_in ⟨by dsimp only; omega, by dsimp only; omega⟩⟩)).mono (by rintro e w2 ⟨rfl, hb⟩; rw [hlA.out, bad_last (by have := ok_a (m := m) (n := 0); simpa using this)]; exact ⟨rfl, hb⟩)
            have QB : Hid (∀ w' x, Gates w' x lB → NilOrB x → Calls Try.prog 23 #[.agg #[.int .i64 m, x]] w' (fun e w2 => e = .returned (.bool false) ∧ Below w'.heap.size w' w2)) := fun w' x h1 h2 => (netOk_impl m x _ w' h1 h2 (by rw [hlB.out]; exact wfG.out.snoc ⟨wf_in ⟨by decide, by decide⟩, wf_in ⟨by decide, by decide⟩⟩)).mono (by rintro e w2 ⟨rfl, hb⟩; rw [hlB.out, bad_last (ok_b)]; exact ⟨rfl, hb⟩)
            have QE : Hid (∀ w' x, Gates w' x lE → NilOrB x → Calls Try.prog 23 #[.agg #[.int .i64 m, x]] w' (fun e w2 => e = .returned (.bool false) ∧ Below w'.heap.size w' w2)) := fun w' x h1 h2 => (netOk_impl m x _ w' h1 h2 (by rw [hlE.out]; exact wfG.out.snoc ⟨wf_in ⟨by decide, by decide⟩, wf_in ⟨by decide, by decide⟩⟩)).mono (by rintro e w2 ⟨rfl, hb⟩; rw [hlE.out, bad_last (ok_c)]; exact ⟨rfl, hb⟩)
            have QS : Hid (∀ w' x y, Gates w' x [] → Gates w' y lA → Calls Try.prog 20 #[.agg #[.int .i64 m, x], .agg #[.int .i64 m, y]] w' (fun e w2 => e = .returned (.bool false) ∧ Below w'.heap.size w' w2)) := fun w' x y h1 h2 => (netSame_impl m x _ m y _ w' h1 h2).mono (by rintro e w2 ⟨rfl, hb⟩; rw [hlA.out, sameN_longer]; exact ⟨rfl, hb⟩)
            have gA := ownA.gates
            have nA : NilOrB (.slice (some ⟨bA, 0, none⟩) 1 cA) := .inr ⟨_, _, _, rfl⟩
            have gB := ownB.gates
            have nB : NilOrB (.slice (some ⟨bB, 0, none⟩) 1 cB) := .inr ⟨_, _, _, rfl⟩
            have gE := ownE.gates
            have nE : NilOrB (.slice (some ⟨bE, 0, none⟩) 1 cE) := .inr ⟨_, _, _, rfl⟩
            have gD := ownD.gates
            have nD := nilOrB_own ownD
            clear ownA ownB ownE ownD wfG NG
            obtain ⟨C0, C1, C2⟩ := C.cells
            obtain ⟨YA0, YA1, YA2⟩ := YA.cells
            obtain ⟨YB0, YB1, YB2⟩ := YB.cells
            obtain ⟨YE0, YE1, YE2⟩ := YE.cells
            obtain ⟨YD0, YD1, YD2⟩ := YD.cells
            go_wp2_with fail
            refine (QA.out _ _ gA nA).mono ?_; rintro e w21 ⟨rfl, hb⟩
            clear C0 C1 C2 YA0 YA1 YA2 YB0 YB1 YB2 YE0 YE1 YE2 YD0 YD1 YD2
            replace C := C.keep hb
            replace YA := YA.keep hb
            replace YB := YB.keep hb
            replace YE := YE.keep hb
            replace YD := YD.keep hb
            replace hG := hG.below hb
            replace gA := gA.below hb
            replace gB := gB.below hb
            replace gE := gE.below hb
            replace gD := gD.below hb
            replace K := below_two K hb
            clear hb
            obtain ⟨C0, C1, C2⟩ := C.cells
            obtain ⟨YA0, YA1, YA2⟩ := YA.cells
            obtain ⟨YB0, YB1, YB2⟩ := YB.cells
            obtain ⟨YE0, YE1, YE2⟩ := YE.cells
            obtain ⟨YD0, YD1, YD2⟩ := YD.cells
            go_wp2_with fail
            refine (QB.out _ _ gB nB).mono ?_; rintro e w22 ⟨rfl, hb⟩
            clear C0 C1 C2 YA0 YA1 YA2 YB0 YB1 YB2 YE0 YE1 YE2 YD0 YD1 YD2
            replace C := C.keep hb
            replace YA := YA.keep hb
            replace YB := YB.keep hb
            replace YE := YE.keep hb
            replace YD := YD.keep hb
            replace hG := hG.below hb
            replace gA := gA.below hb
            replace gB := gB.below hb
            replace gE := gE.below hb
            replace gD := gD.below hb
            replace K := below_two K hb
            clear hb
            obtain ⟨C0, C1, C2⟩ := C.cells
            obtain ⟨YA0, YA1, YA2⟩ := YA.cells
            obtain ⟨YB0, YB1, YB2⟩ := YB.cells
            obtain ⟨YE0, YE1, YE2⟩ := YE.cells
            obtain ⟨YD0, YD1, YD2⟩ := YD.cells
            go_wp2_with fail
            refine (QE.out _ _ gE nE).mono ?_; rintro e w23 ⟨rfl, hb⟩
            clear C0 C1 C2 YA0 YA1 YA2 YB0 YB1 YB2 YE0 YE1 YE2 YD0 YD1 YD2
            replace C := C.keep hb
            replace YA := YA.keep hb
            replace YB := YB.keep hb
            replace YE := YE.keep hb
            replace YD := YD.keep hb
            replace hG := hG.below hb
            replace gA := gA.below hb
            replace gB := gB.below hb
            replace gE := gE.below hb
            replace gD := gD.below hb
            replace K := below_two K hb
            clear hb
            obtain ⟨C0, C1, C2⟩ := C.cells
            obtain ⟨YA0, YA1, YA2⟩ := YA.cells
            obtain ⟨YB0, YB1, YB2⟩ := YB.cells
            obtain ⟨YE0, YE1, YE2⟩ := YE.cells
            obtain ⟨YD0, YD1, YD2⟩ := YD.cells
            go_wp2_with fail
            refine (QS.out _ _ _ hG gA).mono ?_; rintro e w24 ⟨rfl, hb⟩
            clear C0 C1 C2 YA0 YA1 YA2 YB0 YB1 YB2 YE0 YE1 YE2 YD0 YD1 YD2
            replace C := C.keep hb
            replace YA := YA.keep hb
            replace YB := YB.keep hb
            replace YE := YE.keep hb
            replace YD := YD.keep hb
            replace hG := hG.below hb
            replace gA := gA.below hb
            replace gB := gB.below hb
            replace gE := gE.below hb
            replace gD := gD.below hb
            replace K := below_two K hb
            clear hb
            obtain ⟨C0, C1, C2⟩ := C.cells
            obtain ⟨YA0, YA1, YA2⟩ := YA.cells
            obtain ⟨YB0, YB1, YB2⟩ := YB.cells
            obtain ⟨YE0, YE1, YE2⟩ := YE.cells
            obtain ⟨YD0, YD1, YD2⟩ := YD.cells
            go_wp2_with fail
            go_ret
            exact ⟨rfl, K⟩
  · simp only [Value.slice.injEq] at e1
    obtain ⟨rfl, rfl, rfl⟩ := e1
    go_upto_region 10 with fail
    obtain ⟨VA, hVA⟩ : ∃ V, V = w3.alloc (.cells #[.int .i64 m, .slice (some ⟨bb, 0, none⟩) gs.length c] 39) := ⟨_, rfl⟩
    rw [← hVA]
    have ZA : Blk VA w3.heap.size (.int .i64 m) (.slice (some ⟨bb, 0, none⟩) gs.length c) 39 := by rw [hVA]; exact blk_new w3 _ _ _
    have BV : Below w3.heap.size w3 VA := by rw [hVA]; exact below_self_alloc w3 _
    clear hVA
    clear C0 C1 C2
    have hlzA : w3.heap.size < VA.heap.size := ZA.lt
    obtain ⟨lA, hlA⟩ : ∃ l : List Gt, l = gs ++ [(false, 2, 2 + m + gs.length)] := ⟨_, rfl⟩
    replace hlA := Lib.hid hlA
    go_cut [6] (fun s wx => s = .pointer (some ⟨w3.heap.size, 0, none⟩) ∧ ∃ (b2 c2 : Nat), Blk wx w3.heap.size (.int .i64 m) (.slice (some ⟨b2, 0, none⟩) (gs.length + 1) c2) 39 ∧ OwnG wx VA.heap.size (.slice (some ⟨b2, 0, none⟩) (gs.length + 1) c2) lA ∧ Below w3.heap.size w3 wx)
    case first =>
      have hGV := hG.below BV
      obtain ⟨C0, C1, C2⟩ := (C.keep BV).cells
      have own0 : (VA.alloc (.cells #[] 47)).ownsRow VA.heap.size 47 3 (.slice (some ⟨VA.heap.size, 0, none⟩) 0 0) 0 [] := World.ownsRow_lit (e := 47) (size := 3) VA #[] 0 (Nat.le_refl _) (Nat.zero_le _) rfl
      have B0 := below_self_alloc VA (.cells #[] 47)
      have hnew := Lib.hid (RowS.news3 (hGV.below B0).row)
      have hone := Lib.hid (gflat_one gs)
      have hlen := Lib.hid (gflat_len gs)
      go_wp2_with (at_builtin; refine wpList_append_own _ rfl _ _ _ rfl VA.heap.size 47 i0 (.agg #[.bool false, .int .i64 0, .int .i64 0]) 3 24 Try.underlying37 hi hz0 hz1 hz2 rfl (by omega) _ 0 [] rfl own0 ⟨bb, 0, none⟩ gs.length c (gflat gs) rfl hlen.out hnew.out hone.out (by unfold maxLen; omega) (by omega) (by simp) ?_)
      intro v5 w5 own5 hg5 hat5
      have B5 : Below VA.heap.size VA w5 := below_grows B0 hg5 (fun q hq => (own0.lt q hq).1)
      clear hg5 hat5 hnew hone hlen own0 B0 hGV
      have own5a : (w5.alloc (.cells #[.bool false, .int .i64 2, .int .i64 (2 + m + gs.length)] 47)).ownsRow VA.heap.size 47 3 v5 gs.length (gflat gs) := World.ownsRow.alloc own5 _
      clear own5
      have hs5 := B5.size
      go_wp2_with (at_builtin; refine wpList_append_lies _ rfl _ _ _ rfl VA.heap.size 47 i0 (.agg #[.bool false, .int .i64 0, .int .i64 0]) 3 24 Try.underlying37 hi hz0 hz1 hz2 rfl (by omega) v5 gs.length (gflat gs) (by rfl) own5a ⟨w5.heap.size, 0, none⟩ 1 1 [.bool false, .int .i64 2, .int .i64 (2 + m + gs.length)] rfl rfl (World.news_of_block (heap_alloc_new w5 _)) (by simp [Value.oneCell']) (by omega) (by unfold maxLen; omega) (by omega) (by simp; omega) _ rfl ?_)
      intro b6 cap6 w6 own6 hg6 hat6 hlt6
      have B6 : Below VA.heap.size VA w6 := below_grows (below_step B5 (.cells #[.bool false, .int .i64 2, .int .i64 (2 + m + gs.length)] 47)) hg6 (fun q hq => (own5a.lt q hq).1)
      have Z6 := ZA.keep B6
      obtain ⟨E0, E1, _⟩ := Z6.cells; obtain ⟨F0, F1⟩ := Z6.frozen
      have Y6 := Z6.set1 (.slice (some ⟨b6, 0, none⟩) (gs.length + 1) cap6)
      have own7 : OwnG (w6.setCell ⟨w3.heap.size, 1, none⟩ (.slice (some ⟨b6, 0, none⟩) (gs.length + 1) cap6)) VA.heap.size (.slice (some ⟨b6, 0, none⟩) (gs.length + 1) cap6) lA := by rw [hlA.out]; exact putSnoc (g := (false, 2, 2 + m + gs.length)) (gs := gs) (Go.RowKit.ownsRow_setCell_below own6 (a := ⟨w3.heap.size, 1, none⟩) hlzA (.slice (some ⟨b6, 0, none⟩) (gs.length + 1) cap6))
      have BX : Below w3.heap.size w3 (w6.setCell ⟨w3.heap.size, 1, none⟩ (.slice (some ⟨b6, 0, none⟩) (gs.length + 1) cap6)) := (below_two BV B6).setCell (p := ⟨w3.heap.size, 1, none⟩) (Nat.le_refl _) (.slice (some ⟨b6, 0, none⟩) (gs.length + 1) cap6)
      replace own7 := Lib.hid own7; replace BX := Lib.hid BX; replace Y6 := Lib.hid Y6
      clear own5a hg6 hat6 hlt6 own6 Z6 hs5 B5 B6
      go_wp2_with fail
      go_meet
      exact ⟨rfl, _, _, Y6.out, own7.out, BX.out⟩
    case rest =>
      obtain ⟨rfl, bA, cA, YA, ownA, BX⟩ := hcut
      obtain ⟨uA, rfl⟩ : ∃ x, x = wc := ⟨_, rfl⟩
      replace C := C.keep BX
      replace hG := hG.below BX
      replace K := below_two K BX
      clear BX BV hlzA ZA
      obtain ⟨C0, C1, C2⟩ := C.cells
      go_upto_region 12 with fail
      obtain ⟨VB, hVB⟩ : ∃ V, V = uA.alloc (.cells #[.int .i64 m, .slice (some ⟨bb, 0, none⟩) gs.length c] 39) := ⟨_, rfl⟩
      rw [← hVB]
      have ZB : Blk VB uA.heap.size (.int .i64 m) (.slice (some ⟨bb, 0, none⟩) gs.length c) 39 := by rw [hVB]; exact blk_new uA _ _ _
      have BV : Below uA.heap.size uA VB := by rw [hVB]; exact below_self_alloc uA _
      clear hVB
      clear C0 C1 C2
      have hlzB : uA.heap.size < VB.heap.size := ZB.lt
      obtain ⟨lB, hlB⟩ : ∃ l : List Gt, l = gs ++ [(false, 2, -2)] := ⟨_, rfl⟩
      replace hlB := Lib.hid hlB
      go_cut [7] (fun s wx => s = .pointer (some ⟨uA.heap.size, 0, none⟩) ∧ ∃ (b2 c2 : Nat), Blk wx uA.heap.size (.int .i64 m) (.slice (some ⟨b2, 0, none⟩) (gs.length + 1) c2) 39 ∧ OwnG wx VB.heap.size (.slice (some ⟨b2, 0, none⟩) (gs.length + 1) c2) lB ∧ Below uA.heap.size uA wx)
      case first =>
        have hGV := hG.below BV
        obtain ⟨C0, C1, C2⟩ := (C.keep BV).cells
        have own0 : (VB.alloc (.cells #[] 47)).ownsRow VB.heap.size 47 3 (.slice (some ⟨VB.heap.size, 0, none⟩) 0 0) 0 [] := World.ownsRow_lit (e := 47) (size := 3) VB #[] 0 (Nat.le_refl _) (Nat.zero_le _) rfl
        have B0 := below_self_alloc VB (.cells #[] 47)
        have hnew := Lib.hid (RowS.news3 (hGV.below B0).row)
        have hone := Lib.hid (gflat_one gs)
        have hlen := Lib.hid (gflat_len gs)
        go_wp2_with (at_builtin; refine wpList_append_own _ rfl _ _ _ rfl VB.heap.size 47 i0 (.agg #[.bool false, .int .i64 0, .int .i64 0]) 3 24 Try.underlying37 hi hz0 hz1 hz2 rfl (by omega) _ 0 [] rfl own0 ⟨bb, 0, none⟩ gs.length c (gflat gs) rfl hlen.out hnew.out hone.out (by unfold maxLen; omega) (by omega) (by simp) ?_)
        intro v5 w5 own5 hg5 hat5
        have B5 : Below VB.heap.size VB w5 := below_grows B0 hg5 (fun q hq => (own0.lt q hq).1)
        clear hg5 hat5 hnew hone hlen own0 B0 hGV
        have own5a : (w5.alloc (.cells #[.bool false, .int .i64 2, .int .i64 (-2)] 47)).ownsRow VB.heap.size 47 3 v5 gs.length (gflat gs) := World.ownsRow.alloc own5 _
        clear own5
        have hs5 := B5.size
        go_wp2_with (at_builtin; refine wpList_append_lies _ rfl _ _ _ rfl VB.heap.size 47 i0 (.agg #[.bool false, .int .i64 0, .int .i64 0]) 3 24 Try.underlying37 hi hz0 hz1 hz2 rfl (by omega) v5 gs.length (gflat gs) (by rfl) own5a ⟨w5.heap.size, 0, none⟩ 1 1 [.bool false, .int .i64 2, .int .i64 (-2)] rfl rfl (World.news_of_block (heap_alloc_new w5 _)) (by simp [Value.oneCell']) (by omega) (by unfold maxLen; omega) (by omega) (by simp; omega) _ rfl ?_)
        intro b6 cap6 w6 own6 hg6 hat6 hlt6
        have B6 : Below VB.heap.size VB w6 := below_grows (below_step B5 (.cells #[.bool false, .int .i64 2, .int .i64 (-2)] 47)) hg6 (fun q hq => (own5a.lt q hq).1)
        have Z6 := ZB.keep B6
        obtain ⟨E0, E1, _⟩ := Z6.cells; obtain ⟨F0, F1⟩ := Z6.frozen
        have Y6 := Z6.set1 (.slice (some ⟨b6, 0, none⟩) (gs.length + 1) cap6)
        have own7 : OwnG (w6.setCell ⟨uA.heap.size, 1, none⟩ (.slice (some ⟨b6, 0, none⟩) (gs.length + 1) cap6)) VB.heap.size (.slice (some ⟨b6, 0, none⟩) (gs.length + 1) cap6) lB := by rw [hlB.out]; exact putSnoc (g := (false, 2, -2)) (gs := gs) (Go.RowKit.ownsRow_setCell_below own6 (a := ⟨uA.heap.size, 1, none⟩) hlzB (.slice (some ⟨b6, 0, none⟩) (gs.length + 1) cap6))
        have BX : Below uA.heap.size uA (w6.setCell ⟨uA.heap.size, 1, none⟩ (.slice (some ⟨b6, 0, none⟩) (gs.length + 1) cap6)) := (below_two BV B6).setCell (p := ⟨uA.heap.size, 1, none⟩) (Nat.le_refl _) (.slice (some ⟨b6, 0, none⟩) (gs.length + 1) cap6)
        replace own7 := Lib.hid own7; replace BX := Lib.hid BX; replace Y6 := Lib.hid Y6
        clear own5a hg6 hat6 hlt6 own6 Z6 hs5 B5 B6
        go_wp2_with fail
        go_meet
        exact ⟨rfl, _, _, Y6.out, own7.out, BX.out⟩
      case rest =>
        obtain ⟨rfl, bB, cB, YB, ownB, BX⟩ := hcut
        obtain ⟨uB, rfl⟩ : ∃ x, x = wc := ⟨_, rfl⟩
        replace C := C.keep BX
        replace YA := YA.keep BX
        replace hG := hG.below BX
        replace ownA := OwnG.below ownA BX
        replace K := below_two K BX
        clear BX BV hlzB ZB
        obtain ⟨C0, C1, C2⟩ := C.cells
        go_upto_region 14 with fail
        obtain ⟨VE, hVE⟩ : ∃ V, V = uB.alloc (.cells #[.int .i64 m, .slice (some ⟨bb, 0, none⟩) gs.length c] 39) := ⟨_, rfl⟩
        rw [← hVE]
        have ZE : Blk VE uB.heap.size (.int .i64 m) (.slice (some ⟨bb, 0, none⟩) gs.length c) 39 := by rw [hVE]; exact blk_new uB _ _ _
        have BV : Below uB.heap.size uB VE := by rw [hVE]; exact below_self_alloc uB _
        clear hVE
        clear C0 C1 C2
        have hlzE : uB.heap.size < VE.heap.size := ZE.lt
        obtain ⟨lE, hlE⟩ : ∃ l : List Gt, l = gs ++ [(false, 1, 2)] := ⟨_, rfl⟩
        replace hlE := Lib.hid hlE
        go_cut [8] (fun s wx => s = .pointer (some ⟨uB.heap.size, 0, none⟩) ∧ ∃ (b2 c2 : Nat), Blk wx uB.heap.size (.int .i64 m) (.slice (some ⟨b2, 0, none⟩) (gs.length + 1) c2) 39 ∧ OwnG wx VE.heap.size (.slice (some ⟨b2, 0, none⟩) (gs.length + 1) c2) lE ∧ Below uB.heap.size uB wx)
        case first =>
          have hGV := hG.below BV
          obtain ⟨C0, C1, C2⟩ := (C.keep BV).cells
          have own0 : (VE.alloc (.cells #[] 47)).ownsRow VE.heap.size 47 3 (.slice (some ⟨VE.heap.size, 0, none⟩) 0 0) 0 [] := World.ownsRow_lit (e := 47) (size := 3) VE #[] 0 (Nat.le_refl _) (Nat.zero_le _) rfl
          have B0 := below_self_alloc VE (.cells #[] 47)
          have hnew := Lib.hid (RowS.news3 (hGV.below B0).row)
          have hone := Lib.hid (gflat_one gs)
          have hlen := Lib.hid (gflat_len gs)
          go_wp2_with (at_builtin; refine wpList_append_own _ rfl _ _ _ rfl VE.heap.size 47 i0 (.agg #[.bool false, .int .i64 0, .int .i64 0]) 3 24 Try.underlying37 hi hz0 hz1 hz2 rfl (by omega) _ 0 [] rfl own0 ⟨bb, 0, none⟩ gs.length c (gflat gs) rfl hlen.out hnew.out hone.out (by unfold maxLen; omega) (by omega) (by simp) ?_)
          intro v5 w5 own5 hg5 hat5
          have B5 : Below VE.heap.size VE w5 := below_grows B0 hg5 (fun q hq => (own0.lt q hq).1)
          clear hg5 hat5 hnew hone hlen own0 B0 hGV
          have own5a : (w5.alloc (.cells #[.bool false, .int .i64 1, .int .i64 2] 47)).ownsRow VE.heap.size 47 3 v5 gs.length (gflat gs) := World.ownsRow.alloc own5 _
          clear own5
          have hs5 := B5.size
          go_wp2_with (at_builtin; refine wpList_append_lies _ rfl _ _ _ rfl VE.heap.size 47 i0 (.agg #[.bool false, .int .i64 0, .int .i64 0]) 3 24 Try.underlying37 hi hz0 hz1 hz2 rfl (by omega) v5 gs.length (gflat gs) (by rfl) own5a ⟨w5.heap.size, 0, none⟩ 1 1 [.bool false, .int .i64 1, .int .i64 2] rfl rfl (World.news_of_block (heap_alloc_new w5 _)) (by simp [Value.oneCell']) (by omega) (by unfold maxLen; omega) (by omega) (by simp; omega) _ rfl ?_)
          intro b6 cap6 w6 own6 hg6 hat6 hlt6
          have B6 : Below VE.heap.size VE w6 := below_grows (below_step B5 (.cells #[.bool false, .int .i64 1, .int .i64 2] 47)) hg6 (fun q hq => (own5a.lt q hq).1)
          have Z6 := ZE.keep B6
          obtain ⟨E0, E1, _⟩ := Z6.cells; obtain ⟨F0, F1⟩ := Z6.frozen
          have Y6 := Z6.set1 (.slice (some ⟨b6, 0, none⟩) (gs.length + 1) cap6)
          have own7 : OwnG (w6.setCell ⟨uB.heap.size, 1, none⟩ (.slice (some ⟨b6, 0, none⟩) (gs.length + 1) cap6)) VE.heap.size (.slice (some ⟨b6, 0, none⟩) (gs.length + 1) cap6) lE := by rw [hlE.out]; exact putSnoc (g := (false, 1, 2)) (gs := gs) (Go.RowKit.ownsRow_setCell_below own6 (a := ⟨uB.heap.size, 1, none⟩) hlzE (.slice (some ⟨b6, 0, none⟩) (gs.length + 1) cap6))
          have BX : Below uB.heap.size uB (w6.setCell ⟨uB.heap.size, 1, none⟩ (.slice (some ⟨b6, 0, none⟩) (gs.length + 1) cap6)) := (below_two BV B6).setCell (p := ⟨uB.heap.size, 1, none⟩) (Nat.le_refl _) (.slice (some ⟨b6, 0, none⟩) (gs.length + 1) cap6)
          replace own7 := Lib.hid own7; replace BX := Lib.hid BX; replace Y6 := Lib.hid Y6
          clear own5a hg6 hat6 hlt6 own6 Z6 hs5 B5 B6
          go_wp2_with fail
          go_meet
          exact ⟨rfl, _, _, Y6.out, own7.out, BX.out⟩
        case rest =>
          obtain ⟨rfl, bE, cE, YE, ownE, BX⟩ := hcut
          obtain ⟨uE, rfl⟩ : ∃ x, x = wc := ⟨_, rfl⟩
          replace C := C.keep BX
          replace YA := YA.keep BX
          replace YB := YB.keep BX
          replace hG := hG.below BX
          replace ownA := OwnG.below ownA BX
          replace ownB := OwnG.below ownB BX
          replace K := below_two K BX
          clear BX BV hlzE ZE
          obtain ⟨C0, C1, C2⟩ := C.cells
          go_upto_region 16 with fail
          obtain ⟨VD, hVD⟩ : ∃ V, V = uE.alloc (.cells #[.int .i64 m, .slice (some ⟨bb, 0, none⟩) gs.length c] 39) := ⟨_, rfl⟩
          rw [← hVD]
          have ZD : Blk VD uE.heap.size (.int .i64 m) (.slice (some ⟨bb, 0, none⟩) gs.length c) 39 := by rw [hVD]; exact blk_new uE _ _ _
          have BV : Below uE.heap.size uE VD := by rw [hVD]; exact below_self_alloc uE _
          clear hVD
          clear C0 C1 C2
          have hlzD : uE.heap.size < VD.heap.size := ZD.lt
          obtain ⟨dd, hdd⟩ : ∃ dd : List Gt, dd = gs ++ gs := ⟨_, rfl⟩
          replace hdd := Lib.hid hdd
          go_cut [9] (fun s wx => s = .pointer (some ⟨uE.heap.size, 0, none⟩) ∧ ∃ (a2 : Option Addr) (c2 : Nat), Blk wx uE.heap.size (.int .i64 m) (.slice a2 dd.length c2) 39 ∧ OwnG wx VD.heap.size (.slice a2 dd.length c2) dd ∧ Below uE.heap.size uE wx)
          case first =>
            have hGV := (hG.below BV).drew
            have CV := (C.keep BV).drew
            replace ZD := ZD.drew
            have BW := BV.drew
            refine wp_region_noPanic ?_
            refine wp_region_held_drew (S := fun wx : World => wx.cell? ⟨w1.heap.size, 1, none⟩ = some (.slice (some ⟨bb, 0, none⟩) gs.length c)) (by kernel_rfl) (CV.cells.2.1) (fun hHeld => ?_)
            obtain ⟨V, hV⟩ : ∃ V, V = VD.drew := ⟨_, rfl⟩
            rw [← hV] at hHeld hGV CV ZD BW ⊢
            have hlV : uE.heap.size < V.heap.size := ZD.lt
            have hVV : VD.heap.size ≤ V.heap.size := by rw [hV]; exact Nat.le_refl _
            clear hV
            refine wpAnyH_take (i := 1) (oi := { dst := some 90, op := Go.Op.fieldAddr 39 (Go.Operand.tmp 3) 1, type := 0, pos := _, after := #[], guard := none }) (v := ?_) rfl (by kernel_rfl) (by kernel_rfl) (by kernel_rfl) (fun _ _ _ h => h) (Or.inl ⟨by rfl, ?_⟩) hHeld ?_
            rotate_left
            · (intro wq hSw; (try dsimp only at hSw); (try go_simp); (try with_reducible rfl))
            try simp only [Act.put, List.setIfInBounds_toArray, List.set_cons_zero, List.set_cons_succ]
            refine wpAnyH_take (i := 2) (oi := { dst := some 91, op := Go.Op.load 37 (Go.Operand.tmp 90), type := 37, pos := _, after := #[{ on := 1, ground := Go.Ground.data }], guard := none }) (v := ?_) rfl (by kernel_rfl) (by kernel_rfl) (by kernel_rfl) (fun _ _ _ h => h) (Or.inl ⟨by rfl, ?_⟩) hHeld ?_
            rotate_left
            · (intro wq hSw; (try dsimp only at hSw); (try go_simp); (try with_reducible rfl))
            try simp only [Act.put, List.setIfInBounds_toArray, List.set_cons_zero, List.set_cons_succ]
            refine wpAnyH_take (i := 4) (oi := { dst := some 93, op := Go.Op.fieldAddr 39 (Go.Operand.tmp 3) 1, type := 0, pos := _, after := #[], guard := none }) (v := ?_) rfl (by kernel_rfl) (by kernel_rfl) (by kernel_rfl) (fun _ _ _ h => h) (Or.inl ⟨by rfl, ?_⟩) hHeld ?_
            rotate_left
            · (intro wq hSw; (try dsimp only at hSw); (try go_simp); (try with_reducible rfl))
            try simp only [Act.put, List.setIfInBounds_toArray, List.set_cons_zero, List.set_cons_succ]
            refine wpAnyH_take (i := 5) (oi := { dst := some 94, op := Go.Op.load 37 (Go.Operand.tmp 93), type := 37, pos := _, after := #[{ on := 4, ground := Go.Ground.data }], guard := none }) (v := ?_) rfl (by kernel_rfl) (by kernel_rfl) (by kernel_rfl) (fun _ _ _ h => h) (Or.inl ⟨by rfl, ?_⟩) hHeld ?_
            rotate_left
            · (intro wq hSw; (try dsimp only at hSw); (try go_simp); (try with_reducible rfl))
            try simp only [Act.put, List.setIfInBounds_toArray, List.set_cons_zero, List.set_cons_succ]
            have own0 : (V.alloc (.cells #[] 47)).ownsRow V.heap.size 47 3 (.slice (some ⟨V.heap.size, 0, none⟩) 0 0) 0 [] := World.ownsRow_lit (e := 47) (size := 3) V #[] 0 (Nat.le_refl _) (Nat.zero_le _) rfl
            have B0 := below_self_alloc V (.cells #[] 47)
            have C0 := CV.keep B0
            have hone := Lib.hid (gflat_one gs)
            have hlen := Lib.hid (gflat_len gs)
            have hnew := Lib.hid (RowS.news3 (hGV.below B0).row)
            refine wpAnyH_ready (rs := [0]) (by kernel_rfl) (by simp) ?_
            refine AllReadyH.cons (o := { dst := some 89, op := Go.Op.buildSlice 37 0 #[], type := 37, pos := _, after := #[], guard := none }) rfl (fun KK hKK => ?_) AllReadyH.nil
            go_simp
            refine hKK.out _ _ (C0.cells.2.1) (fun hHeld => ?_)
            clear hKK KK
            try simp only [Act.put, List.setIfInBounds_toArray, List.set_cons_zero, List.set_cons_succ]
            refine wpAnyH_ready (rs := [3]) (by kernel_rfl) (by simp) ?_
            refine AllReadyH.cons (o := { dst := some 92, op := Go.Op.call { callee := Go.Callee.builtin Go.Builtin.append, args := #[Go.Operand.tmp 89, Go.Operand.tmp 91], argTypes := #[37, 37] }, type := 37, pos := _, after := #[{ on := 0, ground := Go.Ground.data }, { on := 2, ground := Go.Ground.data }], guard := none }) rfl (fun KK hKK => ?_) AllReadyH.nil
            refine step_append_at _ rfl (.tmp 89) (.tmp 91) _ rfl V.heap.size 47 i0 (.agg #[.bool false, .int .i64 0, .int .i64 0]) 3 24 Try.underlying37 hi hz0 hz1 hz2 rfl (by omega) (.slice (some ⟨V.heap.size, 0, none⟩) 0 0) 0 [] (by rfl) own0 ⟨bb, 0, none⟩ gs.length c (gflat gs) (by rfl) hlen.out hnew.out hone.out (by unfold maxLen; omega) (by omega) (by simp) ?_
            intro v5 w5 own5 hg5 hat5
            rw [Nat.zero_add, List.nil_append] at own5
            have B5 : Below V.heap.size V w5 := below_grows B0 hg5 (fun q hq => (own0.lt q hq).1)
            have C5 := CV.keep B5
            have hnew5 := Lib.hid (RowS.news3 (hGV.below B5).row)
            have hs5 := B5.size
            clear hg5 hat5 own0 B0 C0 hnew
            try go_simp
            refine hKK.out _ _ (C5.cells.2.1) (fun hHeld => ?_)
            clear hKK KK
            try simp only [Act.put, List.setIfInBounds_toArray, List.set_cons_zero, List.set_cons_succ]
            refine wpAnyH_ready (rs := [6]) (by kernel_rfl) (by simp) ?_
            refine AllReadyH.cons (o := { dst := some 95, op := Go.Op.call { callee := Go.Callee.builtin Go.Builtin.append, args := #[Go.Operand.tmp 92, Go.Operand.tmp 94], argTypes := #[37, 37] }, type := 37, pos := _, after := #[{ on := 3, ground := Go.Ground.data }, { on := 5, ground := Go.Ground.data }, { on := 3, ground := Go.Ground.chain }], guard := none }) rfl (fun KK hKK => ?_) AllReadyH.nil
            refine step_append_at _ rfl (.tmp 92) (.tmp 94) _ rfl V.heap.size 47 i0 (.agg #[.bool false, .int .i64 0, .int .i64 0]) 3 24 Try.underlying37 hi hz0 hz1 hz2 rfl (by omega) v5 gs.length (gflat gs) (by rfl) own5 ⟨bb, 0, none⟩ gs.length c (gflat gs) (by rfl) hlen.out hnew5.out hone.out (by unfold maxLen; omega) (by omega) hs5 ?_
            intro v6 w6 own6 hg6 hat6
            have B6 : Below V.heap.size V w6 := below_grows B5 hg6 (fun q hq => (own5.lt q hq).1)
            have own7 : OwnG w6 V.heap.size v6 dd := by unfold OwnG; rw [hdd.out, gflat_append, List.length_append]; exact own6
            obtain ⟨a6, c6, rfl⟩ := own7.gates.form
            clear hg6 hat6 own5 own6 hnew5 hs5 B5 C5
            have Z6 := ZD.keep B6
            obtain ⟨E0, E1, _⟩ := Z6.cells; obtain ⟨F0, F1⟩ := Z6.frozen
            have C6 := (CV.keep B6)
            have C6s := C6.set_other (p := ⟨uE.heap.size, 1, none⟩) (z := (.slice a6 dd.length c6)) (by show w1.heap.size ≠ uE.heap.size; have := C.lt; omega)
            try go_simp
            refine hKK.out _ _ (C6.cells.2.1) (fun hHeld => ?_)
            clear hKK KK
            try simp only [Act.put, List.setIfInBounds_toArray, List.set_cons_zero, List.set_cons_succ]
            refine wpAnyH_take (i := 7) (oi := { dst := some 96, op := Go.Op.fieldAddr 39 (Go.Operand.tmp 9) 1, type := 0, pos := _, after := #[{ on := 0, ground := Go.Ground.phase }, { on := 1, ground := Go.Ground.phase }, { on := 2, ground := Go.Ground.phase }, { on := 3, ground := Go.Ground.phase }, { on := 4, ground := Go.Ground.phase }, { on := 5, ground := Go.Ground.phase }, { on := 6, ground := Go.Ground.phase }], guard := none }) (v := ?_) rfl (by kernel_rfl) (by kernel_rfl) (by kernel_rfl) (fun _ _ _ h => h) (Or.inl ⟨by rfl, ?_⟩) hHeld ?_
            rotate_left
            · (intro wq hSw; (try dsimp only at hSw); (try go_simp); (try with_reducible rfl))
            try simp only [Act.put, List.setIfInBounds_toArray, List.set_cons_zero, List.set_cons_succ]
            refine wpAnyH_ready (rs := [8]) (by kernel_rfl) (by simp) ?_
            refine AllReadyH.cons (o := { dst := none, op := Go.Op.store 37 (Go.Operand.tmp 96) (Go.Operand.tmp 95), type := 0, pos := _, after := #[{ on := 7, ground := Go.Ground.data }, { on := 6, ground := Go.Ground.data }, { on := 6, ground := Go.Ground.chain }, { on := 0, ground := Go.Ground.phase }, { on := 1, ground := Go.Ground.phase }, { on := 2, ground := Go.Ground.phase }, { on := 3, ground := Go.Ground.phase }, { on := 4, ground := Go.Ground.phase }, { on := 5, ground := Go.Ground.phase }, { on := 6, ground := Go.Ground.phase }], guard := none }) rfl (fun KK hKK => ?_) AllReadyH.nil
            go_simp
            refine hKK.out _ _ (C6s.cells.2.1) (fun hHeld => ?_)
            clear hKK KK
            try simp only [Act.put, List.setIfInBounds_toArray, List.set_cons_zero, List.set_cons_succ]
            refine wpAnyH_done (by kernel_rfl) ?_ _
            refine NoPanic.normal ?_
            clear E0 E1 F0 F1 hHeld C6 C6s
            have Y6 := Z6.set1 (.slice a6 dd.length c6)
            have own8 : OwnG (w6.setCell ⟨uE.heap.size, 1, none⟩ (.slice a6 dd.length c6)) VD.heap.size (.slice a6 dd.length c6) dd := OwnG.le (Go.RowKit.ownsRow_setCell_below own7 (a := ⟨uE.heap.size, 1, none⟩) hlV (.slice a6 dd.length c6)) hVV
            have BX : Below uE.heap.size uE (w6.setCell ⟨uE.heap.size, 1, none⟩ (.slice a6 dd.length c6)) := (below_two BW B6).setCell (p := ⟨uE.heap.size, 1, none⟩) (Nat.le_refl _) (.slice a6 dd.length c6)
            replace own8 := Lib.hid own8; replace BX := Lib.hid BX; replace Y6 := Lib.hid Y6
            clear own7 Z6 B6 hGV CV ZD BW
            go_wp2_with fail
            go_meet
            exact ⟨rfl, _, _, Y6.out, own8.out, BX.out⟩
          case rest =>
            obtain ⟨rfl, aD, cD, YD, ownD, BX⟩ := hcut
            obtain ⟨uD, rfl⟩ : ∃ x, x = wc := ⟨_, rfl⟩
            replace C := C.keep BX
            replace YA := YA.keep BX
            replace YB := YB.keep BX
            replace YE := YE.keep BX
            replace hG := hG.below BX
            replace ownA := OwnG.below ownA BX
            replace ownB := OwnG.below ownB BX
            replace ownE := OwnG.below ownE BX
            replace K := below_two K BX
            clear BX BV hlzD ZD
            have QA : Hid (∀ w' x, Gates w' x lA → NilOrB x → Calls Try.prog 23 #[.agg #[.int .i64 m, x]] w' (fun e w2 => e = .returned (.bool false) ∧ Below w'.heap.size w' w2)) := fun w' x h1 h2 => (netOk_impl m x _ w' h1 h2 (by rw [hlA.out]; exact wfG.out.snoc ⟨wf_in ⟨by dsimp only; omega, by dsimp only; omega⟩, wf_in ⟨by dsimp only; omega, by dsimp only; omega⟩⟩)).mono (by rintro e w2 ⟨rfl, hb⟩; rw [hlA.out, bad_last (by have := ok_a (m := m) (n := gs.length); exact this)]; exact ⟨rfl, hb⟩)
            have QB : Hid (∀ w' x, Gates w' x lB → NilOrB x → Calls Try.prog 23 #[.agg #[.int .i64 m, x]] w' (fun e w2 => e = .returned (.bool false) ∧ Below w'.heap.size w' w2)) := fun w' x h1 h2 => (netOk_impl m x _ w' h1 h2 (by rw [hlB.out]; exact wfG.out.snoc ⟨wf_in ⟨by decide, by decide⟩, wf_in ⟨by decide, by decide⟩⟩)).mono (by rintro e w2 ⟨rfl, hb⟩; rw [hlB.out, bad_last (ok_b)]; exact ⟨rfl, hb⟩)
            have QE : Hid (∀ w' x, Gates w' x lE → NilOrB x → Calls Try.prog 23 #[.agg #[.int .i64 m, x]] w' (fun e w2 => e = .returned (.bool false) ∧ Below w'.heap.size w' w2)) := fun w' x h1 h2 => (netOk_impl m x _ w' h1 h2 (by rw [hlE.out]; exact wfG.out.snoc ⟨wf_in ⟨by decide, by decide⟩, wf_in ⟨by decide, by decide⟩⟩)).mono (by rintro e w2 ⟨rfl, hb⟩; rw [hlE.out, bad_last (ok_c)]; exact ⟨rfl, hb⟩)
            have QS : Hid (∀ w' x y, Gates w' x gs → Gates w' y lA → Calls Try.prog 20 #[.agg #[.int .i64 m, x], .agg #[.int .i64 m, y]] w' (fun e w2 => e = .returned (.bool false) ∧ Below w'.heap.size w' w2)) := fun w' x y h1 h2 => (netSame_impl m x _ m y _ w' h1 h2).mono (by rintro e w2 ⟨rfl, hb⟩; rw [hlA.out, sameN_longer]; exact ⟨rfl, hb⟩)
            have gA := ownA.gates
            have nA : NilOrB (.slice (some ⟨bA, 0, none⟩) (gs.length + 1) cA) := .inr ⟨_, _, _, rfl⟩
            have gB := ownB.gates
            have nB : NilOrB (.slice (some ⟨bB, 0, none⟩) (gs.length + 1) cB) := .inr ⟨_, _, _, rfl⟩
            have gE := ownE.gates
            have nE : NilOrB (.slice (some ⟨bE, 0, none⟩) (gs.length + 1) cE) := .inr ⟨_, _, _, rfl⟩
            have gD := ownD.gates
            have nD := nilOrB_own ownD
            have QD : 0 < gs.length → Hid (∀ w' x, Gates w' x dd → NilOrB x → Calls Try.prog 23 #[.agg #[.int .i64 m, x]] w' (fun e w2 => e = .returned (.bool false) ∧ Below w'.heap.size w' w2)) := fun h0 w' x h1 h2 => (netOk_impl m x _ w' h1 h2 (by rw [hdd.out]; exact wfG.out.twice)).mono (by rintro e w2 ⟨rfl, hb⟩; rw [hdd.out, bad_twice h0]; exact ⟨rfl, hb⟩)
            clear ownA ownB ownE ownD wfG NG
            by_cases hl0 : gs.length = 0
            · have dl : ((gs.length : Int) == 0) = true := by simp [hl0]
              clear QD hl0
              obtain ⟨C0, C1, C2⟩ := C.cells
              obtain ⟨YA0, YA1, YA2⟩ := YA.cells
              obtain ⟨YB0, YB1, YB2⟩ := YB.cells
              obtain ⟨YE0, YE1, YE2⟩ := YE.cells
              obtain ⟨YD0, YD1, YD2⟩ := YD.cells
              go_wp2_with fail
              refine (QA.out _ _ gA nA).mono ?_; rintro e w21 ⟨rfl, hb⟩
              clear C0 C1 C2 YA0 YA1 YA2 YB0 YB1 YB2 YE0 YE1 YE2 YD0 YD1 YD2
              replace C := C.keep hb
              replace YA := YA.keep hb
              replace YB := YB.keep hb
              replace YE := YE.keep hb
              replace YD := YD.keep hb
              replace hG := hG.below hb
              replace gA := gA.below hb
              replace gB := gB.below hb
              replace gE := gE.below hb
              replace gD := gD.below hb
              replace K := below_two K hb
              clear hb
              obtain ⟨C0, C1, C2⟩ := C.cells
              obtain ⟨YA0, YA1, YA2⟩ := YA.cells
              obtain ⟨YB0, YB1, YB2⟩ := YB.cells
              obtain ⟨YE0, YE1, YE2⟩ := YE.cells
              obtain ⟨YD0, YD1, YD2⟩ := YD.cells
              go_wp2_with fail
              refine (QB.out _ _ gB nB).mono ?_; rintro e w22 ⟨rfl, hb⟩
              clear C0 C1 C2 YA0 YA1 YA2 YB0 YB1 YB2 YE0 YE1 YE2 YD0 YD1 YD2
              replace C := C.keep hb
              replace YA := YA.keep hb
              replace YB := YB.keep hb
              replace YE := YE.keep hb
              replace YD := YD.keep hb
              replace hG := hG.below hb
              replace gA := gA.below hb
              replace gB := gB.below hb
              replace gE := gE.below hb
              replace gD := gD.below hb
              replace K := below_two K hb
              clear hb
              obtain ⟨C0, C1, C2⟩ := C.cells
              obtain ⟨YA0, YA1, YA2⟩ := YA.cells
              obtain ⟨YB0, YB1, YB2⟩ := YB.cells
              obtain ⟨YE0, YE1, YE2⟩ := YE.cells
              obtain ⟨YD0, YD1, YD2⟩ := YD.cells
              go_wp2_with fail
              refine (QE.out _ _ gE nE).mono ?_; rintro e w23 ⟨rfl, hb⟩
              clear C0 C1 C2 YA0 YA1 YA2 YB0 YB1 YB2 YE0 YE1 YE2 YD0 YD1 YD2
              replace C := C.keep hb
              replace YA := YA.keep hb
              replace YB := YB.keep hb
              replace YE := YE.keep hb
              replace YD := YD.keep hb
              replace hG := hG.below hb
              replace gA := gA.below hb
              replace gB := gB.below hb
              replace gE := gE.below hb
              replace gD := gD.below hb
              replace K := below_two K hb
              clear hb
              obtain ⟨C0, C1, C2⟩ := C.cells
              obtain ⟨YA0, YA1, YA2⟩ := YA.cells
              obtain ⟨YB0, YB1, YB2⟩ := YB.cells
              obtain ⟨YE0, YE1, YE2⟩ := YE.cells
              obtain ⟨YD0, YD1, YD2⟩ := YD.cells
              go_wp2_with fail
              refine (QS.out _ _ _ hG gA).mono ?_; rintro e w24 ⟨rfl, hb⟩
              clear C0 C1 C2 YA0 YA1 YA2 YB0 YB1 YB2 YE0 YE1 YE2 YD0 YD1 YD2
              replace C := C.keep hb
              replace YA := YA.keep hb
              replace YB := YB.keep hb
              replace YE := YE.keep hb
              replace YD := YD.keep hb
              replace hG := hG.below hb
              replace gA := gA.below hb
              replace gB := gB.below hb
              replace gE := gE.below hb
              replace gD := gD.below hb
              replace K := below_two K hb
              clear hb
              obtain ⟨C0, C1, C2⟩ := C.cells
              obtain ⟨YA0, YA1, YA2⟩ := YA.cells
              obtain ⟨YB0, YB1, YB2⟩ := YB.cells
              obtain ⟨YE0, YE1, YE2⟩ := YE.cells
              obtain ⟨YD0, YD1, YD2⟩ := YD.cells
              go_wp2_with fail
              go_ret
              exact ⟨rfl, K⟩
            · have dl : ((gs.length : Int) == 0) = false := beq_eq_false_iff_ne.2 (by omega)
              have QD' := QD (by omega)
              clear QD hl0
              obtain ⟨C0, C1, C2⟩ := C.cells
              obtain ⟨YA0, YA1, YA2⟩ := YA.cells
              obtain ⟨YB0, YB1, YB2⟩ := YB.cells
              obtain ⟨YE0, YE1, YE2⟩ := YE.cells
              obtain ⟨YD0, YD1, YD2⟩ := YD.cells
              go_wp2_with fail
              refine (QA.out _ _ gA nA).mono ?_; rintro e w21 ⟨rfl, hb⟩
              clear C0 C1 C2 YA0 YA1 YA2 YB0 YB1 YB2 YE0 YE1 YE2 YD0 YD1 YD2
              replace C := C.keep hb
              replace YA := YA.keep hb
              replace YB := YB.keep hb
              replace YE := YE.keep hb
              replace YD := YD.keep hb
              replace hG := hG.below hb
              replace gA := gA.below hb
              replace gB := gB.below hb
              replace gE := gE.below hb
              replace gD := gD.below hb
              replace K := below_two K hb
              clear hb
              obtain ⟨C0, C1, C2⟩ := C.cells
              obtain ⟨YA0, YA1, YA2⟩ := YA.cells
              obtain ⟨YB0, YB1, YB2⟩ := YB.cells
              obtain ⟨YE0, YE1, YE2⟩ := YE.cells
              obtain ⟨YD0, YD1, YD2⟩ := YD.cells
              go_wp2_with fail
              refine (QB.out _ _ gB nB).mono ?_; rintro e w22 ⟨rfl, hb⟩
              clear C0 C1 C2 YA0 YA1 YA2 YB0 YB1 YB2 YE0 YE1 YE2 YD0 YD1 YD2
              replace C := C.keep hb
              replace YA := YA.keep hb
              replace YB := YB.keep hb
              replace YE := YE.keep hb
              replace YD := YD.keep hb
              replace hG := hG.below hb
              replace gA := gA.below hb
              replace gB := gB.below hb
              replace gE := gE.below hb
              replace gD := gD.below hb
              replace K := below_two K hb
              clear hb
              obtain ⟨C0, C1, C2⟩ := C.cells
              obtain ⟨YA0, YA1, YA2⟩ := YA.cells
              obtain ⟨YB0, YB1, YB2⟩ := YB.cells
              obtain ⟨YE0, YE1, YE2⟩ := YE.cells
              obtain ⟨YD0, YD1, YD2⟩ := YD.cells
              go_wp2_with fail
              refine (QE.out _ _ gE nE).mono ?_; rintro e w23 ⟨rfl, hb⟩
              clear C0 C1 C2 YA0 YA1 YA2 YB0 YB1 YB2 YE0 YE1 YE2 YD0 YD1 YD2
              replace C := C.keep hb
              replace YA := YA.keep hb
              replace YB := YB.keep hb
              replace YE := YE.keep hb
              replace YD := YD.keep hb
              replace hG := hG.below hb
              replace gA := gA.below hb
              replace gB := gB.below hb
              replace gE := gE.below hb
              replace gD := gD.below hb
              replace K := below_two K hb
              clear hb
              obtain ⟨C0, C1, C2⟩ := C.cells
              obtain ⟨YA0, YA1, YA2⟩ := YA.cells
              obtain ⟨YB0, YB1, YB2⟩ := YB.cells
              obtain ⟨YE0, YE1, YE2⟩ := YE.cells
              obtain ⟨YD0, YD1, YD2⟩ := YD.cells
              go_wp2_with fail
              refine (QD'.out _ _ gD nD).mono ?_; rintro e w24 ⟨rfl, hb⟩
              clear C0 C1 C2 YA0 YA1 YA2 YB0 YB1 YB2 YE0 YE1 YE2 YD0 YD1 YD2
              replace C := C.keep hb
              replace YA := YA.keep hb
              replace YB := YB.keep hb
              replace YE := YE.keep hb
              replace YD := YD.keep hb
              replace hG := hG.below hb
              replace gA := gA.below hb
              replace gB := gB.below hb
              replace gE := gE.below hb
              replace gD := gD.below hb
              replace K := below_two K hb
              clear hb
              obtain ⟨C0, C1, C2⟩ := C.cells
              obtain ⟨YA0, YA1, YA2⟩ := YA.cells
              obtain ⟨YB0, YB1, YB2⟩ := YB.cells
              obtain ⟨YE0, YE1, YE2⟩ := YE.cells
              obtain ⟨YD0, YD1, YD2⟩ := YD.cells
              go_wp2_with fail
              refine (QS.out _ _ _ hG gA).mono ?_; rintro e w25 ⟨rfl, hb⟩
              clear C0 C1 C2 YA0 YA1 YA2 YB0 YB1 YB2 YE0 YE1 YE2 YD0 YD1 YD2
              replace C := C.keep hb
              replace YA := YA.keep hb
              replace YB := YB.keep hb
              replace YE := YE.keep hb
              replace YD := YD.keep hb
              replace hG := hG.below hb
              replace gA := gA.below hb
              replace gB := gB.below hb
              replace gE := gE.below hb
              replace gD := gD.below hb
              replace K := below_two K hb
              clear hb
              obtain ⟨C0, C1, C2⟩ := C.cells
              obtain ⟨YA0, YA1, YA2⟩ := YA.cells
              obtain ⟨YB0, YB1, YB2⟩ := YB.cells
              obtain ⟨YE0, YE1, YE2⟩ := YE.cells
              obtain ⟨YD0, YD1, YD2⟩ := YD.cells
              go_wp2_with fail
              go_ret
              exact ⟨rfl, K⟩
end Go.Proofs.Yteeaafdgkepaeaa
