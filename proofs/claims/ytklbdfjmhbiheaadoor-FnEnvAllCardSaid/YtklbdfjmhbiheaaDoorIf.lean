/- EnvAll of the program. The conditions stand in each statement. -/
import Derived.Test.YtklbdfjmhbiheaaDoorId
namespace Go.Proofs.YtklbdfjmhbiheaaDoor
open Go.RowKit Go.Shelf
attribute [local go_sem] Oper.semAt_some

theorem b1_set {w : World} {g : Nat} {x : Value} {t : TypeId} (h : Blk1 w g x t) (z : Value) : Blk1 (w.setCell ⟨g, 0, none⟩ z) g z t := by
  have hl := h.lt
  unfold Blk1 at *
  have hg : w.heap[g] = .cells #[x] t (0, 0) := by rw [Array.getElem?_eq_getElem hl] at h; exact Option.some.inj h
  show (w.heap.modify g _)[g]? = _
  rw [Array.getElem?_eq_getElem (by rw [Array.size_modify]; exact hl), Array.getElem_modify_self, hg]
  rfl
theorem b1_other {w : World} {g : Nat} {x : Value} {t : TypeId} (h : Blk1 w g x t) {p : Addr} (hne : g ≠ p.block) (z : Value) : Blk1 (w.setCell p z) g x t :=
  (Below.heap_setCell w p z g hne).trans h
theorem b1_put {w : World} {g : Nat} {x : Value} {t : TypeId} (h : Blk1 w g x t) {l : Nat} (hne : g ≠ l) (o' : Obj) : Blk1 (w.putObj l o') g x t :=
  (World.putObj_heap_other hne).trans h
theorem b1_below {B : Nat} {w w' : World} {g : Nat} {x : Value} {t : TypeId} (h : Blk1 w g x t) (hb : Below B w w') (hg : g < B) : Blk1 w' g x t := (hb.block g hg).trans h
theorem keeps_below {w w' : World} (hb : Below w.heap.size w w') : KeepsOthers w w' := ⟨hb.size, fun k _ hk _ => (hb.block k (Array.getElem?_eq_some_iff.1 hk).1).trans hk⟩

set_option linter.unusedVariables false in
set_option maxRecDepth 100000 in
set_option maxHeartbeats 8000000 in
theorem envAll_impl (v : Value) (ds : List Dc) (k : Int) (w : World) (h : Decls w v ds) : Calls Tryd.prog 22 #[v, .int .i64 k] w (GaveE ds k w) := by
  have CM := Lib.hid (fun w' (h' : Decls w' v ds) => envMany_impl v ds w' h')
  obtain ⟨a, c, rfl, _⟩ := h.form
  refine (callsIn_wide (n := 5)).1 ?_
  refine callsIn_of_wp_marks Tryd.func22 rfl trivial ?_ rfl
  simp only [Tryd.ntmps22, List.size_toArray, List.length_cons, List.length_nil, Nat.reduceAdd, Nat.reduceSub, Array.replicate_succ, Array.replicate_zero, List.push_toArray, List.append_toArray, List.nil_append, List.cons_append]
  have K0 : Blk1 (((w.alloc (.cells #[.int .i64 k] 3)).alloc (.cells #[.slice none 0 0] 30)).alloc (.cells #[.bool false] 4)) w.heap.size (.int .i64 k) 3 := ((blk1_new w _ _).alloc _).alloc _
  have K1 : Blk1 (((w.alloc (.cells #[.int .i64 k] 3)).alloc (.cells #[.slice none 0 0] 30)).alloc (.cells #[.bool false] 4)) (w.heap.size + 1) (.slice none 0 0) 30 := by
    have := (blk1_new (w.alloc (.cells #[.int .i64 k] 3)) (.slice none 0 0) 30).alloc (.cells #[.bool false] 4)
    simpa using this
  have K2 : Blk1 (((w.alloc (.cells #[.int .i64 k] 3)).alloc (.cells #[.slice none 0 0] 30)).alloc (.cells #[.bool false] 4)) (w.heap.size + 1 + 1) (.bool false) 4 := by
    have := blk1_new ((w.alloc (.cells #[.int .i64 k] 3)).alloc (.cells #[.slice none 0 0] 30)) (.bool false) 4
    simpa using this
  have BW := below_step (below_step (below_self_alloc w (.cells #[.int .i64 k] 3)) (.cells #[.slice none 0 0] 30)) (.cells #[.bool false] 4)
  gi_wp2
  generalize hW : (((w.alloc (.cells #[.int .i64 k] 3)).alloc (.cells #[.slice none 0 0] 30)).alloc (.cells #[.bool false] 4)) = W at *
  clear hW
  obtain ⟨C0, _⟩ := K0.cells; obtain ⟨C1, _⟩ := K1.cells; obtain ⟨C2, _⟩ := K2.cells
  have F1 := K1.frozen; have F2 := K2.frozen
  by_cases c0 : k < 0
  · obtain ⟨e1, e2⟩ := envB_false (ds := ds) (k := k) (.inl c0)
    clear e1 e2 CM h
    refine wpIn_wide.2 ?_
    go_quiet (fail)
    rename_i nq
    have BN := below_drewN BW nq
    replace K1 : Blk1 (W.drewN nq) (w.heap.size + 1) (.slice none 0 0) 30 := K1
    replace K2 : Blk1 (W.drewN nq) (w.heap.size + 1 + 1) (.bool false) 4 := K2
    replace C1 : (W.drewN nq).cell? ⟨w.heap.size + 1, 0, none⟩ = some (.slice none 0 0) := C1
    replace C2 : (W.drewN nq).cell? ⟨w.heap.size + 1 + 1, 0, none⟩ = some (.bool false) := C2
    replace F1 : (W.drewN nq).frozen? ⟨w.heap.size + 1, 0, none⟩ = false := F1
    replace F2 : (W.drewN nq).frozen? ⟨w.heap.size + 1 + 1, 0, none⟩ = false := F2
    generalize W.drewN nq = V at *
    gi_wp2
    have K1f := b1_other (b1_set K1 (.slice none 0 0)) (p := ⟨w.heap.size + 1 + 1, 0, none⟩) (by simp) (.bool false)
    have K2f := b1_set (b1_other K2 (p := ⟨w.heap.size + 1, 0, none⟩) (by simp) (.slice none 0 0)) (.bool false)
    obtain ⟨r1, _⟩ := K1f.cells; obtain ⟨r2, _⟩ := K2f.cells
    have BF := (BN.setCell (p := ⟨w.heap.size + 1, 0, none⟩) (Nat.le_succ _) (.slice none 0 0)).setCell (p := ⟨w.heap.size + 1 + 1, 0, none⟩) (by show w.heap.size ≤ w.heap.size + 1 + 1; omega) (.bool false)
    obtain ⟨e1, e2⟩ := envB_false (ds := ds) (k := k) (.inl c0)
    exact ⟨.tuple #[.slice none 0 0, .bool false], by simp [results, Tryd.results22, go_sem, r1, r2], .slice none 0 0, by rw [e1], by rw [e2]; exact World.ownsRow_nil _ _ _ _, BF⟩
  · have d0 : decide (k < 0) = false := by simpa using c0
    have sS := K0.drew.cells.1
    refine wpIn_wide.2 ?_
    replace K0 := K0.drew; replace K1 := K1.drew; replace K2 := K2.drew; replace BW := BW.drew
    clear C0 C1 C2 F1 F2
    first
      | (go_region_held3 (fun wx : World => wx.cell? ⟨w.heap.size, 0, none⟩ = some (.int .i64 k)) (first | (with_reducible assumption)) (first | (go_at_call 15; (with_reducible refine (CM.out _ (h.below BW)).mono ?_); rintro e w1 ⟨rfl, hb⟩; replace K0 := K0.keep hb; replace K1 := K1.keep hb; replace K2 := K2.keep hb; replace BW := below_two BW hb; clear hb; replace sS := K0.cells.1)))
      | fail
    clear sS
    obtain ⟨C0, _⟩ := K0.cells; obtain ⟨C1, _⟩ := K1.cells; obtain ⟨C2, _⟩ := K2.cells
    have F1 := K1.frozen; have F2 := K2.frozen
    by_cases c1 : manyV ds ≤ k
    · obtain ⟨e1, e2⟩ := envB_false (ds := ds) (k := k) (.inr c1)
      have d1 : decide (manyV ds ≤ k) = true := decide_eq_true c1
      clear e1 e2
      gi_wp2
      obtain ⟨e1, e2⟩ := envB_false (ds := ds) (k := k) (.inr c1)
      have K1f := b1_other (b1_set K1 (.slice none 0 0)) (p := ⟨w.heap.size + 1 + 1, 0, none⟩) (by simp) (.bool false)
      have K2f := b1_set (b1_other K2 (p := ⟨w.heap.size + 1, 0, none⟩) (by simp) (.slice none 0 0)) (.bool false)
      obtain ⟨r1, _⟩ := K1f.cells; obtain ⟨r2, _⟩ := K2f.cells
      have BF := (BW.setCell (p := ⟨w.heap.size + 1, 0, none⟩) (Nat.le_succ _) (.slice none 0 0)).setCell (p := ⟨w.heap.size + 1 + 1, 0, none⟩) (by show w.heap.size ≤ w.heap.size + 1 + 1; omega) (.bool false)
      exact ⟨.tuple #[.slice none 0 0, .bool false], by simp [results, Tryd.results22, go_sem, r1, r2], .slice none 0 0, by rw [e1], by rw [e2]; exact World.ownsRow_nil _ _ _ _, BF⟩
    · obtain ⟨e1, hok, hk, e2⟩ := envB_true (ds := ds) (k := k) (by omega) (by omega)
      have d1 : decide (manyV ds ≤ k) = false := by simpa using c1
      gi_wp2
      refine ⟨trivial, (callsIn_wide.2 (environments_any a ds.length c w1)).mono ?_⟩
      rintro e w2 ⟨rfl, rfl⟩
      clear C0 C1 C2 F1 F2 CM
      obtain ⟨q, hq⟩ : ∃ q : Nat, k = q := Int.eq_ofNat_of_zero_le (by omega)
      have hqN : q < 2 ^ suf ds 0 := by rw [hq] at hk; simpa using hk
      rw [hq, Int.toNat_natCast] at e2
      have X0 := K0.alloc (.cells #[.slice a ds.length c] 25); have X1 := K1.alloc (.cells #[.slice a ds.length c] 25); have X2 := K2.alloc (.cells #[.slice a ds.length c] 25)
      have XB := below_step BW (.cells #[.slice a ds.length c] 25)
      have XD : Blk1 (w1.alloc (.cells #[.slice a ds.length c] 25)) w1.heap.size (.slice a ds.length c) 25 := blk1_new w1 _ _
      have hH := K2.lt
      generalize hX : w1.alloc (.cells #[.slice a ds.length c] 25) = X at *
      have hXs : X.heap.size = w1.heap.size + 1 := by rw [← hX]; simp
      clear hX K0 K1 K2 BW
      have hd1 : decide (0 ≤ (0 : Int)) = true := rfl
      gi_wp2
      generalize manyV ds = MV
      refine wpIn_rangeFunc_row rfl (by omega) (gf := 60) (lb := #[.pointer (some ⟨w1.heap.size, 0, none⟩)]) rfl trivial (enters_of Tryd.func60 (by kernel_rfl) rfl)
        (envs_seq ds hok w1.heap.size (.slice a ds.length c) _ X) (fun n0 k x A B h hm => rEnv_mine h hm) rfl
        (fun j A => j ≤ q ∧ Blk1 A w.heap.size (.int .i64 ((q : Int) - (j : Int))) 3 ∧ Blk1 A (w.heap.size + 1) (.slice none 0 0) 30 ∧ Blk1 A (w.heap.size + 1 + 1) (.bool false) 4 ∧ Blk1 A w1.heap.size (.slice a ds.length c) 25 ∧ Below w.heap.size w A)
        (fun cd j A => cd = .ret ∧ ∃ (ya : Option Addr) (yc : Nat), Blk1 A (w.heap.size + 1) (.slice ya ds.length yc) 30 ∧ Blk1 A (w.heap.size + 1 + 1) (.bool true) 4 ∧ A.ownsRow w.heap.size 3 1 (.slice ya ds.length yc) ds.length ((digs ds q).map (.int .i64)) ∧ Below w.heap.size w A)
        ?hI ?hID ?hIx ?h0 (fun x => { tmps := #[.slice a ds.length c, .int .i64 q, undef, .pointer (some ⟨w.heap.size, 0, none⟩), .pointer (some ⟨w.heap.size + 1, 0, none⟩), .pointer (some ⟨w.heap.size + 1 + 1, 0, none⟩), x, .int .i64 q, .bool false, .bool false, .int .i64 q, .slice a ds.length c, .int .i64 MV, .bool false, .bool false, .slice a ds.length c, .func (.func 60) #[] #[.pointer (some ⟨w1.heap.size, 0, none⟩)], x, undef, undef, undef, undef, undef, undef], defers := [] }) ?assign ?body ?done ?stop
      case hI =>
        rintro j A B ⟨h1, h2, h3, h4, h5, h6⟩ hb
        exact ⟨h1, b1_below h2 hb (by omega), b1_below h3 hb (by omega), b1_below h4 hb (by omega), b1_below h5 hb (by omega), h6.trans (hb.mono (by omega))⟩
      case hID =>
        rintro j A ⟨_, _, _, _, h5, h6⟩
        exact ⟨h5.cells.1, h.below h6⟩
      case hIx =>
        rintro cd j A l o o' ⟨rfl, ya, yc, h1, h2, h3, h4⟩ hl ho hn
        exact ⟨rfl, ya, yc, b1_put h1 (by omega) _, b1_put h2 (by omega) _, ownsRow_putObj h3 _ ho hn, h4.trans (below_putObj _ _ (by omega))⟩
      case h0 => exact ⟨Nat.zero_le _, by rw [hq] at X0; simpa using X0, X1, X2, XD, XB⟩
      case assign =>
        intro l x W' K hK
        gi_wp2
        exact hK
      case body =>
        rintro l j x W' ⟨hj, h2, h3, h4, h5, h6⟩ hjN ⟨g, rfl, hg, own⟩
        have hWs : w1.heap.size < W'.heap.size := h5.lt
        have h44 := hok.1
        have hq6 : q ≤ 256 := Nat.le_trans (Nat.le_of_lt hqN) (many_le hok)
        by_cases hjq : j = q
        · subst hjq
          have h2' : Blk1 W' w.heap.size (.int .i64 0) 3 := by simpa using h2
          obtain ⟨D0, _⟩ := h2'.cells; obtain ⟨D1, _⟩ := h3.cells; obtain ⟨D2, _⟩ := h4.cells
          have G1 := h3.frozen; have G2 := h4.frozen
          have CC := Lib.hid (cloneInts_any _ (digs ds j) ds.length W' g rfl (Ints.of_own own) (by rw [digs_len]; omega))
          clear own h2 X0 X1 X2 XD XB
          gi_wp2
          refine ⟨trivial, (CallsIn.inRound l (callsIn_wide.2 CC.out)).mono ?_⟩
          rintro e w3 ⟨y, rfl, own3, hb3⟩
          obtain ⟨ya, yc, hy, _⟩ := Ints.of_own (l := digs ds j) own3
          rw [digs_len] at hy own3
          subst hy
          clear D0 D1 D2 G1 G2 CC
          replace h3 := h3.keep hb3; replace h4 := h4.keep hb3
          have KO := keeps_below hb3
          replace h6 := below_two h6 hb3
          have hsz := hb3.size
          clear hb3
          obtain ⟨D1, _⟩ := h3.cells; obtain ⟨D2, _⟩ := h4.cells
          have G1 := h3.frozen; have G2 := h4.frozen
          gi_wp2
          exact ⟨KO.trans ((KeepsOthers.setCell _ _ _).trans (KeepsOthers.setCell _ _ _)), rfl, ya, yc, b1_other (b1_set h3 _) (p := ⟨w.heap.size + 1 + 1, 0, none⟩) (by simp) _, b1_set (b1_other h4 (p := ⟨w.heap.size + 1, 0, none⟩) (by simp) _) _,
            Go.Joins.ownsRow_le (Go.RowKit.ownsRow_setCell_below (Go.RowKit.ownsRow_setCell_below own3 (a := ⟨w.heap.size + 1, 0, none⟩) (by show w.heap.size + 1 < W'.heap.size; omega) _) (a := ⟨w.heap.size + 1 + 1, 0, none⟩) (by show w.heap.size + 1 + 1 < W'.heap.size; omega) _) (by omega),
            (h6.setCell (p := ⟨w.heap.size + 1, 0, none⟩) (Nat.le_succ _) _).setCell (p := ⟨w.heap.size + 1 + 1, 0, none⟩) (by show w.heap.size ≤ w.heap.size + 1 + 1; omega) _⟩
        · have db : ((q : Int) - (j : Int) == 0) = false := beq_eq_false_iff_ne.2 (by omega)
          have hw : IntKind.i64.wrap ((q : Int) - (j : Int) - 1) = (q : Int) - (j : Int) - 1 := IntWalk.i64_in _ (by omega)
          have e9 : (q : Int) - ((j + 1 : Nat) : Int) = (q : Int) - (j : Int) - 1 := by omega
          obtain ⟨D0, _⟩ := h2.cells
          have G0 := h2.frozen
          replace e9 := Lib.hid e9
          clear own X0 X1 X2 XD XB
          gi_wp2
          exact ⟨KeepsOthers.setCell _ _ _, Mine.setCell _ _ _ (by show w.heap.size < _; omega), by omega, by rw [e9.out]; exact b1_set h2 _, b1_other h3 (by simp) _, b1_other h4 (by show w.heap.size + 1 + 1 ≠ w.heap.size; omega) _, b1_other h5 (by show w1.heap.size ≠ w.heap.size; omega) _, h6.setCell (p := ⟨w.heap.size, 0, none⟩) (Nat.le_refl _) _⟩
      case done =>
        rintro D W' hD ⟨hj, _⟩ _
        omega
      case stop =>
        rintro D cd j W' hD hjN ⟨rfl, ya, yc, h1, h2, h3, h4⟩ hK
        gi_wp2
        refine ⟨by simp, .inl ⟨_, _, rfl, run_takeDeferred hK, ?_⟩⟩
        obtain ⟨r1, _⟩ := (b1_put h1 (l := D) (by omega) (.deferred none)).cells; obtain ⟨r2, _⟩ := (b1_put h2 (l := D) (by omega) (.deferred none)).cells
        have hln := digs_len ds q
        exact ⟨.tuple #[.slice ya ds.length yc, .bool true], by simp [results, Tryd.results22, go_sem, r1, r2], .slice ya ds.length yc, by rw [e1], by rw [hq, e2, hln]; exact ownsRow_putObj h3 _ hK rfl, h4.trans (below_putObj _ _ (by omega))⟩
end Go.Proofs.YtklbdfjmhbiheaaDoor
