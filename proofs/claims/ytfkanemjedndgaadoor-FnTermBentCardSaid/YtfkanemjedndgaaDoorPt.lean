/- The walk of FnTermBent: for every argument the law returns true and leaves alone what was there. -/
import Derived.Test.YtfkanemjedndgaaDoorPu
namespace Go.Proofs.YtfkanemjedndgaaDoor
open Go.RowKit

theorem wf3_node {o a b : Int} {nm : ByteArray} {ks : List Tm} (h1 : -9000 ≤ o) (h2 : o ≤ 9000) (h3 : -9000 ≤ a) (h4 : a ≤ 9000) (h5 : -9000 ≤ b) (h6 : b ≤ 9000) : Wf3 (.node o a b nm ks) := ⟨wf_of h1 h2, wf_of h3 h4, wf_of h5 h6⟩
set_option linter.unusedVariables false in
set_option maxRecDepth 100000 in
set_option maxHeartbeats 32000000 in
theorem walk_FnTermBent (v : Value) {w : World} (h : BytesIn w v) :
    Calls Tryd.prog 4 #[v] w fun e w' => e = .returned (.bool true) ∧ Below w.heap.size w w' := by
  obtain ⟨a0, len, cp, rfl⟩ : ∃ a len cap, v = .slice a len cap := by
    rcases h with ⟨a, c, rfl⟩ | ⟨b, off, len, cap, rfl, _⟩ <;> exact ⟨_, _, _, rfl⟩
  by_cases hb : (1048576 : Int) < len
  · go_enter Tryd.func4, Tryd.ntmps4
    go_wp2_with fail
    go_ret
    exact ⟨rfl, Below.refl _ _⟩
  obtain ⟨i0, hi, hz0, hz1, hz2⟩ := info_parts infoTerm
  go_enter Tryd.func4, Tryd.ntmps4
  go_wp2_with fail
  refine (drawTermSort_any _ _ h).mono ?_
  rintro e w1 ⟨bd, capd, ds, t, s, D, rfl, hd, hln, top, tk, td, hl, hD, B⟩
  obtain ⟨sa, sp, rfl⟩ := top.form
  obtain ⟨xo, xa, xb, xn, ks⟩ := t
  dsimp only [Tm.op, Tm.a, Tm.b, Tm.nm, Tm.ks] at *
  have hs := (top.ks (top.names td)).now
  have hnms : Hid (Nms ks) := top.names td
  have tw : Hid (TW D ks) := tw_of td
  have wf3 : Hid (Wf3 (.node xo xa xb xn ks)) := by
    obtain ⟨k1, k2, k3, k4, k5, k6, k7⟩ := tk
    dsimp only [Tm.op, Tm.a, Tm.b, Tm.nm] at k1 k2 k3 k4 k5 k6 k7
    exact ⟨wf_of (by dsimp only [Tm.op]; omega) (by dsimp only [Tm.op]; omega), wf_of (by dsimp only [Tm.a]; omega) (by dsimp only [Tm.a]; omega), wf_of (by dsimp only [Tm.b]; omega) (by dsimp only [Tm.b]; omega)⟩
  have htn : xn.size ≤ 1 := by have := tk.2.2.2.2.2.2; exact this
  have Bw := below_self_alloc w1 (.cells #[.int .i64 xo, .int .i64 xa, .int .i64 xb, .string xn, .slice sa ks.length sp] 33)
  have A := blk5_new w1 (.int .i64 xo) (.int .i64 xa) (.int .i64 xb) (.string xn) (.slice sa ks.length sp) 33
  replace top := Lib.hid (top.on (kept_allocT w.heap.size w1 (.cells #[.int .i64 xo, .int .i64 xa, .int .i64 xb, .string xn, .slice sa ks.length sp] 33)))
  have Fs : Hid (∀ w' s', Decls w' (.slice (some ⟨bd, 0, none⟩) ds.length capd) ds → SIn D w' s' ks → Calls Tryd.prog 7 #[.slice (some ⟨bd, 0, none⟩) ds.length capd, .agg #[.int .i64 xo, .int .i64 xa, .int .i64 xb, .string xn, s']] w' fun e w2 => e = .returned (.int .i64 (TSV ds D xo xa xb xn ks)) ∧ Below w'.heap.size w' w2) :=
    fun w' s' h1 h2 => termSort_spec _ ds D xo xa xb xn s' ks w' h1 h2
  have Fi : Hid (∀ w' s', Decls w' (.slice (some ⟨bd, 0, none⟩) ds.length capd) ds → SIn D w' s' ks → Calls Tryd.prog 10 #[.slice (some ⟨bd, 0, none⟩) ds.length capd, .agg #[.int .i64 xo, .int .i64 xa, .int .i64 xb, .string xn, s']] w' fun e w2 => e = .returned (.int .i64 (TSV ds D xo xa xb xn ks)) ∧ Below w'.heap.size w' w2) :=
    fun w' s' h1 h2 => termSort_impl _ ds D xo xa xb xn s' ks w' h1 h2 tw.out wf3.out.1
  obtain ⟨z, hz⟩ : ∃ z, z = TSV ds D xo xa xb xn ks := ⟨_, rfl⟩
  rw [← hz] at Fs Fi
  have HZ := Lib.hid hz
  clear hz h td tk
  replace B := below_two B Bw; replace hd := hd.below Bw; replace hs := hs.below Bw
  clear Bw
  obtain ⟨A0, A1, A2, A3, A4, A5⟩ := A.cells
  go_wp2_with fail
  refine (Fi.out _ _ hd hs).mono ?_; rintro e w2 ⟨rfl, hb2⟩
  clear A0 A1 A2 A3 A4 A5
  replace A := A.keep hb2; replace B := below_two B hb2; replace hd := hd.below hb2; replace hs := hs.below hb2
  replace top := Lib.hid (top.out.on (kept_below hb2))
  clear hb2
  obtain ⟨A0, A1, A2, A3, A4, A5⟩ := A.cells
  go_wp2_with fail
  refine (Fs.out _ _ hd hs).mono ?_; rintro e w3 ⟨rfl, hb3⟩
  clear A0 A1 A2 A3 A4 A5
  replace A := A.keep hb3; replace B := below_two B hb3; replace hd := hd.below hb3; replace hs := hs.below hb3
  replace top := Lib.hid (top.out.on (kept_below hb3))
  clear hb3
  obtain ⟨A0, A1, A2, A3, A4, A5⟩ := A.cells
  by_cases hz : z < 0
  · go_wp2_with fail
    refine (Fs.out _ _ hd hs).mono ?_; rintro e w4 ⟨rfl, hb4⟩
    replace B := below_two B hb4
    clear A0 A1 A2 A3 A4 A5 hb4
    go_wp2_with fail
    go_ret
    exact ⟨rfl, B⟩
  have dz : decide (z < 0) = false := by simpa using hz
  go_upto_region 8 with fail
  clear Fs Fi
  obtain ⟨W, hW⟩ : ∃ W, W = w3.alloc (.cells #[.int .i64 xo, .int .i64 xa, .int .i64 xb, .string xn, .slice sa ks.length sp] 33) := ⟨_, rfl⟩
  rw [← hW]
  have gl : w1.heap.size < W.heap.size := by have := A.lt; rw [hW]; simp; omega
  have glz : w3.heap.size < W.heap.size := by rw [hW]; simp
  have gne : w1.heap.size ≠ w3.heap.size := Nat.ne_of_lt A.lt
  have gwb : w.heap.size ≤ w3.heap.size := B.size
  have BW : Below w3.heap.size w3 W := by rw [hW]; exact below_self_alloc w3 _
  have AW : Blk5 W w1.heap.size (.int .i64 xo) (.int .i64 xa) (.int .i64 xb) (.string xn) (.slice sa ks.length sp) 33 := by rw [hW]; exact A.alloc _
  have ZW : Blk5 W w3.heap.size (.int .i64 xo) (.int .i64 xa) (.int .i64 xb) (.string xn) (.slice sa ks.length sp) 33 := by rw [hW]; exact blk5_new w3 _ _ _ _ _ _
  have topW : Hid (Top w.heap.size D W (.slice sa ks.length sp) ks) := top.out.on (kept_below BW)
  have HW := Lib.hid hW
  clear hW A0 A1 A2 A3 A4 A5
  go_cut [6] (fun s6 wx => s6 = .pointer (some ⟨w3.heap.size, 0, none⟩) ∧ ∃ (b2 c2 : Nat), Blk5 wx w3.heap.size (.int .i64 xo) (.int .i64 xa) (.int .i64 xb) (.string xn) (.slice (some ⟨b2, 0, none⟩) (ks.length + 1) c2) 33 ∧ Top w.heap.size (D + 1) wx (.slice (some ⟨b2, 0, none⟩) (ks.length + 1) c2) (ks ++ [.node xo xa xb xn ks]) ∧ Below w3.heap.size w3 wx)
  case first =>
    rcases top.out with ⟨e1, rfl⟩ | ⟨d, bb, cap, S, e3, e1, hR, hb1, hbl, hS⟩
    · simp only [Value.slice.injEq] at e1
      obtain ⟨rfl, _, rfl⟩ := e1
      rw [List.length_nil] at *
      have sK : ∀ w', Below W.heap.size W w' → (fun wx : World => wx.cell? ⟨w1.heap.size, 0, none⟩ = some (.int .i64 xo) ∧ wx.cell? ⟨w1.heap.size, 1, none⟩ = some (.int .i64 xa) ∧ wx.cell? ⟨w1.heap.size, 2, none⟩ = some (.int .i64 xb) ∧ wx.cell? ⟨w1.heap.size, 3, none⟩ = some (.string xn) ∧ wx.cell? ⟨w1.heap.size, 4, none⟩ = some (.slice none 0 0)) w' := fun w' hb => (by obtain ⟨q0, q1, q2, q3, q4, _⟩ := (AW.keep hb).cells; exact ⟨q0, q1, q2, q3, q4⟩)
      refine wp_region_noPanic ?_
      refine wp_region_held_drew (S := fun wx : World => wx.cell? ⟨w1.heap.size, 0, none⟩ = some (.int .i64 xo) ∧ wx.cell? ⟨w1.heap.size, 1, none⟩ = some (.int .i64 xa) ∧ wx.cell? ⟨w1.heap.size, 2, none⟩ = some (.int .i64 xb) ∧ wx.cell? ⟨w1.heap.size, 3, none⟩ = some (.string xn) ∧ wx.cell? ⟨w1.heap.size, 4, none⟩ = some (.slice none 0 0)) (by kernel_rfl) (sK _ ((Below.refl _ _).drew)) (fun hHeld => ?_)
      refine wpAnyH_take (i := 1) (oi := { dst := some 39, op := Go.Op.fieldAddr 33 (Go.Operand.tmp 4) 4, type := 0, pos := _, after := #[], guard := none }) (v := ?_) rfl (by kernel_rfl) (by kernel_rfl) (by kernel_rfl) (fun _ _ _ h => h) (Or.inl ⟨by rfl, ?_⟩) hHeld ?_
      rotate_left
      · (intro wq hSw; (try dsimp only at hSw); (try go_simp); (try with_reducible rfl))
      try simp only [Act.put, List.setIfInBounds_toArray, List.set_cons_zero, List.set_cons_succ]
      refine wpAnyH_take (i := 2) (oi := { dst := some 40, op := Go.Op.load 31 (Go.Operand.tmp 39), type := 31, pos := _, after := #[{ on := 1, ground := Go.Ground.data }], guard := none }) (v := ?_) rfl (by kernel_rfl) (by kernel_rfl) (by kernel_rfl) (fun _ _ _ h => h) (Or.inl ⟨by rfl, ?_⟩) hHeld ?_
      rotate_left
      · (intro wq hSw; (try dsimp only at hSw); (try go_simp); (try with_reducible rfl))
      try simp only [Act.put, List.setIfInBounds_toArray, List.set_cons_zero, List.set_cons_succ]
      refine wpAnyH_take (i := 4) (oi := { dst := some 42, op := Go.Op.load 33 (Go.Operand.tmp 4), type := 33, pos := _, after := #[], guard := none }) (v := ?_) rfl (by kernel_rfl) (by kernel_rfl) (by kernel_rfl) (fun _ _ _ h => h) (Or.inl ⟨by rfl, ?_⟩) hHeld ?_
      rotate_left
      · (intro wq hSw; (try dsimp only at hSw); (try go_simp); (try with_reducible rfl))
      try simp only [Act.put, List.setIfInBounds_toArray, List.set_cons_zero, List.set_cons_succ]
      refine dia_0 W 33 5 [] [.int .i64 xo, .int .i64 xa, .int .i64 xb, .string xn, .slice none 0 0] 0 1 (.cells #[.int .i64 xo, .int .i64 xa, .int .i64 xb, .string xn, .slice none 0 0] 33) (fun k => .slice (some ⟨k, 0, none⟩) 1 1) (iB := 0) (iD := 3) (iE := 5) (iF := 6) (yB := 38) (yD := 41) (yE := 43) (yF := 44) (oB := { dst := some 38, op := Go.Op.buildSlice 31 0 #[], type := 31, pos := _, after := #[], guard := none }) (oD := { dst := some 41, op := Go.Op.call { callee := Go.Callee.builtin Go.Builtin.append, args := #[Go.Operand.tmp 38, Go.Operand.tmp 40], argTypes := #[31, 31] }, type := 31, pos := _, after := #[{ on := 0, ground := Go.Ground.data }, { on := 2, ground := Go.Ground.data }], guard := none }) (oE := { dst := some 43, op := Go.Op.buildSlice 31 1 #[(0, Go.Operand.tmp 42)], type := 31, pos := _, after := #[{ on := 4, ground := Go.Ground.data }], guard := none }) (oF := { dst := some 44, op := Go.Op.call { callee := Go.Callee.builtin Go.Builtin.append, args := #[Go.Operand.tmp 41, Go.Operand.tmp 43], argTypes := #[31, 31] }, type := 31, pos := _, after := #[{ on := 3, ground := Go.Ground.data }, { on := 5, ground := Go.Ground.data }, { on := 3, ground := Go.Ground.chain }], guard := none }) (N := 2) rfl rfl rfl rfl (by kernel_rfl) (by decide) ⟨of_decide_eq_true rfl, of_decide_eq_true rfl, of_decide_eq_true rfl, of_decide_eq_true rfl⟩ (by decide) rfl sK ?hB ?hE ?hD ?hF ?h0 ((Below.refl _ _).drew)
      case hB => intro a w K h; go_simp; exact h
      case hE => intro a w K hag h; have e : a.tmps[42]?.getD undef = .agg #[.int .i64 xo, .int .i64 xa, .int .i64 xb, .string xn, .slice none 0 0] := (by (have := hag 42 (by decide) (by decide) (by decide) (by decide); rw [← Array.getD_eq_getD_getElem?]; exact this)); go_simp; (try simp only [e]); (try go_simp); exact h
      case hD =>
        intro a w K kb hag e1 hb own h
        refine step_append_none _ rfl (.tmp 38) (.tmp 40) _ rfl W.heap.size 33 i0 5 Tryd.underlying31 hi (.slice (some ⟨kb, 0, none⟩) 0 0) 0 [] e1 own (hag 40 (by decide) (by decide) (by decide) (by decide)) ?_
        exact h _ _ own (World.grownBy.refl _ _) (.inl rfl)
      case hF =>
        intro a w K ke vd hag e1 e2 hb own hk h
        refine step_append_lies _ rfl (.tmp 41) (.tmp 43) _ rfl W.heap.size 33 i0 (.agg #[.int .i64 0, .int .i64 0, .int .i64 0, .string ⟨#[]⟩, .slice none 0 0]) 5 64 Tryd.underlying31 hi hz0 hz1 hz2 rfl (by omega) vd 0 [] e1 own ⟨ke, 0, none⟩ 1 1 [.int .i64 xo, .int .i64 xa, .int .i64 xb, .string xn, .slice none 0 0] e2 rfl (World.news_of_block hk) (by simp [Value.oneCell']) (by omega) (by unfold maxLen; omega) (by omega) hb.size _ rfl ?_
        intro b2 cap2 z2 o1 o2 o3 o4
        exact h _ _ o1 o2 (o3.elim (fun e => .inl e.symm) (fun e => .inr (by rw [e]; rfl)))
      case h0 =>
        intro kb ke vd vf w2 hb own hHeld
        obtain ⟨g5, c5, rfl, _, _⟩ := own.form (by omega)
        have qz := ZW.keep hb
        obtain ⟨qz0, qz1, qz2, qz3, qz4, qzl⟩ := qz.cells
        obtain ⟨qf0, qf1, qf2, qf3, qf4⟩ := qz.frozen
        have qa := (AW.keep hb).set_other (p := ⟨w3.heap.size, 4, none⟩) (z := (.slice (some ⟨g5, 0, none⟩) 1 c5)) gne
        obtain ⟨qa0, qa1, qa2, qa3, qa4, qal⟩ := qa.cells
        try simp only [Act.put, List.setIfInBounds_toArray, List.set_cons_zero, List.set_cons_succ]
        refine wpAnyH_take (i := 7) (oi := { dst := some 45, op := Go.Op.fieldAddr 33 (Go.Operand.tmp 6) 4, type := 0, pos := _, after := #[{ on := 0, ground := Go.Ground.phase }, { on := 1, ground := Go.Ground.phase }, { on := 2, ground := Go.Ground.phase }, { on := 3, ground := Go.Ground.phase }, { on := 4, ground := Go.Ground.phase }, { on := 5, ground := Go.Ground.phase }, { on := 6, ground := Go.Ground.phase }], guard := none }) (v := ?_) rfl (by kernel_rfl) (by kernel_rfl) (by kernel_rfl) (fun _ _ _ h => h) (Or.inl ⟨by rfl, ?_⟩) hHeld ?_
        rotate_left
        · (intro wq hSw; (try dsimp only at hSw); (try go_simp); (try with_reducible rfl))
        try simp only [Act.put, List.setIfInBounds_toArray, List.set_cons_zero, List.set_cons_succ]
        refine wpAnyH_ready (rs := [8]) (by kernel_rfl) (by simp) ?_
        refine AllReadyH.cons (o := { dst := none, op := Go.Op.store 31 (Go.Operand.tmp 45) (Go.Operand.tmp 44), type := 0, pos := _, after := #[{ on := 7, ground := Go.Ground.data }, { on := 6, ground := Go.Ground.data }, { on := 6, ground := Go.Ground.chain }, { on := 0, ground := Go.Ground.phase }, { on := 1, ground := Go.Ground.phase }, { on := 2, ground := Go.Ground.phase }, { on := 3, ground := Go.Ground.phase }, { on := 4, ground := Go.Ground.phase }, { on := 5, ground := Go.Ground.phase }, { on := 6, ground := Go.Ground.phase }], guard := none }) rfl (fun KK hKK => ?_) AllReadyH.nil
        go_simp
        refine hKK.out _ _ (⟨qa0, qa1, qa2, qa3, qa4⟩) (fun hHeld => ?_)
        clear hKK KK
        try simp only [Act.put, List.setIfInBounds_toArray, List.set_cons_zero, List.set_cons_succ]
        refine wpAnyH_done (by kernel_rfl) ?_ _
        refine NoPanic.normal ?_
        have hb3 : Below W.heap.size W w2 := hb
        have own3 := ownsRow_setCell_below own (a := ⟨w3.heap.size, 4, none⟩) glz (.slice (some ⟨g5, 0, none⟩) 1 c5)
        have qz' := qz.set4 (.slice (some ⟨g5, 0, none⟩) 1 c5)
        have B3 : Below w3.heap.size w3 (w2.setCell ⟨w3.heap.size, 4, none⟩ (.slice (some ⟨g5, 0, none⟩) 1 c5)) := (below_two BW hb).setCell (p := ⟨w3.heap.size, 4, none⟩) (Nat.le_refl _) _
        have K3 : Kept w.heap.size w3 (w2.setCell ⟨w3.heap.size, 4, none⟩ (.slice (some ⟨g5, 0, none⟩) 1 c5)) := kept_below B3
        have ownf : (w2.setCell ⟨w3.heap.size, 4, none⟩ (.slice (some ⟨g5, 0, none⟩) 1 c5)).ownsRow W.heap.size 33 5 (.slice (some ⟨g5, 0, none⟩) 1 c5) (([] : List Tm).length + 1) (tflat [] (fun _ => undef) ++ [.int .i64 xo, .int .i64 xa, .int .i64 xb, .string xn, .slice none 0 0]) := by rw [tflat_nil]; exact own3
        have TT := topOwn (B := w.heap.size) (d := D) (ks := []) (u := .node xo xa xb xn []) (S := fun _ => undef) (s := .slice none 0 0) ownf (by omega) (fun i hi => absurd hi (Nat.not_lt_zero _)) (fun w' _ => sIn_nil D w')
        replace TT := Lib.hid TT
        replace hHeld := trivial
        go_wp2_with fail
        go_meet
        exact ⟨rfl, _, _, qz', TT.out, B3⟩
    · simp only [Value.slice.injEq] at e1
      obtain ⟨rfl, _, rfl⟩ := e1
      have hUp : Hid (∀ i, i < ks.length → KS w.heap.size D w3 (S i) (ks.getD i tz).ks) := Top.up e3 hR hS
      have hKS : Hid (KS w.heap.size D w3 (.slice (some ⟨bb, 0, none⟩) ks.length sp) ks) := top.out.ks hnms.out
      have hnew : Hid (∀ w', Kept w.heap.size W w' → ∀ j u, (tflat ks S)[j]? = some u → w'.cell? ((⟨bb, 0, none⟩ : Addr).add j) = some u) := fun w' hk => tflat_news (rowS_kept hR ((kept_below BW).trans hk) hb1)
      have hone := Lib.hid (tflat_one hS)
      clear hR hS
      have sK : ∀ w', Below W.heap.size W w' → (fun wx : World => wx.cell? ⟨w1.heap.size, 0, none⟩ = some (.int .i64 xo) ∧ wx.cell? ⟨w1.heap.size, 1, none⟩ = some (.int .i64 xa) ∧ wx.cell? ⟨w1.heap.size, 2, none⟩ = some (.int .i64 xb) ∧ wx.cell? ⟨w1.heap.size, 3, none⟩ = some (.string xn) ∧ wx.cell? ⟨w1.heap.size, 4, none⟩ = some (.slice (some ⟨bb, 0, none⟩) ks.length sp)) w' := fun w' hb => (by obtain ⟨q0, q1, q2, q3, q4, _⟩ := (AW.keep hb).cells; exact ⟨q0, q1, q2, q3, q4⟩)
      refine wp_region_noPanic ?_
      refine wp_region_held_drew (S := fun wx : World => wx.cell? ⟨w1.heap.size, 0, none⟩ = some (.int .i64 xo) ∧ wx.cell? ⟨w1.heap.size, 1, none⟩ = some (.int .i64 xa) ∧ wx.cell? ⟨w1.heap.size, 2, none⟩ = some (.int .i64 xb) ∧ wx.cell? ⟨w1.heap.size, 3, none⟩ = some (.string xn) ∧ wx.cell? ⟨w1.heap.size, 4, none⟩ = some (.slice (some ⟨bb, 0, none⟩) ks.length sp)) (by kernel_rfl) (sK _ ((Below.refl _ _).drew)) (fun hHeld => ?_)
      refine wpAnyH_take (i := 1) (oi := { dst := some 39, op := Go.Op.fieldAddr 33 (Go.Operand.tmp 4) 4, type := 0, pos := _, after := #[], guard := none }) (v := ?_) rfl (by kernel_rfl) (by kernel_rfl) (by kernel_rfl) (fun _ _ _ h => h) (Or.inl ⟨by rfl, ?_⟩) hHeld ?_
      rotate_left
      · (intro wq hSw; (try dsimp only at hSw); (try go_simp); (try with_reducible rfl))
      try simp only [Act.put, List.setIfInBounds_toArray, List.set_cons_zero, List.set_cons_succ]
      refine wpAnyH_take (i := 2) (oi := { dst := some 40, op := Go.Op.load 31 (Go.Operand.tmp 39), type := 31, pos := _, after := #[{ on := 1, ground := Go.Ground.data }], guard := none }) (v := ?_) rfl (by kernel_rfl) (by kernel_rfl) (by kernel_rfl) (fun _ _ _ h => h) (Or.inl ⟨by rfl, ?_⟩) hHeld ?_
      rotate_left
      · (intro wq hSw; (try dsimp only at hSw); (try go_simp); (try with_reducible rfl))
      try simp only [Act.put, List.setIfInBounds_toArray, List.set_cons_zero, List.set_cons_succ]
      refine wpAnyH_take (i := 4) (oi := { dst := some 42, op := Go.Op.load 33 (Go.Operand.tmp 4), type := 33, pos := _, after := #[], guard := none }) (v := ?_) rfl (by kernel_rfl) (by kernel_rfl) (by kernel_rfl) (fun _ _ _ h => h) (Or.inl ⟨by rfl, ?_⟩) hHeld ?_
      rotate_left
      · (intro wq hSw; (try dsimp only at hSw); (try go_simp); (try with_reducible rfl))
      try simp only [Act.put, List.setIfInBounds_toArray, List.set_cons_zero, List.set_cons_succ]
      refine dia_0 W 33 5 (tflat ks S) [.int .i64 xo, .int .i64 xa, .int .i64 xb, .string xn, .slice (some ⟨bb, 0, none⟩) ks.length sp] ks.length (ks.length + 1) (.cells #[.int .i64 xo, .int .i64 xa, .int .i64 xb, .string xn, .slice (some ⟨bb, 0, none⟩) ks.length sp] 33) (fun k => .slice (some ⟨k, 0, none⟩) 1 1) (iB := 0) (iD := 3) (iE := 5) (iF := 6) (yB := 38) (yD := 41) (yE := 43) (yF := 44) (oB := { dst := some 38, op := Go.Op.buildSlice 31 0 #[], type := 31, pos := _, after := #[], guard := none }) (oD := { dst := some 41, op := Go.Op.call { callee := Go.Callee.builtin Go.Builtin.append, args := #[Go.Operand.tmp 38, Go.Operand.tmp 40], argTypes := #[31, 31] }, type := 31, pos := _, after := #[{ on := 0, ground := Go.Ground.data }, { on := 2, ground := Go.Ground.data }], guard := none }) (oE := { dst := some 43, op := Go.Op.buildSlice 31 1 #[(0, Go.Operand.tmp 42)], type := 31, pos := _, after := #[{ on := 4, ground := Go.Ground.data }], guard := none }) (oF := { dst := some 44, op := Go.Op.call { callee := Go.Callee.builtin Go.Builtin.append, args := #[Go.Operand.tmp 41, Go.Operand.tmp 43], argTypes := #[31, 31] }, type := 31, pos := _, after := #[{ on := 3, ground := Go.Ground.data }, { on := 5, ground := Go.Ground.data }, { on := 3, ground := Go.Ground.chain }], guard := none }) (N := 2) rfl rfl rfl rfl (by kernel_rfl) (by decide) ⟨of_decide_eq_true rfl, of_decide_eq_true rfl, of_decide_eq_true rfl, of_decide_eq_true rfl⟩ (by decide) rfl sK ?hB ?hE ?hD ?hF ?h0 ((Below.refl _ _).drew)
      case hB => intro a w K h; go_simp; exact h
      case hE => intro a w K hag h; have e : a.tmps[42]?.getD undef = .agg #[.int .i64 xo, .int .i64 xa, .int .i64 xb, .string xn, .slice (some ⟨bb, 0, none⟩) ks.length sp] := (by (have := hag 42 (by decide) (by decide) (by decide) (by decide); rw [← Array.getD_eq_getD_getElem?]; exact this)); go_simp; (try simp only [e]); (try go_simp); exact h
      case hD =>
        intro a w K kb hag e1 hb own h
        refine step_append_at _ rfl (.tmp 38) (.tmp 40) _ rfl W.heap.size 33 i0 (.agg #[.int .i64 0, .int .i64 0, .int .i64 0, .string ⟨#[]⟩, .slice none 0 0]) 5 64 Tryd.underlying31 hi hz0 hz1 hz2 rfl (by omega) (.slice (some ⟨kb, 0, none⟩) 0 0) 0 [] e1 own ⟨bb, 0, none⟩ ks.length sp (tflat ks S) (hag 40 (by decide) (by decide) (by decide) (by decide)) (tflat_len ks S) (hnew.out _ (kept_below hb)) hone.out (by unfold maxLen; omega) (by omega) hb.size ?_
        intro v' w' o1 o2 o3
        rw [Nat.zero_add] at o1
        exact h v' w' o1 o2 o3
      case hF =>
        intro a w K ke vd hag e1 e2 hb own hk h
        refine step_append_lies _ rfl (.tmp 41) (.tmp 43) _ rfl W.heap.size 33 i0 (.agg #[.int .i64 0, .int .i64 0, .int .i64 0, .string ⟨#[]⟩, .slice none 0 0]) 5 64 Tryd.underlying31 hi hz0 hz1 hz2 rfl (by omega) vd ks.length (tflat ks S) e1 own ⟨ke, 0, none⟩ 1 1 [.int .i64 xo, .int .i64 xa, .int .i64 xb, .string xn, .slice (some ⟨bb, 0, none⟩) ks.length sp] e2 rfl (World.news_of_block hk) (by simp [Value.oneCell']) (by omega) (by unfold maxLen; omega) (by omega) hb.size _ rfl ?_
        intro b2 cap2 z2 o1 o2 o3 o4
        exact h _ _ o1 o2 (o3.elim (fun e => .inl e.symm) (fun e => .inr (by rw [e]; rfl)))
      case h0 =>
        intro kb ke vd vf w2 hb own hHeld
        obtain ⟨g5, c5, rfl, _, _⟩ := own.form (by omega)
        have qz := ZW.keep hb
        obtain ⟨qz0, qz1, qz2, qz3, qz4, qzl⟩ := qz.cells
        obtain ⟨qf0, qf1, qf2, qf3, qf4⟩ := qz.frozen
        have qa := (AW.keep hb).set_other (p := ⟨w3.heap.size, 4, none⟩) (z := (.slice (some ⟨g5, 0, none⟩) (ks.length + 1) c5)) gne
        obtain ⟨qa0, qa1, qa2, qa3, qa4, qal⟩ := qa.cells
        try simp only [Act.put, List.setIfInBounds_toArray, List.set_cons_zero, List.set_cons_succ]
        refine wpAnyH_take (i := 7) (oi := { dst := some 45, op := Go.Op.fieldAddr 33 (Go.Operand.tmp 6) 4, type := 0, pos := _, after := #[{ on := 0, ground := Go.Ground.phase }, { on := 1, ground := Go.Ground.phase }, { on := 2, ground := Go.Ground.phase }, { on := 3, ground := Go.Ground.phase }, { on := 4, ground := Go.Ground.phase }, { on := 5, ground := Go.Ground.phase }, { on := 6, ground := Go.Ground.phase }], guard := none }) (v := ?_) rfl (by kernel_rfl) (by kernel_rfl) (by kernel_rfl) (fun _ _ _ h => h) (Or.inl ⟨by rfl, ?_⟩) hHeld ?_
        rotate_left
        · (intro wq hSw; (try dsimp only at hSw); (try go_simp); (try with_reducible rfl))
        try simp only [Act.put, List.setIfInBounds_toArray, List.set_cons_zero, List.set_cons_succ]
        refine wpAnyH_ready (rs := [8]) (by kernel_rfl) (by simp) ?_
        refine AllReadyH.cons (o := { dst := none, op := Go.Op.store 31 (Go.Operand.tmp 45) (Go.Operand.tmp 44), type := 0, pos := _, after := #[{ on := 7, ground := Go.Ground.data }, { on := 6, ground := Go.Ground.data }, { on := 6, ground := Go.Ground.chain }, { on := 0, ground := Go.Ground.phase }, { on := 1, ground := Go.Ground.phase }, { on := 2, ground := Go.Ground.phase }, { on := 3, ground := Go.Ground.phase }, { on := 4, ground := Go.Ground.phase }, { on := 5, ground := Go.Ground.phase }, { on := 6, ground := Go.Ground.phase }], guard := none }) rfl (fun KK hKK => ?_) AllReadyH.nil
        go_simp
        refine hKK.out _ _ (⟨qa0, qa1, qa2, qa3, qa4⟩) (fun hHeld => ?_)
        clear hKK KK
        try simp only [Act.put, List.setIfInBounds_toArray, List.set_cons_zero, List.set_cons_succ]
        refine wpAnyH_done (by kernel_rfl) ?_ _
        refine NoPanic.normal ?_
        have hb3 : Below W.heap.size W w2 := hb
        have own3 := ownsRow_setCell_below own (a := ⟨w3.heap.size, 4, none⟩) glz (.slice (some ⟨g5, 0, none⟩) (ks.length + 1) c5)
        have qz' := qz.set4 (.slice (some ⟨g5, 0, none⟩) (ks.length + 1) c5)
        have B3 : Below w3.heap.size w3 (w2.setCell ⟨w3.heap.size, 4, none⟩ (.slice (some ⟨g5, 0, none⟩) (ks.length + 1) c5)) := (below_two BW hb).setCell (p := ⟨w3.heap.size, 4, none⟩) (Nat.le_refl _) _
        have K3 : Kept w.heap.size w3 (w2.setCell ⟨w3.heap.size, 4, none⟩ (.slice (some ⟨g5, 0, none⟩) (ks.length + 1) c5)) := kept_below B3
        have TT := topOwn (B := w.heap.size) (d := D) (ks := ks) (u := .node xo xa xb xn ks) (S := S) (s := .slice (some ⟨bb, 0, none⟩) ks.length sp) own3 (by omega) (fun i hi => (hUp.out i hi).on K3) (fun w' hk => hKS.out w' (K3.trans hk))
        replace TT := Lib.hid TT
        replace hHeld := trivial
        go_wp2_with fail
        go_meet
        exact ⟨rfl, _, _, qz', TT.out, B3⟩
  case rest =>
    obtain ⟨rfl, b2, c2, Z, topA, B3⟩ := hcut
    clear gl glz gne AW ZW topW HW BW gwb hi hz0 hz1 hz2
    replace A := A.keep B3; replace B := below_two B B3; replace hd := hd.below B3; replace hs := hs.below B3
    replace top := Lib.hid (top.out.on (kept_below B3))
    have nmA : Nms (ks ++ [.node xo xa xb xn ks]) := fun i hi => by
      by_cases h1 : i < ks.length
      · rw [snoc_getD_lt h1]; exact hnms.out i h1
      · have : i = ks.length := by simp at hi; omega
        subst this; rw [snoc_getD_at]; dsimp only [Tm.nm]; omega
    have HA := (topA.ks nmA).now
    have h0 : Hid (0 ≤ TSV ds D xo xa xb xn ks) := by have h9 := HZ.out; show 0 ≤ TSV ds D xo xa xb xn ks; omega
    have twA : Hid (TW (D + 1) (ks ++ [.node xo xa xb xn ks])) := tw_snoc top.out tw.out wf3.out tw.out
    have h5 : (⟨#[97, 97, 97, 97, 97]⟩ : ByteArray).size = 5 := rfl
    obtain ⟨nn, hnn⟩ : ∃ nn : ByteArray, nn = xn ++ (⟨#[97, 97, 97, 97, 97]⟩ : ByteArray) := ⟨_, rfl⟩
    have h5n : 5 ≤ nn.size := by rw [hnn, ByteArray.size_append, h5]; omega
    have CA : Hid (∀ w', Decls w' (.slice (some ⟨bd, 0, none⟩) ds.length capd) ds → SIn (D + 1) w' (.slice (some ⟨b2, 0, none⟩) (ks.length + 1) c2) (ks ++ [.node xo xa xb xn ks]) → Calls Tryd.prog 10 #[.slice (some ⟨bd, 0, none⟩) ds.length capd, .agg #[.int .i64 xo, .int .i64 xa, .int .i64 xb, .string xn, (.slice (some ⟨b2, 0, none⟩) (ks.length + 1) c2)]] w' fun e w2 => e = .returned (.int .i64 (-1)) ∧ Below w'.heap.size w' w2) := fun w' h1 h2 =>
      (termSort_impl _ ds (D + 1) xo xa xb xn _ _ w' h1 h2 twA.out wf3.out.1).mono (by rintro e w2 ⟨rfl, hb⟩; rw [bent_kid h0.out (by rw [kS_length h2, kS_length hs]; simp)]; exact ⟨rfl, hb⟩)
    have CB : Hid (∀ w', Decls w' (.slice (some ⟨bd, 0, none⟩) ds.length capd) ds → SIn D w' (.slice sa ks.length sp) ks → Calls Tryd.prog 10 #[.slice (some ⟨bd, 0, none⟩) ds.length capd, .agg #[.int .i64 xo, .int .i64 xa, .int .i64 xb, .string nn, .slice sa ks.length sp]] w' fun e w2 => e = .returned (.int .i64 (-1)) ∧ Below w'.heap.size w' w2) := fun w' h1 h2 =>
      (termSort_impl _ ds D xo xa xb nn _ _ w' h1 h2 tw.out wf3.out.1).mono (by rintro e w2 ⟨rfl, hb⟩; rw [bent_name h0.out (h5n)]; exact ⟨rfl, hb⟩)
    clear topA B3 twA nmA
    have cat1 : ∀ wx : World, (Op.stringOp .add xn ⟨#[97, 97, 97, 97, 97]⟩).run Tryd.prog wx = .ok (.string nn) wx := fun wx => by rw [hnn]; exact run_string_add_sum (P := Tryd.prog) (w := wx) xn _ (by rw [h5]; omega)
    clear hnn h5
    obtain ⟨A0, A1, A2, A3, A4, A5⟩ := A.cells
    go_upto_region 10 with fail
    go_upto_region 11 with fail
    go_upto_region 12 with fail
    clear cat1 A0 A1 A2 A3 A4 A5
    obtain ⟨Y, hY⟩ : ∃ Y, Y = (wc.alloc (.cells #[.int .i64 xo, .int .i64 xa, .int .i64 xb, .string nn, .slice sa ks.length sp] 33)).alloc (.cells #[.int .i64 xo, .int .i64 xa, .int .i64 xb, .string xn, .slice sa ks.length sp] 33) := ⟨_, rfl⟩
    rw [← hY]
    have BY : Below wc.heap.size wc Y := by rw [hY]; exact below_step (below_self_alloc wc _) _
    have A7 : Blk5 Y wc.heap.size (.int .i64 xo) (.int .i64 xa) (.int .i64 xb) (.string nn) (.slice sa ks.length sp) 33 := by rw [hY]; exact (blk5_new wc _ _ _ _ _ _).alloc _
    have A8 : Blk5 Y (wc.heap.size + 1) (.int .i64 xo) (.int .i64 xa) (.int .i64 xb) (.string xn) (.slice sa ks.length sp) 33 := by rw [hY]; exact blk5_new1 wc _ _ _ _ _ _ _
    have hsY : wc.heap.size + 1 < Y.heap.size := A8.lt
    have TX : TopX w.heap.size wc.heap.size D Y (.slice sa ks.length sp) ks := Top.x top.out (kept_below BY) (Nat.le_refl _)
    have gwc : w.heap.size ≤ wc.heap.size := B.size
    clear hY
    by_cases hz0 : 0 < z
    · have AY := A.keep BY
      have A8r := A8.alloc (.cells #[.int .i64 xo, .int .i64 xa, .int .i64 xb, .string xn, .slice sa ks.length sp, .int .i64 xo, .int .i64 xa, .int .i64 xb, .string xn, .slice sa ks.length sp] 33)
      obtain ⟨A0, A1, A2, A3, A4, A5⟩ := AY.cells; obtain ⟨D0, D1, D2, D3, D4⟩ := A8r.frozen; obtain ⟨E0, E1, E2, E3, E4, _⟩ := A8r.cells
      replace hsY := Lib.hid hsY
      clear A5
      go_wp2_with fail
      replace hsY := hsY.out
      clear A0 A1 A2 A3 A4 D0 D1 D2 D3 D4 E0 E1 E2 E3 E4 AY
      have TX2 := (mkTopX2 (u := .node xo xa xb xn ks) 33 (TX.kx hnms.out) (by omega) (by omega)).on (keptX_set (keptX_set (keptX_set (keptX_set (keptX_set (KeptX.refl w.heap.size wc.heap.size (Y.alloc (.cells #[.int .i64 xo, .int .i64 xa, .int .i64 xb, .string xn, .slice sa ks.length sp, .int .i64 xo, .int .i64 xa, .int .i64 xb, .string xn, .slice sa ks.length sp] 33))) (q := ⟨wc.heap.size + 1, 0, none⟩) (.inr rfl) (.int .i64 15)) (q := ⟨wc.heap.size + 1, 1, none⟩) (.inr rfl) (.int .i64 0)) (q := ⟨wc.heap.size + 1, 2, none⟩) (.inr rfl) (.int .i64 0)) (q := ⟨wc.heap.size + 1, 3, none⟩) (.inr rfl) (.string ⟨#[]⟩)) (q := ⟨wc.heap.size + 1, 4, none⟩) (.inr rfl) (.slice (some ⟨Y.heap.size, 0, none⟩) 2 2))
      have hw15 : Wf3 (.node 15 0 0 ⟨#[]⟩ [.node xo xa xb xn ks, .node xo xa xb xn ks]) := wf3_node (by decide) (by decide) (by decide) (by decide) (by decide) (by decide)
      go_loopw [9] (fun i wr => ∃ (k : Nat) (u : Tm) (s' : Value), i = .int .i64 k ∧ k ≤ 7 ∧ Blk5 wr (wc.heap.size + 1) (.int .i64 u.op) (.int .i64 u.a) (.int .i64 u.b) (.string u.nm) s' 33 ∧ TopX w.heap.size wc.heap.size ((D + 1) + k) wr s' u.ks ∧ Wf3 u ∧ u.nm.size ≤ 9223372036854775807 ∧ Nms u.ks ∧ TW ((D + 1) + k) u.ks ∧ k + 1 ≤ DD ((D + 1) + k) u.ks ∧ Blk5 wr wc.heap.size (.int .i64 xo) (.int .i64 xa) (.int .i64 xb) (.string nn) (.slice sa ks.length sp) 33 ∧ Below wc.heap.size wc wr ∧ wc.heap.size + 1 < wr.heap.size) (fun i _ => 7 - (intOf i).toNat)
      case atStart => exact ⟨0, .node 15 0 0 ⟨#[]⟩ [.node xo xa xb xn ks, .node xo xa xb xn ks], _, rfl, by omega, (((((A8r.set0 (.int .i64 15)).set1 (.int .i64 0)).set2 (.int .i64 0)).set3 (.string ⟨#[]⟩)).set4 (.slice (some ⟨Y.heap.size, 0, none⟩) 2 2)), TX2, hw15, by simp [Tm.nm, ByteArray.size], nms_two (by dsimp only [Tm.nm]; omega), tw_two wf3.out tw.out, dd_pos _ _, ((((((A7.alloc (.cells #[.int .i64 xo, .int .i64 xa, .int .i64 xb, .string xn, .slice sa ks.length sp, .int .i64 xo, .int .i64 xa, .int .i64 xb, .string xn, .slice sa ks.length sp] 33)).set_other (p := ⟨wc.heap.size + 1, 0, none⟩) (z := .int .i64 15) (by simp)).set_other (p := ⟨wc.heap.size + 1, 1, none⟩) (z := .int .i64 0) (by simp)).set_other (p := ⟨wc.heap.size + 1, 2, none⟩) (z := .int .i64 0) (by simp)).set_other (p := ⟨wc.heap.size + 1, 3, none⟩) (z := .string ⟨#[]⟩) (by simp)).set_other (p := ⟨wc.heap.size + 1, 4, none⟩) (z := .slice (some ⟨Y.heap.size, 0, none⟩) 2 2) (by simp)), ((((((below_two BY (below_self_alloc Y (.cells #[.int .i64 xo, .int .i64 xa, .int .i64 xb, .string xn, .slice sa ks.length sp, .int .i64 xo, .int .i64 xa, .int .i64 xb, .string xn, .slice sa ks.length sp] 33))).setCell (p := ⟨wc.heap.size + 1, 0, none⟩) (Nat.le_succ _) (.int .i64 15)).setCell (p := ⟨wc.heap.size + 1, 1, none⟩) (Nat.le_succ _) (.int .i64 0)).setCell (p := ⟨wc.heap.size + 1, 2, none⟩) (Nat.le_succ _) (.int .i64 0)).setCell (p := ⟨wc.heap.size + 1, 3, none⟩) (Nat.le_succ _) (.string ⟨#[]⟩)).setCell (p := ⟨wc.heap.size + 1, 4, none⟩) (Nat.le_succ _) (.slice (some ⟨Y.heap.size, 0, none⟩) 2 2)), by simp; omega⟩
      case round =>
        clear A7 A8 A8r TX TX2 BY hsY hw15
        obtain ⟨k, u, s', rfl, hk, A8, TX, uw, un, unm, utw, udd, A7, BX, hs5⟩ := hrel
        obtain ⟨sb, sq, rfl⟩ := TX.top.form
        replace TX := Lib.hid TX; replace uw := Lib.hid uw; replace un := Lib.hid un; replace unm := Lib.hid unm; replace utw := Lib.hid utw; replace udd := Lib.hid udd; replace BX := Lib.hid BX
        by_cases hlt : k < 7
        · have hk1 : (k : Int) < 7 := by omega
          have A9 := A8.alloc (.cells #[.int .i64 u.op, .int .i64 u.a, .int .i64 u.b, .string u.nm, .slice sb u.ks.length sq] 33)
          obtain ⟨C0, C1, C2, C3, C4, C5⟩ := A8.cells; obtain ⟨D0, D1, D2, D3, D4⟩ := A9.frozen; obtain ⟨E0, E1, E2, E3, E4, _⟩ := A9.cells
          clear C5
          replace hs5 := Lib.hid hs5
          go_wp2_with fail
          replace hs5 := hs5.out
          clear C0 C1 C2 C3 C4 D0 D1 D2 D3 D4 E0 E1 E2 E3 E4
          have TX2 := (mkTopX 33 (TX.out.kx unm.out) (by omega) (by omega)).on (keptX_set (keptX_set (keptX_set (keptX_set (keptX_set (KeptX.refl w.heap.size wc.heap.size (wr.alloc (.cells #[.int .i64 u.op, .int .i64 u.a, .int .i64 u.b, .string u.nm, .slice sb u.ks.length sq] 33))) (q := ⟨wc.heap.size + 1, 0, none⟩) (.inr rfl) (.int .i64 25)) (q := ⟨wc.heap.size + 1, 1, none⟩) (.inr rfl) (.int .i64 0)) (q := ⟨wc.heap.size + 1, 2, none⟩) (.inr rfl) (.int .i64 0)) (q := ⟨wc.heap.size + 1, 3, none⟩) (.inr rfl) (.string ⟨#[]⟩)) (q := ⟨wc.heap.size + 1, 4, none⟩) (.inr rfl) (.slice (some ⟨wr.heap.size, 0, none⟩) 1 1))
          exact ⟨⟨k + 1, .node 25 0 0 ⟨#[]⟩ [u], .slice (some ⟨wr.heap.size, 0, none⟩) 1 1, by go_num, by omega, (((((A9.set0 (.int .i64 25)).set1 (.int .i64 0)).set2 (.int .i64 0)).set3 (.string ⟨#[]⟩)).set4 (.slice (some ⟨wr.heap.size, 0, none⟩) 1 1)), TX2, wf3_node (by decide) (by decide) (by decide) (by decide) (by decide) (by decide), by simp [Tm.nm, ByteArray.size], nms_one un.out, tw_one uw.out utw.out, by have := udd.out; rw [show (D + 1) + (k + 1) = ((D + 1) + k) + 1 from rfl, show (Tm.node 25 0 0 ⟨#[]⟩ [u]).ks = [u] from rfl, dd_one]; omega, ((((((A7.alloc (.cells #[.int .i64 u.op, .int .i64 u.a, .int .i64 u.b, .string u.nm, .slice sb u.ks.length sq] 33)).set_other (p := ⟨wc.heap.size + 1, 0, none⟩) (z := .int .i64 25) (by simp)).set_other (p := ⟨wc.heap.size + 1, 1, none⟩) (z := .int .i64 0) (by simp)).set_other (p := ⟨wc.heap.size + 1, 2, none⟩) (z := .int .i64 0) (by simp)).set_other (p := ⟨wc.heap.size + 1, 3, none⟩) (z := .string ⟨#[]⟩) (by simp)).set_other (p := ⟨wc.heap.size + 1, 4, none⟩) (z := .slice (some ⟨wr.heap.size, 0, none⟩) 1 1) (by simp)), ((((((below_two BX.out (below_self_alloc wr (.cells #[.int .i64 u.op, .int .i64 u.a, .int .i64 u.b, .string u.nm, .slice sb u.ks.length sq] 33))).setCell (p := ⟨wc.heap.size + 1, 0, none⟩) (Nat.le_succ _) (.int .i64 25)).setCell (p := ⟨wc.heap.size + 1, 1, none⟩) (Nat.le_succ _) (.int .i64 0)).setCell (p := ⟨wc.heap.size + 1, 2, none⟩) (Nat.le_succ _) (.int .i64 0)).setCell (p := ⟨wc.heap.size + 1, 3, none⟩) (Nat.le_succ _) (.string ⟨#[]⟩)).setCell (p := ⟨wc.heap.size + 1, 4, none⟩) (Nat.le_succ _) (.slice (some ⟨wr.heap.size, 0, none⟩) 1 1)), by simp; omega⟩, by simp [intOf]; omega⟩
        · have hk7 : k = 7 := by omega
          subst hk7
          have hC := (TX.out.top.ks unm.out).now
          have CC : Hid (∀ w', Decls w' (.slice (some ⟨bd, 0, none⟩) ds.length capd) ds → SIn ((D + 1) + 7) w' (.slice sb u.ks.length sq) u.ks → Calls Tryd.prog 10 #[.slice (some ⟨bd, 0, none⟩) ds.length capd, .agg #[.int .i64 u.op, .int .i64 u.a, .int .i64 u.b, .string u.nm, .slice sb u.ks.length sq]] w' fun e w2 => e = .returned (.int .i64 (-1)) ∧ Below w'.heap.size w' w2) := fun w' h1 h2 =>
            (termSort_impl _ ds ((D + 1) + 7) u.op u.a u.b u.nm _ _ w' h1 h2 utw.out uw.out.1).mono (by rintro e w2 ⟨rfl, hb⟩; rw [bent_deep (by have := udd.out; omega)]; exact ⟨rfl, hb⟩)
          have CE : Hid (∀ w', Decls w' (.slice (some ⟨bd, 0, none⟩) ds.length capd) ds → SIn (D + 1) w' (.slice (some ⟨wr.heap.size, 0, none⟩) 1 1) [.node xo xa xb xn ks] → Calls Tryd.prog 10 #[.slice (some ⟨bd, 0, none⟩) ds.length capd, .agg #[.int .i64 25, .int .i64 0, .int .i64 0, .string ⟨#[]⟩, .slice (some ⟨wr.heap.size, 0, none⟩) 1 1]] w' fun e w2 => e = .returned (.int .i64 (-1)) ∧ Below w'.heap.size w' w2) := fun w' h1 h2 =>
            (termSort_impl _ ds (D + 1) 25 0 0 ⟨#[]⟩ _ _ w' h1 h2 (tw_one wf3.out tw.out) (wf_of (by decide) (by decide))).mono (by rintro e w2 ⟨rfl, hb⟩; rw [(bent_not (u := .node xo xa xb xn ks) HZ.out hz0)]; exact ⟨rfl, hb⟩)
          replace A := A.keep BX.out; replace Z := Z.keep BX.out; replace hd := hd.below BX.out; replace hs := hs.below BX.out; replace HA := HA.below BX.out; replace B := below_two B BX.out
          clear TX uw un unm utw udd BX hs5 gwc top hk hlt
          obtain ⟨A0, A1, A2, A3, A4, A5⟩ := A.cells
          go_upto_region 20 with fail
          clear A0 A1 A2 A3 A4 A5
          obtain ⟨Q, hQ⟩ : ∃ Q, Q = (((wr.alloc (.cells #[.int .i64 xo, .int .i64 xa, .int .i64 xb, .string xn, .slice sa ks.length sp] 33)).alloc (.cells #[.int .i64 25, .int .i64 0, .int .i64 0, .string ⟨#[]⟩, .slice (some ⟨wr.heap.size, 0, none⟩) 1 1] 33)).alloc (.cells #[.int .i64 xo, .int .i64 xa, .int .i64 xb, .string xn, .slice sa ks.length sp] 33)).alloc (.cells #[.int .i64 1, .int .i64 0, .int .i64 0, .string ⟨#[]⟩, .slice (some ⟨wr.heap.size + 1 + 1, 0, none⟩) 1 1] 33) := ⟨_, rfl⟩
          rw [← hQ]
          have BQ : Below wr.heap.size wr Q := by rw [hQ]; exact below_step (below_step (below_step (below_self_alloc wr _) _) _) _
          have HE : SIn (D + 1) Q (.slice (some ⟨wr.heap.size, 0, none⟩) 1 1) [.node xo xa xb xn ks] := by rw [hQ]; exact (sIn_one (u := .node xo xa xb xn ks) 33 hs (by dsimp only [Tm.nm]; omega)).below (below_step (below_step (below_self_alloc _ _) _) _)
          have TE : Blk5 Q (wr.heap.size + 1) (.int .i64 25) (.int .i64 0) (.int .i64 0) (.string ⟨#[]⟩) (.slice (some ⟨wr.heap.size, 0, none⟩) 1 1) 33 := by rw [hQ]; exact ((blk5_new1 wr _ _ _ _ _ _ _).alloc _).alloc _
          replace Z := Z.keep BQ; replace A7 := A7.keep BQ; replace A8 := A8.keep BQ; replace hd := hd.below BQ; replace HA := HA.below BQ; replace hs := hs.below BQ; replace hC := hC.below BQ; replace B := below_two B BQ
          clear hQ BQ A
          have dz2 : (z == 0) = false := by simp; omega
          obtain ⟨Z0, Z1, Z2, Z3, Z4, Z5⟩ := Z.cells
          obtain ⟨A70, A71, A72, A73, A74, A75⟩ := A7.cells
          obtain ⟨A80, A81, A82, A83, A84, A85⟩ := A8.cells
          obtain ⟨TE0, TE1, TE2, TE3, TE4, TE5⟩ := TE.cells
          go_wp2_with fail
          refine (CA.out _ hd HA).mono ?_; rintro e q0 ⟨rfl, hb0⟩
          clear Z0 Z1 Z2 Z3 Z4 Z5 A70 A71 A72 A73 A74 A75 A80 A81 A82 A83 A84 A85 TE0 TE1 TE2 TE3 TE4 TE5
          replace Z := Z.keep hb0; replace A7 := A7.keep hb0; replace A8 := A8.keep hb0; replace TE := TE.keep hb0; replace hd := hd.below hb0; replace HA := HA.below hb0; replace hs := hs.below hb0; replace hC := hC.below hb0; replace HE := HE.below hb0; replace B := below_two B hb0; clear hb0 CA
          obtain ⟨Z0, Z1, Z2, Z3, Z4, Z5⟩ := Z.cells
          obtain ⟨A70, A71, A72, A73, A74, A75⟩ := A7.cells
          obtain ⟨A80, A81, A82, A83, A84, A85⟩ := A8.cells
          obtain ⟨TE0, TE1, TE2, TE3, TE4, TE5⟩ := TE.cells
          go_wp2_with fail
          refine (CB.out _ hd hs).mono ?_; rintro e q1 ⟨rfl, hb1⟩
          clear Z0 Z1 Z2 Z3 Z4 Z5 A70 A71 A72 A73 A74 A75 A80 A81 A82 A83 A84 A85 TE0 TE1 TE2 TE3 TE4 TE5
          replace Z := Z.keep hb1; replace A7 := A7.keep hb1; replace A8 := A8.keep hb1; replace TE := TE.keep hb1; replace hd := hd.below hb1; replace HA := HA.below hb1; replace hs := hs.below hb1; replace hC := hC.below hb1; replace HE := HE.below hb1; replace B := below_two B hb1; clear hb1 CB
          obtain ⟨Z0, Z1, Z2, Z3, Z4, Z5⟩ := Z.cells
          obtain ⟨A70, A71, A72, A73, A74, A75⟩ := A7.cells
          obtain ⟨A80, A81, A82, A83, A84, A85⟩ := A8.cells
          obtain ⟨TE0, TE1, TE2, TE3, TE4, TE5⟩ := TE.cells
          go_wp2_with fail
          refine (CC.out _ hd hC).mono ?_; rintro e q2 ⟨rfl, hb2⟩
          clear Z0 Z1 Z2 Z3 Z4 Z5 A70 A71 A72 A73 A74 A75 A80 A81 A82 A83 A84 A85 TE0 TE1 TE2 TE3 TE4 TE5
          replace Z := Z.keep hb2; replace A7 := A7.keep hb2; replace A8 := A8.keep hb2; replace TE := TE.keep hb2; replace hd := hd.below hb2; replace HA := HA.below hb2; replace hs := hs.below hb2; replace hC := hC.below hb2; replace HE := HE.below hb2; replace B := below_two B hb2; clear hb2 CC
          obtain ⟨Z0, Z1, Z2, Z3, Z4, Z5⟩ := Z.cells
          obtain ⟨A70, A71, A72, A73, A74, A75⟩ := A7.cells
          obtain ⟨A80, A81, A82, A83, A84, A85⟩ := A8.cells
          obtain ⟨TE0, TE1, TE2, TE3, TE4, TE5⟩ := TE.cells
          go_wp2_with fail
          refine (CE.out _ hd HE).mono ?_; rintro e q3 ⟨rfl, hb3⟩
          clear Z0 Z1 Z2 Z3 Z4 Z5 A70 A71 A72 A73 A74 A75 A80 A81 A82 A83 A84 A85 TE0 TE1 TE2 TE3 TE4 TE5
          replace Z := Z.keep hb3; replace A7 := A7.keep hb3; replace A8 := A8.keep hb3; replace TE := TE.keep hb3; replace hd := hd.below hb3; replace HA := HA.below hb3; replace hs := hs.below hb3; replace hC := hC.below hb3; replace HE := HE.below hb3; replace B := below_two B hb3; clear hb3 CE
          obtain ⟨Z0, Z1, Z2, Z3, Z4, Z5⟩ := Z.cells
          obtain ⟨A70, A71, A72, A73, A74, A75⟩ := A7.cells
          obtain ⟨A80, A81, A82, A83, A84, A85⟩ := A8.cells
          obtain ⟨TE0, TE1, TE2, TE3, TE4, TE5⟩ := TE.cells
          go_wp2_with fail
          go_ret
          exact ⟨rfl, B⟩
    · have dz0 : decide (0 < z) = false := by simpa using hz0
      go_wp2_with fail
      go_loopw [9] (fun i wr => ∃ (k : Nat) (u : Tm) (s' : Value), i = .int .i64 k ∧ k ≤ 7 ∧ Blk5 wr (wc.heap.size + 1) (.int .i64 u.op) (.int .i64 u.a) (.int .i64 u.b) (.string u.nm) s' 33 ∧ TopX w.heap.size wc.heap.size (D + k) wr s' u.ks ∧ Wf3 u ∧ u.nm.size ≤ 9223372036854775807 ∧ Nms u.ks ∧ TW (D + k) u.ks ∧ k + 1 ≤ DD (D + k) u.ks ∧ Blk5 wr wc.heap.size (.int .i64 xo) (.int .i64 xa) (.int .i64 xb) (.string nn) (.slice sa ks.length sp) 33 ∧ Below wc.heap.size wc wr ∧ wc.heap.size + 1 < wr.heap.size) (fun i _ => 7 - (intOf i).toNat)
      case atStart => exact ⟨0, .node xo xa xb xn ks, _, rfl, by omega, A8, TX, wf3.out, by dsimp only [Tm.nm]; omega, hnms.out, tw.out, dd_pos _ _, A7, BY, hsY⟩
      case round =>
        clear A7 A8 TX BY hsY
        obtain ⟨k, u, s', rfl, hk, A8, TX, uw, un, unm, utw, udd, A7, BX, hs5⟩ := hrel
        obtain ⟨sb, sq, rfl⟩ := TX.top.form
        replace TX := Lib.hid TX; replace uw := Lib.hid uw; replace un := Lib.hid un; replace unm := Lib.hid unm; replace utw := Lib.hid utw; replace udd := Lib.hid udd; replace BX := Lib.hid BX
        by_cases hlt : k < 7
        · have hk1 : (k : Int) < 7 := by omega
          have A9 := A8.alloc (.cells #[.int .i64 u.op, .int .i64 u.a, .int .i64 u.b, .string u.nm, .slice sb u.ks.length sq] 33)
          obtain ⟨C0, C1, C2, C3, C4, C5⟩ := A8.cells; obtain ⟨D0, D1, D2, D3, D4⟩ := A9.frozen; obtain ⟨E0, E1, E2, E3, E4, _⟩ := A9.cells
          clear C5
          replace hs5 := Lib.hid hs5
          go_wp2_with fail
          replace hs5 := hs5.out
          clear C0 C1 C2 C3 C4 D0 D1 D2 D3 D4 E0 E1 E2 E3 E4
          have TX2 := (mkTopX 33 (TX.out.kx unm.out) (by omega) (by omega)).on (keptX_set (keptX_set (keptX_set (keptX_set (keptX_set (KeptX.refl w.heap.size wc.heap.size (wr.alloc (.cells #[.int .i64 u.op, .int .i64 u.a, .int .i64 u.b, .string u.nm, .slice sb u.ks.length sq] 33))) (q := ⟨wc.heap.size + 1, 0, none⟩) (.inr rfl) (.int .i64 25)) (q := ⟨wc.heap.size + 1, 1, none⟩) (.inr rfl) (.int .i64 0)) (q := ⟨wc.heap.size + 1, 2, none⟩) (.inr rfl) (.int .i64 0)) (q := ⟨wc.heap.size + 1, 3, none⟩) (.inr rfl) (.string ⟨#[]⟩)) (q := ⟨wc.heap.size + 1, 4, none⟩) (.inr rfl) (.slice (some ⟨wr.heap.size, 0, none⟩) 1 1))
          exact ⟨⟨k + 1, .node 25 0 0 ⟨#[]⟩ [u], .slice (some ⟨wr.heap.size, 0, none⟩) 1 1, by go_num, by omega, (((((A9.set0 (.int .i64 25)).set1 (.int .i64 0)).set2 (.int .i64 0)).set3 (.string ⟨#[]⟩)).set4 (.slice (some ⟨wr.heap.size, 0, none⟩) 1 1)), TX2, wf3_node (by decide) (by decide) (by decide) (by decide) (by decide) (by decide), by simp [Tm.nm, ByteArray.size], nms_one un.out, tw_one uw.out utw.out, by have := udd.out; rw [show D + (k + 1) = (D + k) + 1 from rfl, show (Tm.node 25 0 0 ⟨#[]⟩ [u]).ks = [u] from rfl, dd_one]; omega, ((((((A7.alloc (.cells #[.int .i64 u.op, .int .i64 u.a, .int .i64 u.b, .string u.nm, .slice sb u.ks.length sq] 33)).set_other (p := ⟨wc.heap.size + 1, 0, none⟩) (z := .int .i64 25) (by simp)).set_other (p := ⟨wc.heap.size + 1, 1, none⟩) (z := .int .i64 0) (by simp)).set_other (p := ⟨wc.heap.size + 1, 2, none⟩) (z := .int .i64 0) (by simp)).set_other (p := ⟨wc.heap.size + 1, 3, none⟩) (z := .string ⟨#[]⟩) (by simp)).set_other (p := ⟨wc.heap.size + 1, 4, none⟩) (z := .slice (some ⟨wr.heap.size, 0, none⟩) 1 1) (by simp)), ((((((below_two BX.out (below_self_alloc wr (.cells #[.int .i64 u.op, .int .i64 u.a, .int .i64 u.b, .string u.nm, .slice sb u.ks.length sq] 33))).setCell (p := ⟨wc.heap.size + 1, 0, none⟩) (Nat.le_succ _) (.int .i64 25)).setCell (p := ⟨wc.heap.size + 1, 1, none⟩) (Nat.le_succ _) (.int .i64 0)).setCell (p := ⟨wc.heap.size + 1, 2, none⟩) (Nat.le_succ _) (.int .i64 0)).setCell (p := ⟨wc.heap.size + 1, 3, none⟩) (Nat.le_succ _) (.string ⟨#[]⟩)).setCell (p := ⟨wc.heap.size + 1, 4, none⟩) (Nat.le_succ _) (.slice (some ⟨wr.heap.size, 0, none⟩) 1 1)), by simp; omega⟩, by simp [intOf]; omega⟩
        · have hk7 : k = 7 := by omega
          subst hk7
          have hC := (TX.out.top.ks unm.out).now
          have CC : Hid (∀ w', Decls w' (.slice (some ⟨bd, 0, none⟩) ds.length capd) ds → SIn (D + 7) w' (.slice sb u.ks.length sq) u.ks → Calls Tryd.prog 10 #[.slice (some ⟨bd, 0, none⟩) ds.length capd, .agg #[.int .i64 u.op, .int .i64 u.a, .int .i64 u.b, .string u.nm, .slice sb u.ks.length sq]] w' fun e w2 => e = .returned (.int .i64 (-1)) ∧ Below w'.heap.size w' w2) := fun w' h1 h2 =>
            (termSort_impl _ ds (D + 7) u.op u.a u.b u.nm _ _ w' h1 h2 utw.out uw.out.1).mono (by rintro e w2 ⟨rfl, hb⟩; rw [bent_deep (by have := udd.out; omega)]; exact ⟨rfl, hb⟩)
          have CE : Hid (∀ w', Decls w' (.slice (some ⟨bd, 0, none⟩) ds.length capd) ds → SIn (D + 1) w' (.slice (some ⟨wr.heap.size + 1 + 1, 0, none⟩) 1 1) [.node xo xa xb xn ks] → Calls Tryd.prog 10 #[.slice (some ⟨bd, 0, none⟩) ds.length capd, .agg #[.int .i64 1, .int .i64 0, .int .i64 0, .string ⟨#[]⟩, .slice (some ⟨wr.heap.size + 1 + 1, 0, none⟩) 1 1]] w' fun e w2 => e = .returned (.int .i64 (-1)) ∧ Below w'.heap.size w' w2) := fun w' h1 h2 =>
            (termSort_impl _ ds (D + 1) 1 0 0 ⟨#[]⟩ _ _ w' h1 h2 (tw_one wf3.out tw.out) (wf_of (by decide) (by decide))).mono (by rintro e w2 ⟨rfl, hb⟩; rw [(bent_flip (u := .node xo xa xb xn ks) (by have h9 := HZ.out; dsimp only [Tm.op, Tm.a, Tm.b, Tm.nm, Tm.ks]; omega))]; exact ⟨rfl, hb⟩)
          replace A := A.keep BX.out; replace Z := Z.keep BX.out; replace hd := hd.below BX.out; replace hs := hs.below BX.out; replace HA := HA.below BX.out; replace B := below_two B BX.out
          clear TX uw un unm utw udd BX hs5 gwc top hk hlt
          obtain ⟨A0, A1, A2, A3, A4, A5⟩ := A.cells
          go_upto_region 20 with fail
          clear A0 A1 A2 A3 A4 A5
          obtain ⟨Q, hQ⟩ : ∃ Q, Q = (((wr.alloc (.cells #[.int .i64 xo, .int .i64 xa, .int .i64 xb, .string xn, .slice sa ks.length sp] 33)).alloc (.cells #[.int .i64 25, .int .i64 0, .int .i64 0, .string ⟨#[]⟩, .slice (some ⟨wr.heap.size, 0, none⟩) 1 1] 33)).alloc (.cells #[.int .i64 xo, .int .i64 xa, .int .i64 xb, .string xn, .slice sa ks.length sp] 33)).alloc (.cells #[.int .i64 1, .int .i64 0, .int .i64 0, .string ⟨#[]⟩, .slice (some ⟨wr.heap.size + 1 + 1, 0, none⟩) 1 1] 33) := ⟨_, rfl⟩
          rw [← hQ]
          have BQ : Below wr.heap.size wr Q := by rw [hQ]; exact below_step (below_step (below_step (below_self_alloc wr _) _) _) _
          have HE : SIn (D + 1) Q (.slice (some ⟨wr.heap.size + 1 + 1, 0, none⟩) 1 1) [.node xo xa xb xn ks] := by
            have hs2 := hs.below (below_step (below_self_alloc wr (.cells #[.int .i64 xo, .int .i64 xa, .int .i64 xb, .string xn, .slice sa ks.length sp] 33)) (.cells #[.int .i64 25, .int .i64 0, .int .i64 0, .string ⟨#[]⟩, .slice (some ⟨wr.heap.size, 0, none⟩) 1 1] 33))
            have := (sIn_one (u := .node xo xa xb xn ks) 33 hs2 (by dsimp only [Tm.nm]; omega)).below (below_self_alloc _ (.cells #[.int .i64 1, .int .i64 0, .int .i64 0, .string ⟨#[]⟩, .slice (some ⟨wr.heap.size + 1 + 1, 0, none⟩) 1 1] 33))
            rw [show ((wr.alloc (.cells #[.int .i64 xo, .int .i64 xa, .int .i64 xb, .string xn, .slice sa ks.length sp] 33)).alloc (.cells #[.int .i64 25, .int .i64 0, .int .i64 0, .string ⟨#[]⟩, .slice (some ⟨wr.heap.size, 0, none⟩) 1 1] 33)).heap.size = wr.heap.size + 1 + 1 by simp] at this
            rw [hQ]; exact this
          have TE : Blk5 Q (wr.heap.size + 1 + 1 + 1) (.int .i64 1) (.int .i64 0) (.int .i64 0) (.string ⟨#[]⟩) (.slice (some ⟨wr.heap.size + 1 + 1, 0, none⟩) 1 1) 33 := by
            have := blk5_new1 ((wr.alloc (.cells #[.int .i64 xo, .int .i64 xa, .int .i64 xb, .string xn, .slice sa ks.length sp] 33)).alloc (.cells #[.int .i64 25, .int .i64 0, .int .i64 0, .string ⟨#[]⟩, .slice (some ⟨wr.heap.size, 0, none⟩) 1 1] 33)) (.cells #[.int .i64 xo, .int .i64 xa, .int .i64 xb, .string xn, .slice sa ks.length sp] 33) (.int .i64 1) (.int .i64 0) (.int .i64 0) (.string ⟨#[]⟩) (.slice (some ⟨wr.heap.size + 1 + 1, 0, none⟩) 1 1) 33
            rw [show ((wr.alloc (.cells #[.int .i64 xo, .int .i64 xa, .int .i64 xb, .string xn, .slice sa ks.length sp] 33)).alloc (.cells #[.int .i64 25, .int .i64 0, .int .i64 0, .string ⟨#[]⟩, .slice (some ⟨wr.heap.size, 0, none⟩) 1 1] 33)).heap.size = wr.heap.size + 1 + 1 by simp] at this
            rw [hQ]; exact this
          replace Z := Z.keep BQ; replace A7 := A7.keep BQ; replace A8 := A8.keep BQ; replace hd := hd.below BQ; replace HA := HA.below BQ; replace hs := hs.below BQ; replace hC := hC.below BQ; replace B := below_two B BQ
          clear hQ BQ A
          obtain rfl : z = 0 := by omega
          obtain ⟨Z0, Z1, Z2, Z3, Z4, Z5⟩ := Z.cells
          obtain ⟨A70, A71, A72, A73, A74, A75⟩ := A7.cells
          obtain ⟨A80, A81, A82, A83, A84, A85⟩ := A8.cells
          obtain ⟨TE0, TE1, TE2, TE3, TE4, TE5⟩ := TE.cells
          go_wp2_with fail
          refine (CA.out _ hd HA).mono ?_; rintro e q0 ⟨rfl, hb0⟩
          clear Z0 Z1 Z2 Z3 Z4 Z5 A70 A71 A72 A73 A74 A75 A80 A81 A82 A83 A84 A85 TE0 TE1 TE2 TE3 TE4 TE5
          replace Z := Z.keep hb0; replace A7 := A7.keep hb0; replace A8 := A8.keep hb0; replace TE := TE.keep hb0; replace hd := hd.below hb0; replace HA := HA.below hb0; replace hs := hs.below hb0; replace hC := hC.below hb0; replace HE := HE.below hb0; replace B := below_two B hb0; clear hb0 CA
          obtain ⟨Z0, Z1, Z2, Z3, Z4, Z5⟩ := Z.cells
          obtain ⟨A70, A71, A72, A73, A74, A75⟩ := A7.cells
          obtain ⟨A80, A81, A82, A83, A84, A85⟩ := A8.cells
          obtain ⟨TE0, TE1, TE2, TE3, TE4, TE5⟩ := TE.cells
          go_wp2_with fail
          refine (CB.out _ hd hs).mono ?_; rintro e q1 ⟨rfl, hb1⟩
          clear Z0 Z1 Z2 Z3 Z4 Z5 A70 A71 A72 A73 A74 A75 A80 A81 A82 A83 A84 A85 TE0 TE1 TE2 TE3 TE4 TE5
          replace Z := Z.keep hb1; replace A7 := A7.keep hb1; replace A8 := A8.keep hb1; replace TE := TE.keep hb1; replace hd := hd.below hb1; replace HA := HA.below hb1; replace hs := hs.below hb1; replace hC := hC.below hb1; replace HE := HE.below hb1; replace B := below_two B hb1; clear hb1 CB
          obtain ⟨Z0, Z1, Z2, Z3, Z4, Z5⟩ := Z.cells
          obtain ⟨A70, A71, A72, A73, A74, A75⟩ := A7.cells
          obtain ⟨A80, A81, A82, A83, A84, A85⟩ := A8.cells
          obtain ⟨TE0, TE1, TE2, TE3, TE4, TE5⟩ := TE.cells
          go_wp2_with fail
          refine (CC.out _ hd hC).mono ?_; rintro e q2 ⟨rfl, hb2⟩
          clear Z0 Z1 Z2 Z3 Z4 Z5 A70 A71 A72 A73 A74 A75 A80 A81 A82 A83 A84 A85 TE0 TE1 TE2 TE3 TE4 TE5
          replace Z := Z.keep hb2; replace A7 := A7.keep hb2; replace A8 := A8.keep hb2; replace TE := TE.keep hb2; replace hd := hd.below hb2; replace HA := HA.below hb2; replace hs := hs.below hb2; replace hC := hC.below hb2; replace HE := HE.below hb2; replace B := below_two B hb2; clear hb2 CC
          obtain ⟨Z0, Z1, Z2, Z3, Z4, Z5⟩ := Z.cells
          obtain ⟨A70, A71, A72, A73, A74, A75⟩ := A7.cells
          obtain ⟨A80, A81, A82, A83, A84, A85⟩ := A8.cells
          obtain ⟨TE0, TE1, TE2, TE3, TE4, TE5⟩ := TE.cells
          go_wp2_with fail
          refine (CE.out _ hd HE).mono ?_; rintro e q3 ⟨rfl, hb3⟩
          clear Z0 Z1 Z2 Z3 Z4 Z5 A70 A71 A72 A73 A74 A75 A80 A81 A82 A83 A84 A85 TE0 TE1 TE2 TE3 TE4 TE5
          replace Z := Z.keep hb3; replace A7 := A7.keep hb3; replace A8 := A8.keep hb3; replace TE := TE.keep hb3; replace hd := hd.below hb3; replace HA := HA.below hb3; replace hs := hs.below hb3; replace hC := hC.below hb3; replace HE := HE.below hb3; replace B := below_two B hb3; clear hb3 CE
          obtain ⟨Z0, Z1, Z2, Z3, Z4, Z5⟩ := Z.cells
          obtain ⟨A70, A71, A72, A73, A74, A75⟩ := A7.cells
          obtain ⟨A80, A81, A82, A83, A84, A85⟩ := A8.cells
          obtain ⟨TE0, TE1, TE2, TE3, TE4, TE5⟩ := TE.cells
          go_wp2_with fail
          go_ret
          exact ⟨rfl, B⟩
end Go.Proofs.YtfkanemjedndgaaDoor
