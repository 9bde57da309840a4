/- sortOf of the program, at kinds of terms. The conditions stand in each statement. -/
import Derived.Test.YtfkanemjedndgaaDoorKt
namespace Go.Proofs.YtfkanemjedndgaaDoor
open Go.RowKit

set_option linter.unusedVariables false in
set_option maxRecDepth 100000 in
set_option maxHeartbeats 8000000 in
theorem sortOf_un (ds : List Dc) (hdw : DW ds) (d : Nat) (IH : ∀ d', d = d' + 1 → SortC ds d') (b : Nat) (v : Value) (op p q : Int) (nm : ByteArray) (s : Value) (ks : List Tm) (w : World) (hM : KMap w b) (hD : Decls w v ds) (h : SIn d w s ks) (hT : TW d ks) (st : ByteArray) (hc : op = 1 ∨ op = 2) (hlk : ∀ w', KMap w' b → (Instr.lookup 53 (.map (some b)) (.int .i64 op) true).run Tryd.prog w' = .ok (.tuple #[kUn st, .bool true]) w') :
    Calls Tryd.prog 23 #[.map (some b), v, .agg #[.int .i64 op, .int .i64 p, .int .i64 q, .string nm, s]] w fun e w' => e = .returned (.int .i64 (SV1 ds op p q nm (kS ds d ks))) ∧ Below w.heap.size w w' := by
  have hkn : known op = true := by unfold known; simp; omega
  have har := arity_un hc
  have hks := kS_len (ds := ds) h
  have hl := h.len
  obtain ⟨sa, sc, es, _⟩ := h.form
  subst es
  obtain ⟨va, vc, ev, _⟩ := hD.form
  subst ev
  have K := below_self_alloc w (.cells #[.int .i64 op, .int .i64 p, .int .i64 q, .string nm, .slice sa ks.length sc] 33)
  have A := blk5_new w (.int .i64 op) (.int .i64 p) (.int .i64 q) (.string nm) (.slice sa ks.length sc) 33
  replace h := h.below K
  replace hM := hM.below K
  replace hD := hD.below K
  have hrun := hlk _ hM
  unfold kUn at hrun
  clear hlk
  obtain ⟨z, hz⟩ : ∃ z, z = SV1 ds op p q nm (kS ds d ks) := ⟨_, rfl⟩
  rw [← hz]
  have HZ := Lib.hid hz
  clear hz
  have P := Lib.hid (fun w' => plain_any op p q nm (.slice sa ks.length sc) w')
  obtain ⟨i0, hi, hz0, hz1, hz2⟩ := info_parts infoInt
  have HAR := Lib.hid har
  have HKS := Lib.hid hks
  have HKN := Lib.hid hkn
  have HC := Lib.hid hc
  clear har hks hkn hc
  by_cases hn : (ks.length : Int) = 1
  rotate_left
  · have hz1 : z = -1 := by rw [HZ.out]; exact SV1_no (fun e => hn (by have := e.2.1; rw [HKS.out, HAR.out] at this; exact this))
    subst hz1
    have hn1 : ((ks.length : Int) != 1) = true := by simpa using hn
    clear hn HZ
    obtain ⟨A0, A1, A2, A3, A4, A5⟩ := A.cells
    go_enter Tryd.func23, Tryd.ntmps23
    go_wp2_with fail
    clear hrun A0 A1 A2 A3 A4 A5
    replace A := A.drew
    replace K := K.drew
    replace h := h.drew
    replace hM := hM.drew
    replace hD := hD.drew
    have sS := And.intro A.cells.1 (And.intro A.cells.2.1 (And.intro A.cells.2.2.1 (And.intro A.cells.2.2.2.1 A.cells.2.2.2.2.1)))
    refine wp_region_noPanic ?_
    refine wp_region_held_drew (S := (fun wx : World => wx.cell? ⟨w.heap.size, 0, none⟩ = some (.int .i64 op) ∧ wx.cell? ⟨w.heap.size, 1, none⟩ = some (.int .i64 p) ∧ wx.cell? ⟨w.heap.size, 2, none⟩ = some (.int .i64 q) ∧ wx.cell? ⟨w.heap.size, 3, none⟩ = some (.string nm) ∧ wx.cell? ⟨w.heap.size, 4, none⟩ = some (.slice sa ks.length sc))) (by kernel_rfl) sS (fun hHeld => ?_)
    refine wpAnyH_take (i := 0) (oi := { dst := some 20, op := Go.Op.move (Go.Operand.tmp 8), type := 4, pos := _, after := #[], guard := none }) (v := ?_) rfl (by kernel_rfl) (by kernel_rfl) (by kernel_rfl) (fun _ _ _ h => h) (Or.inl ⟨by rfl, ?_⟩) hHeld ?_
    rotate_left
    · (intro wq hSw; (try dsimp only at hSw); (try go_simp); (try with_reducible rfl))
    try simp only [Act.put, List.setIfInBounds_toArray, List.set_cons_zero, List.set_cons_succ]
    refine wpAnyH_take (i := 1) (oi := { dst := some 21, op := Go.Op.unOp Go.UnOp.not 4 (Go.Operand.tmp 20), type := 4, pos := _, after := #[{ on := 0, ground := Go.Ground.data }], guard := none }) (v := ?_) rfl (by kernel_rfl) (by kernel_rfl) (by kernel_rfl) (fun _ _ _ h => h) (Or.inl ⟨by rfl, ?_⟩) hHeld ?_
    rotate_left
    · (intro wq hSw; (try dsimp only at hSw); (try go_simp); (try with_reducible rfl))
    try simp only [Act.put, List.setIfInBounds_toArray, List.set_cons_zero, List.set_cons_succ]
    refine wpAnyH_take (i := 2) (oi := { dst := some 22, op := Go.Op.move (Go.Operand.tmp 21), type := 4, pos := _, after := #[{ on := 1, ground := Go.Ground.data }], guard := none }) (v := ?_) rfl (by kernel_rfl) (by kernel_rfl) (by kernel_rfl) (fun _ _ _ h => h) (Or.inl ⟨by rfl, ?_⟩) hHeld ?_
    rotate_left
    · (intro wq hSw; (try dsimp only at hSw); (try go_simp); (try with_reducible rfl))
    try simp only [Act.put, List.setIfInBounds_toArray, List.set_cons_zero, List.set_cons_succ]
    refine wpAnyH_take (i := 3) (oi := { dst := some 23, op := Go.Op.fieldAddr 33 (Go.Operand.tmp 5) 4, type := 0, pos := _, after := #[{ on := 2, ground := Go.Ground.guard }], guard := some (2, false) }) (v := ?_) rfl (by kernel_rfl) (by kernel_rfl) (by kernel_rfl) (fun _ _ _ h => h) (Or.inl ⟨by rfl, ?_⟩) hHeld ?_
    rotate_left
    · (intro wq hSw; (try dsimp only at hSw); (try go_simp); (try with_reducible rfl))
    try simp only [Act.put, List.setIfInBounds_toArray, List.set_cons_zero, List.set_cons_succ]
    refine wpAnyH_take (i := 4) (oi := { dst := some 24, op := Go.Op.load 31 (Go.Operand.tmp 23), type := 31, pos := _, after := #[{ on := 3, ground := Go.Ground.data }, { on := 2, ground := Go.Ground.guard }], guard := some (2, false) }) (v := ?_) rfl (by kernel_rfl) (by kernel_rfl) (by kernel_rfl) (fun _ _ _ h => h) (Or.inl ⟨by rfl, ?_⟩) hHeld ?_
    rotate_left
    · (intro wq hSw; (try dsimp only at hSw); (try go_simp); (try with_reducible rfl))
    try simp only [Act.put, List.setIfInBounds_toArray, List.set_cons_zero, List.set_cons_succ]
    refine wpAnyH_take (i := 5) (oi := { dst := some 25, op := Go.Op.call { callee := Go.Callee.builtin Go.Builtin.len, args := #[Go.Operand.tmp 24], argTypes := #[31] }, type := 3, pos := _, after := #[{ on := 4, ground := Go.Ground.data }, { on := 2, ground := Go.Ground.guard }], guard := some (2, false) }) (v := ?_) rfl (by kernel_rfl) (by kernel_rfl) (by kernel_rfl) (fun _ _ _ h => h) (Or.inl ⟨by rfl, ?_⟩) hHeld ?_
    rotate_left
    · (intro wq hSw; (try dsimp only at hSw); (try go_simp); (try with_reducible rfl))
    try simp only [Act.put, List.setIfInBounds_toArray, List.set_cons_zero, List.set_cons_succ]
    refine wpAnyH_take (i := 6) (oi := { dst := some 26, op := Go.Op.move (Go.Operand.tmp 7), type := 75, pos := _, after := #[{ on := 2, ground := Go.Ground.guard }], guard := some (2, false) }) (v := ?_) rfl (by kernel_rfl) (by kernel_rfl) (by kernel_rfl) (fun _ _ _ h => h) (Or.inl ⟨by rfl, ?_⟩) hHeld ?_
    rotate_left
    · (intro wq hSw; (try dsimp only at hSw); (try go_simp); (try with_reducible rfl))
    try simp only [Act.put, List.setIfInBounds_toArray, List.set_cons_zero, List.set_cons_succ]
    refine wpAnyH_ready (rs := [7]) (by kernel_rfl) (by simp) ?_
    refine AllReadyH.cons (o := { dst := some 27, op := Go.Op.call { callee := Go.Callee.invoke (Go.Operand.tmp 26) _, args := #[], argTypes := #[] }, type := 3, pos := _, after := #[{ on := 6, ground := Go.Ground.data }, { on := 2, ground := Go.Ground.chain }, { on := 2, ground := Go.Ground.guard }], guard := some (2, false) }) rfl (fun KK hKK => ?_) AllReadyH.nil
    go_simp
    go_wp2_with ((first | (go_at_call 96; rw [named_two]; (with_reducible refine (kids_any _ _ _).mono ?_); rintro e w1 ⟨rfl, hb⟩; replace A := A.keep hb; replace K := below_two K hb; replace h := h.below hb; replace hM := hM.below hb; replace hD := hD.below hb; clear hb; replace sS := And.intro A.cells.1 (And.intro A.cells.2.1 (And.intro A.cells.2.2.1 (And.intro A.cells.2.2.2.1 A.cells.2.2.2.2.1))))))
    try go_simp
    refine hKK.out _ _ sS (fun hHeld => ?_)
    clear hKK KK
    try simp only [Act.put, List.setIfInBounds_toArray, List.set_cons_zero, List.set_cons_succ]
    refine wpAnyH_take (i := 8) (oi := { dst := some 28, op := Go.Op.binOp Go.BinOp.neq 3 (Go.Operand.tmp 25) (Go.Operand.tmp 27) 3, type := 4, pos := _, after := #[{ on := 5, ground := Go.Ground.data }, { on := 7, ground := Go.Ground.data }, { on := 2, ground := Go.Ground.guard }], guard := some (2, false) }) (v := ?_) rfl (by kernel_rfl) (by kernel_rfl) (by kernel_rfl) (fun _ _ _ h => h) (Or.inl ⟨by rfl, ?_⟩) hHeld ?_
    rotate_left
    · (intro wq hSw; (try dsimp only at hSw); (try go_simp); (try with_reducible rfl))
    try simp only [Act.put, List.setIfInBounds_toArray, List.set_cons_zero, List.set_cons_succ]
    refine wpAnyH_take (i := 9) (oi := { dst := some 29, op := Go.Op.pick (Go.Operand.tmp 22) (Go.Operand.const (Go.Value.bool true)) (Go.Operand.tmp 28), type := 4, pos := _, after := #[{ on := 2, ground := Go.Ground.data }, { on := 8, ground := Go.Ground.data }], guard := none }) (v := ?_) rfl (by kernel_rfl) (by kernel_rfl) (by kernel_rfl) (fun _ _ _ h => h) (Or.inl ⟨by rfl, ?_⟩) hHeld ?_
    rotate_left
    · (intro wq hSw; (try dsimp only at hSw); (try go_simp); (try with_reducible rfl))
    try simp only [Act.put, List.setIfInBounds_toArray, List.set_cons_zero, List.set_cons_succ]
    refine wpAnyH_take (i := 10) (oi := { dst := some 30, op := Go.Op.move (Go.Operand.tmp 29), type := 4, pos := _, after := #[{ on := 9, ground := Go.Ground.data }, { on := 7, ground := Go.Ground.chain }], guard := none }) (v := ?_) rfl (by kernel_rfl) (by kernel_rfl) (by kernel_rfl) (fun _ _ _ h => h) (Or.inl ⟨by rfl, ?_⟩) hHeld ?_
    rotate_left
    · (intro wq hSw; (try dsimp only at hSw); (try go_simp); (try with_reducible rfl))
    try simp only [Act.put, List.setIfInBounds_toArray, List.set_cons_zero, List.set_cons_succ]
    refine wpAnyH_take (i := 11) (oi := { dst := some 31, op := Go.Op.load 33 (Go.Operand.tmp 5), type := 33, pos := _, after := #[{ on := 10, ground := Go.Ground.guard }], guard := some (10, false) }) (v := undef) rfl (by kernel_rfl) (by kernel_rfl) (by kernel_rfl) (fun _ _ _ h => h) (Or.inr ⟨by rfl, rfl⟩) hHeld ?_
    try simp only [Act.put, List.setIfInBounds_toArray, List.set_cons_zero, List.set_cons_succ]
    refine wpAnyH_take (i := 12) (oi := { dst := some 32, op := Go.Op.call { callee := Go.Callee.value (Go.Operand.func 40), args := #[Go.Operand.tmp 31], argTypes := #[33] }, type := 4, pos := _, after := #[{ on := 11, ground := Go.Ground.data }, { on := 10, ground := Go.Ground.chain }, { on := 10, ground := Go.Ground.guard }], guard := some (10, false) }) (v := undef) rfl (by kernel_rfl) (by kernel_rfl) (by kernel_rfl) (fun _ _ _ h => h) (Or.inr ⟨by rfl, rfl⟩) hHeld ?_
    try simp only [Act.put, List.setIfInBounds_toArray, List.set_cons_zero, List.set_cons_succ]
    refine wpAnyH_take (i := 13) (oi := { dst := some 33, op := Go.Op.unOp Go.UnOp.not 4 (Go.Operand.tmp 32), type := 4, pos := _, after := #[{ on := 12, ground := Go.Ground.data }, { on := 10, ground := Go.Ground.guard }], guard := some (10, false) }) (v := undef) rfl (by kernel_rfl) (by kernel_rfl) (by kernel_rfl) (fun _ _ _ h => h) (Or.inr ⟨by rfl, rfl⟩) hHeld ?_
    try simp only [Act.put, List.setIfInBounds_toArray, List.set_cons_zero, List.set_cons_succ]
    refine wpAnyH_take (i := 14) (oi := { dst := some 34, op := Go.Op.pick (Go.Operand.tmp 30) (Go.Operand.const (Go.Value.bool true)) (Go.Operand.tmp 33), type := 4, pos := _, after := #[{ on := 10, ground := Go.Ground.data }, { on := 13, ground := Go.Ground.data }], guard := none }) (v := ?_) rfl (by kernel_rfl) (by kernel_rfl) (by kernel_rfl) (fun _ _ _ h => h) (Or.inl ⟨by rfl, ?_⟩) hHeld ?_
    rotate_left
    · (intro wq hSw; (try dsimp only at hSw); (try go_simp); (try with_reducible rfl))
    try simp only [Act.put, List.setIfInBounds_toArray, List.set_cons_zero, List.set_cons_succ]
    refine wpAnyH_done (by kernel_rfl) ?_ _
    refine NoPanic.normal ?_
    clear sS
    go_wp2_with fail
    go_ret
    exact ⟨rfl, K⟩
  have hn1 : ((ks.length : Int) != 1) = false := by rw [hn]; simp
  have HN := Lib.hid hn
  clear hn
  by_cases hpl : plainB op p q nm = true
  rotate_left
  · have hz1 : z = -1 := by rw [HZ.out]; exact SV1_no (fun e => hpl e.2.2.1)
    subst hz1
    have hpl : plainB op p q nm = false := by simpa using hpl
    rw [hpl] at P
    clear hpl HZ
    obtain ⟨A0, A1, A2, A3, A4, A5⟩ := A.cells
    go_enter Tryd.func23, Tryd.ntmps23
    go_wp2_with fail
    clear hrun A0 A1 A2 A3 A4 A5
    replace A := A.drew
    replace K := K.drew
    replace h := h.drew
    replace hM := hM.drew
    replace hD := hD.drew
    have sS := And.intro A.cells.1 (And.intro A.cells.2.1 (And.intro A.cells.2.2.1 (And.intro A.cells.2.2.2.1 A.cells.2.2.2.2.1)))
    go_region_held3 (fun wx : World => wx.cell? ⟨w.heap.size, 0, none⟩ = some (.int .i64 op) ∧ wx.cell? ⟨w.heap.size, 1, none⟩ = some (.int .i64 p) ∧ wx.cell? ⟨w.heap.size, 2, none⟩ = some (.int .i64 q) ∧ wx.cell? ⟨w.heap.size, 3, none⟩ = some (.string nm) ∧ wx.cell? ⟨w.heap.size, 4, none⟩ = some (.slice sa ks.length sc)) (first | (with_reducible assumption)) (first | (go_at_call 40; (with_reducible refine (P.out _).mono ?_); rintro e w1 ⟨rfl, hb⟩; replace A := A.keep hb; replace K := below_two K hb; replace h := h.below hb; replace hM := hM.below hb; replace hD := hD.below hb; clear hb; replace sS := And.intro A.cells.1 (And.intro A.cells.2.1 (And.intro A.cells.2.2.1 (And.intro A.cells.2.2.2.1 A.cells.2.2.2.2.1)))) | (go_at_call 96; rw [named_two]; (with_reducible refine (kids_any _ _ _).mono ?_); rintro e w1 ⟨rfl, hb⟩; replace A := A.keep hb; replace K := below_two K hb; replace h := h.below hb; replace hM := hM.below hb; replace hD := hD.below hb; clear hb; replace sS := And.intro A.cells.1 (And.intro A.cells.2.1 (And.intro A.cells.2.2.1 (And.intro A.cells.2.2.2.1 A.cells.2.2.2.2.1)))))
    clear sS
    go_wp2_with fail
    go_ret
    exact ⟨rfl, K⟩
  rw [hpl] at P
  have HPL := Lib.hid hpl
  clear hpl
  obtain ⟨A0, A1, A2, A3, A4, A5⟩ := A.cells
  go_enter Tryd.func23, Tryd.ntmps23
  go_wp2_with fail
  clear hrun A0 A1 A2 A3 A4 A5
  replace A := A.drew
  replace K := K.drew
  replace h := h.drew
  replace hM := hM.drew
  replace hD := hD.drew
  have sS := And.intro A.cells.1 (And.intro A.cells.2.1 (And.intro A.cells.2.2.1 (And.intro A.cells.2.2.2.1 A.cells.2.2.2.2.1)))
  go_region_held3 (fun wx : World => wx.cell? ⟨w.heap.size, 0, none⟩ = some (.int .i64 op) ∧ wx.cell? ⟨w.heap.size, 1, none⟩ = some (.int .i64 p) ∧ wx.cell? ⟨w.heap.size, 2, none⟩ = some (.int .i64 q) ∧ wx.cell? ⟨w.heap.size, 3, none⟩ = some (.string nm) ∧ wx.cell? ⟨w.heap.size, 4, none⟩ = some (.slice sa ks.length sc)) (first | (with_reducible assumption)) (first | (go_at_call 40; (with_reducible refine (P.out _).mono ?_); rintro e w1 ⟨rfl, hb⟩; replace A := A.keep hb; replace K := below_two K hb; replace h := h.below hb; replace hM := hM.below hb; replace hD := hD.below hb; clear hb; replace sS := And.intro A.cells.1 (And.intro A.cells.2.1 (And.intro A.cells.2.2.1 (And.intro A.cells.2.2.2.1 A.cells.2.2.2.2.1)))) | (go_at_call 96; rw [named_two]; (with_reducible refine (kids_any _ _ _).mono ?_); rintro e w1 ⟨rfl, hb⟩; replace A := A.keep hb; replace K := below_two K hb; replace h := h.below hb; replace hM := hM.below hb; replace hD := hD.below hb; clear hb; replace sS := And.intro A.cells.1 (And.intro A.cells.2.1 (And.intro A.cells.2.2.1 (And.intro A.cells.2.2.2.1 A.cells.2.2.2.2.1)))))
  clear sS P
  obtain ⟨A0, A1, A2, A3, A4, A5⟩ := A.cells
  go_wp2_with fail
  clear A0 A1 A2 A3 A4 A5
  go_loopw [9, 38] (fun o i wr => ∃ k : Nat, i = .int .i64 k ∧ k ≤ ks.length ∧ wr.ownsRow w1.heap.size 3 1 o k (((kS ds d ks).take k).map (.int .i64)) ∧ Hid (∀ j, j < k → (kS ds d ks).getD j 0 ≠ -1) ∧ Below w1.heap.size w1 wr) (fun _ i _ => ks.length - (intOf i).toNat)
  case atStart => exact ⟨0, rfl, Nat.zero_le _, World.ownsRow_nil _ _ _ _, fun j hj => absurd hj (Nat.not_lt_zero _), Below.refl _ _⟩
  case round =>
    obtain ⟨k, rfl, hk, own, hno, B⟩ := hrel
    by_cases hlt : k < ks.length
    · cases d with
      | zero => obtain ⟨rfl, _⟩ := h; exact absurd hlt (Nat.not_lt_zero _)
      | succ d =>
        have hx := h.below B
        obtain ⟨a', cap', S, e, hr, hnm, hkk⟩ := hx
        cases e
        obtain ⟨bb, off, rfl, _, c0, c1, c2, c3, c4⟩ := hr.five hlt
        have h1k := hkk k hlt
        obtain ⟨ka, kc, es, _⟩ := h1k.form
        rw [es] at c4 h1k
        have hsk := kS_at (ds := ds) (d := d) hlt
        obtain ⟨hwf, htk⟩ := hT k hlt
        obtain ⟨x, hx⟩ : ∃ x, x = ks.getD k tz := ⟨_, rfl⟩
        rw [← hx] at c0 c1 c2 c3 c4 h1k hsk hwf htk
        have hM2 := hM.below B
        have hD2 := hD.below B
        have C : Hid (∀ w', Below wr.heap.size wr w' → Calls Tryd.prog 23 #[.map (some b), .slice va ds.length vc, .agg #[.int .i64 x.op, .int .i64 x.a, .int .i64 x.b, .string x.nm, .slice ka x.ks.length kc]] w' fun e w2 => e = .returned (.int .i64 ((kS ds (d + 1) ks).getD k 0)) ∧ Below w'.heap.size w' w2) := fun w' hb => by
          rw [hsk]; exact IH d rfl b _ x.op x.a x.b x.nm _ x.ks w' (hM2.below hb) (hD2.below hb) (h1k.below hb) htk hwf.1
        have hk1 : (k : Int) < (ks.length : Int) := by omega
        have hss : (kS ds (d + 1) ks).length = ks.length := HKS.out
        obtain ⟨r, hr0⟩ : ∃ r, r = (kS ds (d + 1) ks).getD k 0 := ⟨_, rfl⟩
        have hts : Hid ((kS ds (d + 1) ks).take (k + 1) = (kS ds (d + 1) ks).take k ++ [r]) := by
          show _ = _
          rw [hr0, List.take_succ_eq_append_getElem (by omega), List.getD_eq_getElem?_getD, List.getElem?_eq_getElem (by omega)]; rfl
        rw [← hr0] at C
        have HR := Lib.hid hr0
        have HSS := Lib.hid hss
        clear hr hnm hkk h1k es hsk hwf htk hx hM2 hD2 hr0 hss
        go_wp2_with fail
        refine (C.out _ (below_self_alloc _ _)).mono ?_; rintro e w3 ⟨rfl, hb3⟩
        have B2 := below_two (below_step B _) hb3
        have own2 := own_keep1 (own.alloc _) hb3
        clear C c0 c1 c2 c3 c4
        by_cases hr1 : r = -1
        · subst hr1
          obtain rfl : z = -1 := by rw [HZ.out]; exact SV1_no (fun e => not_all (by rw [HSS.out]; exact hlt) HR.out.symm e.2.2.2)
          clear own own2 HZ
          go_wp2_with fail
          go_ret
          exact ⟨rfl, below_two K B2⟩
        · have hr2 : (r == -1) = false := by simpa using hr1
          have hno2 : Hid (∀ j, j < k + 1 → (kS ds (d + 1) ks).getD j 0 ≠ -1) := fun j hj => by
            by_cases e : j = k
            · subst e; rw [← HR.out]; exact hr1
            · exact hno.out j (by omega)
          have hk9 : k ≤ 3 := by have := HN.out; have := HC.out; omega
          have hz3 := B2.size
          clear hr1 hno B hb3 own
          go_wp2_with (at_builtin; refine wpList_append_own _ rfl _ _ 78 rfl w1.heap.size 3 i0 (.int .i64 0) 1 8 Tryd.underlying78 hi hz0 hz1 hz2 rfl (by decide) _ _ _ rfl (own2.alloc _) ⟨w3.heap.size, 0, none⟩ 1 1 [Value.int .i64 r] rfl rfl (cell_new1 _ _ _) (one_new1 _) (by unfold maxLen; omega) (by omega) (by simp; omega) ?_; intro v2 w4 own4 hg2 _; refine Hid.out ?_)
          refine Lib.hid ?_
          have B4 : Below w1.heap.size w1 w4 := (below_step B2 _).grown hg2 (by simp; omega) (fun k hk => (own2.lt k hk).1)
          have own5 : w4.ownsRow w1.heap.size 3 1 v2 (k + 1) (((kS ds (d + 1) ks).take (k + 1)).map (.int .i64)) := by
            rw [hts.out, List.map_append]; exact own4
          clear own2 own4 hg2 B2 hts
          go_wp2_with fail
          exact ⟨⟨k + 1, by go_num, by omega, own5, hno2, B4⟩, by simp [intOf]; omega⟩
    · obtain rfl : k = ks.length := by omega
      have hss : (kS ds d ks).length = ks.length := HKS.out
      have hz1 : z = SVb ds op p q nm (kS ds d ks) := by
        rw [HZ.out]; exact SV1_yes ⟨HKN.out, by rw [hss, HAR.out]; exact HN.out, HPL.out, all_of (fun j hj => hno.out j (by rw [← hss]; exact hj))⟩
      rw [SVb_un HC.out] at hz1
      have LK : (kS ds d ks).length = 1 := by have := HN.out; omega
      rw [List.take_of_length_le (by omega)] at own
      have IK := Ints.of_own own
      have HZ1 := Lib.hid hz1
      replace A := A.keep B
      replace hD := hD.below B
      have CC := Lib.hid (sort_un st (.slice va ds.length vc) op p q nm (.slice sa ks.length sc) u9 (kS ds d ks) _ IK LK)
      obtain ⟨A0, A1, A2, A3, A4, A5⟩ := A.cells
      clear HZ own hno hz1 LK IK hss h hM hT
      go_wp2_with fail
      refine CC.out.mono ?_; rintro e w3 ⟨rfl, hb3⟩
      clear CC
      go_wp2_with fail
      go_ret
      exact ⟨by rw [HZ1.out]; rfl, below_two (below_two K B) hb3⟩

set_option linter.unusedVariables false in
set_option maxRecDepth 100000 in
set_option maxHeartbeats 8000000 in
theorem sortOf_bin (ds : List Dc) (hdw : DW ds) (d : Nat) (IH : ∀ d', d = d' + 1 → SortC ds d') (b : Nat) (v : Value) (op p q : Int) (nm : ByteArray) (s : Value) (ks : List Tm) (w : World) (hM : KMap w b) (hD : Decls w v ds) (h : SIn d w s ks) (hT : TW d ks) (st : ByteArray) (hc : 3 ≤ op ∧ op ≤ 13) (hlk : ∀ w', KMap w' b → (Instr.lookup 53 (.map (some b)) (.int .i64 op) true).run Tryd.prog w' = .ok (.tuple #[kBin st, .bool true]) w') :
    Calls Tryd.prog 23 #[.map (some b), v, .agg #[.int .i64 op, .int .i64 p, .int .i64 q, .string nm, s]] w fun e w' => e = .returned (.int .i64 (SV1 ds op p q nm (kS ds d ks))) ∧ Below w.heap.size w w' := by
  have hkn : known op = true := by unfold known; simp; omega
  have har := arity_bin hc
  have hks := kS_len (ds := ds) h
  have hl := h.len
  obtain ⟨sa, sc, es, _⟩ := h.form
  subst es
  obtain ⟨va, vc, ev, _⟩ := hD.form
  subst ev
  have K := below_self_alloc w (.cells #[.int .i64 op, .int .i64 p, .int .i64 q, .string nm, .slice sa ks.length sc] 33)
  have A := blk5_new w (.int .i64 op) (.int .i64 p) (.int .i64 q) (.string nm) (.slice sa ks.length sc) 33
  replace h := h.below K
  replace hM := hM.below K
  replace hD := hD.below K
  have hrun := hlk _ hM
  unfold kBin at hrun
  clear hlk
  obtain ⟨z, hz⟩ : ∃ z, z = SV1 ds op p q nm (kS ds d ks) := ⟨_, rfl⟩
  rw [← hz]
  have HZ := Lib.hid hz
  clear hz
  have P := Lib.hid (fun w' => plain_any op p q nm (.slice sa ks.length sc) w')
  obtain ⟨i0, hi, hz0, hz1, hz2⟩ := info_parts infoInt
  have HAR := Lib.hid har
  have HKS := Lib.hid hks
  have HKN := Lib.hid hkn
  have HC := Lib.hid hc
  clear har hks hkn hc
  by_cases hn : (ks.length : Int) = 2
  rotate_left
  · have hz1 : z = -1 := by rw [HZ.out]; exact SV1_no (fun e => hn (by have := e.2.1; rw [HKS.out, HAR.out] at this; exact this))
    subst hz1
    have hn1 : ((ks.length : Int) != 2) = true := by simpa using hn
    clear hn HZ
    obtain ⟨A0, A1, A2, A3, A4, A5⟩ := A.cells
    go_enter Tryd.func23, Tryd.ntmps23
    go_wp2_with fail
    clear hrun A0 A1 A2 A3 A4 A5
    replace A := A.drew
    replace K := K.drew
    replace h := h.drew
    replace hM := hM.drew
    replace hD := hD.drew
    have sS := And.intro A.cells.1 (And.intro A.cells.2.1 (And.intro A.cells.2.2.1 (And.intro A.cells.2.2.2.1 A.cells.2.2.2.2.1)))
    refine wp_region_noPanic ?_
    refine wp_region_held_drew (S := (fun wx : World => wx.cell? ⟨w.heap.size, 0, none⟩ = some (.int .i64 op) ∧ wx.cell? ⟨w.heap.size, 1, none⟩ = some (.int .i64 p) ∧ wx.cell? ⟨w.heap.size, 2, none⟩ = some (.int .i64 q) ∧ wx.cell? ⟨w.heap.size, 3, none⟩ = some (.string nm) ∧ wx.cell? ⟨w.heap.size, 4, none⟩ = some (.slice sa ks.length sc))) (by kernel_rfl) sS (fun hHeld => ?_)
    refine wpAnyH_take (i := 0) (oi := { dst := some 20, op := Go.Op.move (Go.Operand.tmp 8), type := 4, pos := _, after := #[], guard := none }) (v := ?_) rfl (by kernel_rfl) (by kernel_rfl) (by kernel_rfl) (fun _ _ _ h => h) (Or.inl ⟨by rfl, ?_⟩) hHeld ?_
    rotate_left
    · (intro wq hSw; (try dsimp only at hSw); (try go_simp); (try with_reducible rfl))
    try simp only [Act.put, List.setIfInBounds_toArray, List.set_cons_zero, List.set_cons_succ]
    refine wpAnyH_take (i := 1) (oi := { dst := some 21, op := Go.Op.unOp Go.UnOp.not 4 (Go.Operand.tmp 20), type := 4, pos := _, after := #[{ on := 0, ground := Go.Ground.data }], guard := none }) (v := ?_) rfl (by kernel_rfl) (by kernel_rfl) (by kernel_rfl) (fun _ _ _ h => h) (Or.inl ⟨by rfl, ?_⟩) hHeld ?_
    rotate_left
    · (intro wq hSw; (try dsimp only at hSw); (try go_simp); (try with_reducible rfl))
    try simp only [Act.put, List.setIfInBounds_toArray, List.set_cons_zero, List.set_cons_succ]
    refine wpAnyH_take (i := 2) (oi := { dst := some 22, op := Go.Op.move (Go.Operand.tmp 21), type := 4, pos := _, after := #[{ on := 1, ground := Go.Ground.data }], guard := none }) (v := ?_) rfl (by kernel_rfl) (by kernel_rfl) (by kernel_rfl) (fun _ _ _ h => h) (Or.inl ⟨by rfl, ?_⟩) hHeld ?_
    rotate_left
    · (intro wq hSw; (try dsimp only at hSw); (try go_simp); (try with_reducible rfl))
    try simp only [Act.put, List.setIfInBounds_toArray, List.set_cons_zero, List.set_cons_succ]
    refine wpAnyH_take (i := 3) (oi := { dst := some 23, op := Go.Op.fieldAddr 33 (Go.Operand.tmp 5) 4, type := 0, pos := _, after := #[{ on := 2, ground := Go.Ground.guard }], guard := some (2, false) }) (v := ?_) rfl (by kernel_rfl) (by kernel_rfl) (by kernel_rfl) (fun _ _ _ h => h) (Or.inl ⟨by rfl, ?_⟩) hHeld ?_
    rotate_left
    · (intro wq hSw; (try dsimp only at hSw); (try go_simp); (try with_reducible rfl))
    try simp only [Act.put, List.setIfInBounds_toArray, List.set_cons_zero, List.set_cons_succ]
    refine wpAnyH_take (i := 4) (oi := { dst := some 24, op := Go.Op.load 31 (Go.Operand.tmp 23), type := 31, pos := _, after := #[{ on := 3, ground := Go.Ground.data }, { on := 2, ground := Go.Ground.guard }], guard := some (2, false) }) (v := ?_) rfl (by kernel_rfl) (by kernel_rfl) (by kernel_rfl) (fun _ _ _ h => h) (Or.inl ⟨by rfl, ?_⟩) hHeld ?_
    rotate_left
    · (intro wq hSw; (try dsimp only at hSw); (try go_simp); (try with_reducible rfl))
    try simp only [Act.put, List.setIfInBounds_toArray, List.set_cons_zero, List.set_cons_succ]
    refine wpAnyH_take (i := 5) (oi := { dst := some 25, op := Go.Op.call { callee := Go.Callee.builtin Go.Builtin.len, args := #[Go.Operand.tmp 24], argTypes := #[31] }, type := 3, pos := _, after := #[{ on := 4, ground := Go.Ground.data }, { on := 2, ground := Go.Ground.guard }], guard := some (2, false) }) (v := ?_) rfl (by kernel_rfl) (by kernel_rfl) (by kernel_rfl) (fun _ _ _ h => h) (Or.inl ⟨by rfl, ?_⟩) hHeld ?_
    rotate_left
    · (intro wq hSw; (try dsimp only at hSw); (try go_simp); (try with_reducible rfl))
    try simp only [Act.put, List.setIfInBounds_toArray, List.set_cons_zero, List.set_cons_succ]
    refine wpAnyH_take (i := 6) (oi := { dst := some 26, op := Go.Op.move (Go.Operand.tmp 7), type := 75, pos := _, after := #[{ on := 2, ground := Go.Ground.guard }], guard := some (2, false) }) (v := ?_) rfl (by kernel_rfl) (by kernel_rfl) (by kernel_rfl) (fun _ _ _ h => h) (Or.inl ⟨by rfl, ?_⟩) hHeld ?_
    rotate_left
    · (intro wq hSw; (try dsimp only at hSw); (try go_simp); (try with_reducible rfl))
    try simp only [Act.put, List.setIfInBounds_toArray, List.set_cons_zero, List.set_cons_succ]
    refine wpAnyH_ready (rs := [7]) (by kernel_rfl) (by simp) ?_
    refine AllReadyH.cons (o := { dst := some 27, op := Go.Op.call { callee := Go.Callee.invoke (Go.Operand.tmp 26) _, args := #[], argTypes := #[] }, type := 3, pos := _, after := #[{ on := 6, ground := Go.Ground.data }, { on := 2, ground := Go.Ground.chain }, { on := 2, ground := Go.Ground.guard }], guard := some (2, false) }) rfl (fun KK hKK => ?_) AllReadyH.nil
    go_simp
    go_wp2_with ((first | (go_at_call 96; rw [named_two]; (with_reducible refine (kids_any _ _ _).mono ?_); rintro e w1 ⟨rfl, hb⟩; replace A := A.keep hb; replace K := below_two K hb; replace h := h.below hb; replace hM := hM.below hb; replace hD := hD.below hb; clear hb; replace sS := And.intro A.cells.1 (And.intro A.cells.2.1 (And.intro A.cells.2.2.1 (And.intro A.cells.2.2.2.1 A.cells.2.2.2.2.1))))))
    try go_simp
    refine hKK.out _ _ sS (fun hHeld => ?_)
    clear hKK KK
    try simp only [Act.put, List.setIfInBounds_toArray, List.set_cons_zero, List.set_cons_succ]
    refine wpAnyH_take (i := 8) (oi := { dst := some 28, op := Go.Op.binOp Go.BinOp.neq 3 (Go.Operand.tmp 25) (Go.Operand.tmp 27) 3, type := 4, pos := _, after := #[{ on := 5, ground := Go.Ground.data }, { on := 7, ground := Go.Ground.data }, { on := 2, ground := Go.Ground.guard }], guard := some (2, false) }) (v := ?_) rfl (by kernel_rfl) (by kernel_rfl) (by kernel_rfl) (fun _ _ _ h => h) (Or.inl ⟨by rfl, ?_⟩) hHeld ?_
    rotate_left
    · (intro wq hSw; (try dsimp only at hSw); (try go_simp); (try with_reducible rfl))
    try simp only [Act.put, List.setIfInBounds_toArray, List.set_cons_zero, List.set_cons_succ]
    refine wpAnyH_take (i := 9) (oi := { dst := some 29, op := Go.Op.pick (Go.Operand.tmp 22) (Go.Operand.const (Go.Value.bool true)) (Go.Operand.tmp 28), type := 4, pos := _, after := #[{ on := 2, ground := Go.Ground.data }, { on := 8, ground := Go.Ground.data }], guard := none }) (v := ?_) rfl (by kernel_rfl) (by kernel_rfl) (by kernel_rfl) (fun _ _ _ h => h) (Or.inl ⟨by rfl, ?_⟩) hHeld ?_
    rotate_left
    · (intro wq hSw; (try dsimp only at hSw); (try go_simp); (try with_reducible rfl))
    try simp only [Act.put, List.setIfInBounds_toArray, List.set_cons_zero, List.set_cons_succ]
    refine wpAnyH_take (i := 10) (oi := { dst := some 30, op := Go.Op.move (Go.Operand.tmp 29), type := 4, pos := _, after := #[{ on := 9, ground := Go.Ground.data }, { on := 7, ground := Go.Ground.chain }], guard := none }) (v := ?_) rfl (by kernel_rfl) (by kernel_rfl) (by kernel_rfl) (fun _ _ _ h => h) (Or.inl ⟨by rfl, ?_⟩) hHeld ?_
    rotate_left
    · (intro wq hSw; (try dsimp only at hSw); (try go_simp); (try with_reducible rfl))
    try simp only [Act.put, List.setIfInBounds_toArray, List.set_cons_zero, List.set_cons_succ]
    refine wpAnyH_take (i := 11) (oi := { dst := some 31, op := Go.Op.load 33 (Go.Operand.tmp 5), type := 33, pos := _, after := #[{ on := 10, ground := Go.Ground.guard }], guard := some (10, false) }) (v := undef) rfl (by kernel_rfl) (by kernel_rfl) (by kernel_rfl) (fun _ _ _ h => h) (Or.inr ⟨by rfl, rfl⟩) hHeld ?_
    try simp only [Act.put, List.setIfInBounds_toArray, List.set_cons_zero, List.set_cons_succ]
    refine wpAnyH_take (i := 12) (oi := { dst := some 32, op := Go.Op.call { callee := Go.Callee.value (Go.Operand.func 40), args := #[Go.Operand.tmp 31], argTypes := #[33] }, type := 4, pos := _, after := #[{ on := 11, ground := Go.Ground.data }, { on := 10, ground := Go.Ground.chain }, { on := 10, ground := Go.Ground.guard }], guard := some (10, false) }) (v := undef) rfl (by kernel_rfl) (by kernel_rfl) (by kernel_rfl) (fun _ _ _ h => h) (Or.inr ⟨by rfl, rfl⟩) hHeld ?_
    try simp only [Act.put, List.setIfInBounds_toArray, List.set_cons_zero, List.set_cons_succ]
    refine wpAnyH_take (i := 13) (oi := { dst := some 33, op := Go.Op.unOp Go.UnOp.not 4 (Go.Operand.tmp 32), type := 4, pos := _, after := #[{ on := 12, ground := Go.Ground.data }, { on := 10, ground := Go.Ground.guard }], guard := some (10, false) }) (v := undef) rfl (by kernel_rfl) (by kernel_rfl) (by kernel_rfl) (fun _ _ _ h => h) (Or.inr ⟨by rfl, rfl⟩) hHeld ?_
    try simp only [Act.put, List.setIfInBounds_toArray, List.set_cons_zero, List.set_cons_succ]
    refine wpAnyH_take (i := 14) (oi := { dst := some 34, op := Go.Op.pick (Go.Operand.tmp 30) (Go.Operand.const (Go.Value.bool true)) (Go.Operand.tmp 33), type := 4, pos := _, after := #[{ on := 10, ground := Go.Ground.data }, { on := 13, ground := Go.Ground.data }], guard := none }) (v := ?_) rfl (by kernel_rfl) (by kernel_rfl) (by kernel_rfl) (fun _ _ _ h => h) (Or.inl ⟨by rfl, ?_⟩) hHeld ?_
    rotate_left
    · (intro wq hSw; (try dsimp only at hSw); (try go_simp); (try with_reducible rfl))
    try simp only [Act.put, List.setIfInBounds_toArray, List.set_cons_zero, List.set_cons_succ]
    refine wpAnyH_done (by kernel_rfl) ?_ _
    refine NoPanic.normal ?_
    clear sS
    go_wp2_with fail
    go_ret
    exact ⟨rfl, K⟩
  have hn1 : ((ks.length : Int) != 2) = false := by rw [hn]; simp
  have HN := Lib.hid hn
  clear hn
  by_cases hpl : plainB op p q nm = true
  rotate_left
  · have hz1 : z = -1 := by rw [HZ.out]; exact SV1_no (fun e => hpl e.2.2.1)
    subst hz1
    have hpl : plainB op p q nm = false := by simpa using hpl
    rw [hpl] at P
    clear hpl HZ
    obtain ⟨A0, A1, A2, A3, A4, A5⟩ := A.cells
    go_enter Tryd.func23, Tryd.ntmps23
    go_wp2_with fail
    clear hrun A0 A1 A2 A3 A4 A5
    replace A := A.drew
    replace K := K.drew
    replace h := h.drew
    replace hM := hM.drew
    replace hD := hD.drew
    have sS := And.intro A.cells.1 (And.intro A.cells.2.1 (And.intro A.cells.2.2.1 (And.intro A.cells.2.2.2.1 A.cells.2.2.2.2.1)))
    go_region_held3 (fun wx : World => wx.cell? ⟨w.heap.size, 0, none⟩ = some (.int .i64 op) ∧ wx.cell? ⟨w.heap.size, 1, none⟩ = some (.int .i64 p) ∧ wx.cell? ⟨w.heap.size, 2, none⟩ = some (.int .i64 q) ∧ wx.cell? ⟨w.heap.size, 3, none⟩ = some (.string nm) ∧ wx.cell? ⟨w.heap.size, 4, none⟩ = some (.slice sa ks.length sc)) (first | (with_reducible assumption)) (first | (go_at_call 40; (with_reducible refine (P.out _).mono ?_); rintro e w1 ⟨rfl, hb⟩; replace A := A.keep hb; replace K := below_two K hb; replace h := h.below hb; replace hM := hM.below hb; replace hD := hD.below hb; clear hb; replace sS := And.intro A.cells.1 (And.intro A.cells.2.1 (And.intro A.cells.2.2.1 (And.intro A.cells.2.2.2.1 A.cells.2.2.2.2.1)))) | (go_at_call 96; rw [named_two]; (with_reducible refine (kids_any _ _ _).mono ?_); rintro e w1 ⟨rfl, hb⟩; replace A := A.keep hb; replace K := below_two K hb; replace h := h.below hb; replace hM := hM.below hb; replace hD := hD.below hb; clear hb; replace sS := And.intro A.cells.1 (And.intro A.cells.2.1 (And.intro A.cells.2.2.1 (And.intro A.cells.2.2.2.1 A.cells.2.2.2.2.1)))))
    clear sS
    go_wp2_with fail
    go_ret
    exact ⟨rfl, K⟩
  rw [hpl] at P
  have HPL := Lib.hid hpl
  clear hpl
  obtain ⟨A0, A1, A2, A3, A4, A5⟩ := A.cells
  go_enter Tryd.func23, Tryd.ntmps23
  go_wp2_with fail
  clear hrun A0 A1 A2 A3 A4 A5
  replace A := A.drew
  replace K := K.drew
  replace h := h.drew
  replace hM := hM.drew
  replace hD := hD.drew
  have sS := And.intro A.cells.1 (And.intro A.cells.2.1 (And.intro A.cells.2.2.1 (And.intro A.cells.2.2.2.1 A.cells.2.2.2.2.1)))
  go_region_held3 (fun wx : World => wx.cell? ⟨w.heap.size, 0, none⟩ = some (.int .i64 op) ∧ wx.cell? ⟨w.heap.size, 1, none⟩ = some (.int .i64 p) ∧ wx.cell? ⟨w.heap.size, 2, none⟩ = some (.int .i64 q) ∧ wx.cell? ⟨w.heap.size, 3, none⟩ = some (.string nm) ∧ wx.cell? ⟨w.heap.size, 4, none⟩ = some (.slice sa ks.length sc)) (first | (with_reducible assumption)) (first | (go_at_call 40; (with_reducible refine (P.out _).mono ?_); rintro e w1 ⟨rfl, hb⟩; replace A := A.keep hb; replace K := below_two K hb; replace h := h.below hb; replace hM := hM.below hb; replace hD := hD.below hb; clear hb; replace sS := And.intro A.cells.1 (And.intro A.cells.2.1 (And.intro A.cells.2.2.1 (And.intro A.cells.2.2.2.1 A.cells.2.2.2.2.1)))) | (go_at_call 96; rw [named_two]; (with_reducible refine (kids_any _ _ _).mono ?_); rintro e w1 ⟨rfl, hb⟩; replace A := A.keep hb; replace K := below_two K hb; replace h := h.below hb; replace hM := hM.below hb; replace hD := hD.below hb; clear hb; replace sS := And.intro A.cells.1 (And.intro A.cells.2.1 (And.intro A.cells.2.2.1 (And.intro A.cells.2.2.2.1 A.cells.2.2.2.2.1)))))
  clear sS P
  obtain ⟨A0, A1, A2, A3, A4, A5⟩ := A.cells
  go_wp2_with fail
  clear A0 A1 A2 A3 A4 A5
  go_loopw [9, 38] (fun o i wr => ∃ k : Nat, i = .int .i64 k ∧ k ≤ ks.length ∧ wr.ownsRow w1.heap.size 3 1 o k (((kS ds d ks).take k).map (.int .i64)) ∧ Hid (∀ j, j < k → (kS ds d ks).getD j 0 ≠ -1) ∧ Below w1.heap.size w1 wr) (fun _ i _ => ks.length - (intOf i).toNat)
  case atStart => exact ⟨0, rfl, Nat.zero_le _, World.ownsRow_nil _ _ _ _, fun j hj => absurd hj (Nat.not_lt_zero _), Below.refl _ _⟩
  case round =>
    obtain ⟨k, rfl, hk, own, hno, B⟩ := hrel
    by_cases hlt : k < ks.length
    · cases d with
      | zero => obtain ⟨rfl, _⟩ := h; exact absurd hlt (Nat.not_lt_zero _)
      | succ d =>
        have hx := h.below B
        obtain ⟨a', cap', S, e, hr, hnm, hkk⟩ := hx
        cases e
        obtain ⟨bb, off, rfl, _, c0, c1, c2, c3, c4⟩ := hr.five hlt
        have h1k := hkk k hlt
        obtain ⟨ka, kc, es, _⟩ := h1k.form
        rw [es] at c4 h1k
        have hsk := kS_at (ds := ds) (d := d) hlt
        obtain ⟨hwf, htk⟩ := hT k hlt
        obtain ⟨x, hx⟩ : ∃ x, x = ks.getD k tz := ⟨_, rfl⟩
        rw [← hx] at c0 c1 c2 c3 c4 h1k hsk hwf htk
        have hM2 := hM.below B
        have hD2 := hD.below B
        have C : Hid (∀ w', Below wr.heap.size wr w' → Calls Tryd.prog 23 #[.map (some b), .slice va ds.length vc, .agg #[.int .i64 x.op, .int .i64 x.a, .int .i64 x.b, .string x.nm, .slice ka x.ks.length kc]] w' fun e w2 => e = .returned (.int .i64 ((kS ds (d + 1) ks).getD k 0)) ∧ Below w'.heap.size w' w2) := fun w' hb => by
          rw [hsk]; exact IH d rfl b _ x.op x.a x.b x.nm _ x.ks w' (hM2.below hb) (hD2.below hb) (h1k.below hb) htk hwf.1
        have hk1 : (k : Int) < (ks.length : Int) := by omega
        have hss : (kS ds (d + 1) ks).length = ks.length := HKS.out
        obtain ⟨r, hr0⟩ : ∃ r, r = (kS ds (d + 1) ks).getD k 0 := ⟨_, rfl⟩
        have hts : Hid ((kS ds (d + 1) ks).take (k + 1) = (kS ds (d + 1) ks).take k ++ [r]) := by
          show _ = _
          rw [hr0, List.take_succ_eq_append_getElem (by omega), List.getD_eq_getElem?_getD, List.getElem?_eq_getElem (by omega)]; rfl
        rw [← hr0] at C
        have HR := Lib.hid hr0
        have HSS := Lib.hid hss
        clear hr hnm hkk h1k es hsk hwf htk hx hM2 hD2 hr0 hss
        go_wp2_with fail
        refine (C.out _ (below_self_alloc _ _)).mono ?_; rintro e w3 ⟨rfl, hb3⟩
        have B2 := below_two (below_step B _) hb3
        have own2 := own_keep1 (own.alloc _) hb3
        clear C c0 c1 c2 c3 c4
        by_cases hr1 : r = -1
        · subst hr1
          obtain rfl : z = -1 := by rw [HZ.out]; exact SV1_no (fun e => not_all (by rw [HSS.out]; exact hlt) HR.out.symm e.2.2.2)
          clear own own2 HZ
          go_wp2_with fail
          go_ret
          exact ⟨rfl, below_two K B2⟩
        · have hr2 : (r == -1) = false := by simpa using hr1
          have hno2 : Hid (∀ j, j < k + 1 → (kS ds (d + 1) ks).getD j 0 ≠ -1) := fun j hj => by
            by_cases e : j = k
            · subst e; rw [← HR.out]; exact hr1
            · exact hno.out j (by omega)
          have hk9 : k ≤ 3 := by have := HN.out; have := HC.out; omega
          have hz3 := B2.size
          clear hr1 hno B hb3 own
          go_wp2_with (at_builtin; refine wpList_append_own _ rfl _ _ 78 rfl w1.heap.size 3 i0 (.int .i64 0) 1 8 Tryd.underlying78 hi hz0 hz1 hz2 rfl (by decide) _ _ _ rfl (own2.alloc _) ⟨w3.heap.size, 0, none⟩ 1 1 [Value.int .i64 r] rfl rfl (cell_new1 _ _ _) (one_new1 _) (by unfold maxLen; omega) (by omega) (by simp; omega) ?_; intro v2 w4 own4 hg2 _; refine Hid.out ?_)
          refine Lib.hid ?_
          have B4 : Below w1.heap.size w1 w4 := (below_step B2 _).grown hg2 (by simp; omega) (fun k hk => (own2.lt k hk).1)
          have own5 : w4.ownsRow w1.heap.size 3 1 v2 (k + 1) (((kS ds (d + 1) ks).take (k + 1)).map (.int .i64)) := by
            rw [hts.out, List.map_append]; exact own4
          clear own2 own4 hg2 B2 hts
          go_wp2_with fail
          exact ⟨⟨k + 1, by go_num, by omega, own5, hno2, B4⟩, by simp [intOf]; omega⟩
    · obtain rfl : k = ks.length := by omega
      have hss : (kS ds d ks).length = ks.length := HKS.out
      have hz1 : z = SVb ds op p q nm (kS ds d ks) := by
        rw [HZ.out]; exact SV1_yes ⟨HKN.out, by rw [hss, HAR.out]; exact HN.out, HPL.out, all_of (fun j hj => hno.out j (by rw [← hss]; exact hj))⟩
      rw [SVb_bin HC.out] at hz1
      have LK : (kS ds d ks).length = 2 := by have := HN.out; omega
      rw [List.take_of_length_le (by omega)] at own
      have IK := Ints.of_own own
      have HZ1 := Lib.hid hz1
      replace A := A.keep B
      replace hD := hD.below B
      have CC := Lib.hid (sort_bin st (.slice va ds.length vc) op p q nm (.slice sa ks.length sc) u9 (kS ds d ks) _ IK LK)
      obtain ⟨A0, A1, A2, A3, A4, A5⟩ := A.cells
      clear HZ own hno hz1 LK IK hss h hM hT
      go_wp2_with fail
      refine CC.out.mono ?_; rintro e w3 ⟨rfl, hb3⟩
      clear CC
      go_wp2_with fail
      go_ret
      exact ⟨by rw [HZ1.out]; rfl, below_two (below_two K B) hb3⟩

set_option linter.unusedVariables false in
set_option maxRecDepth 100000 in
set_option maxHeartbeats 8000000 in
theorem sortOf_cat (ds : List Dc) (hdw : DW ds) (d : Nat) (IH : ∀ d', d = d' + 1 → SortC ds d') (b : Nat) (v : Value) (op p q : Int) (nm : ByteArray) (s : Value) (ks : List Tm) (w : World) (hM : KMap w b) (hD : Decls w v ds) (h : SIn d w s ks) (hT : TW d ks) (st : ByteArray) (hc : op = 14) (hlk : ∀ w', KMap w' b → (Instr.lookup 53 (.map (some b)) (.int .i64 op) true).run Tryd.prog w' = .ok (.tuple #[kCat st, .bool true]) w') :
    Calls Tryd.prog 23 #[.map (some b), v, .agg #[.int .i64 op, .int .i64 p, .int .i64 q, .string nm, s]] w fun e w' => e = .returned (.int .i64 (SV1 ds op p q nm (kS ds d ks))) ∧ Below w.heap.size w w' := by
  have hkn : known op = true := by unfold known; simp; omega
  have har := arity_cat hc
  have hks := kS_len (ds := ds) h
  have hl := h.len
  obtain ⟨sa, sc, es, _⟩ := h.form
  subst es
  obtain ⟨va, vc, ev, _⟩ := hD.form
  subst ev
  have K := below_self_alloc w (.cells #[.int .i64 op, .int .i64 p, .int .i64 q, .string nm, .slice sa ks.length sc] 33)
  have A := blk5_new w (.int .i64 op) (.int .i64 p) (.int .i64 q) (.string nm) (.slice sa ks.length sc) 33
  replace h := h.below K
  replace hM := hM.below K
  replace hD := hD.below K
  have hrun := hlk _ hM
  unfold kCat at hrun
  clear hlk
  obtain ⟨z, hz⟩ : ∃ z, z = SV1 ds op p q nm (kS ds d ks) := ⟨_, rfl⟩
  rw [← hz]
  have HZ := Lib.hid hz
  clear hz
  have P := Lib.hid (fun w' => plain_any op p q nm (.slice sa ks.length sc) w')
  obtain ⟨i0, hi, hz0, hz1, hz2⟩ := info_parts infoInt
  have HAR := Lib.hid har
  have HKS := Lib.hid hks
  have HKN := Lib.hid hkn
  have HC := Lib.hid hc
  clear har hks hkn hc
  by_cases hn : (ks.length : Int) = 2
  rotate_left
  · have hz1 : z = -1 := by rw [HZ.out]; exact SV1_no (fun e => hn (by have := e.2.1; rw [HKS.out, HAR.out] at this; exact this))
    subst hz1
    have hn1 : ((ks.length : Int) != 2) = true := by simpa using hn
    clear hn HZ
    obtain ⟨A0, A1, A2, A3, A4, A5⟩ := A.cells
    go_enter Tryd.func23, Tryd.ntmps23
    go_wp2_with fail
    clear hrun A0 A1 A2 A3 A4 A5
    replace A := A.drew
    replace K := K.drew
    replace h := h.drew
    replace hM := hM.drew
    replace hD := hD.drew
    have sS := And.intro A.cells.1 (And.intro A.cells.2.1 (And.intro A.cells.2.2.1 (And.intro A.cells.2.2.2.1 A.cells.2.2.2.2.1)))
    refine wp_region_noPanic ?_
    refine wp_region_held_drew (S := (fun wx : World => wx.cell? ⟨w.heap.size, 0, none⟩ = some (.int .i64 op) ∧ wx.cell? ⟨w.heap.size, 1, none⟩ = some (.int .i64 p) ∧ wx.cell? ⟨w.heap.size, 2, none⟩ = some (.int .i64 q) ∧ wx.cell? ⟨w.heap.size, 3, none⟩ = some (.string nm) ∧ wx.cell? ⟨w.heap.size, 4, none⟩ = some (.slice sa ks.length sc))) (by kernel_rfl) sS (fun hHeld => ?_)
    refine wpAnyH_take (i := 0) (oi := { dst := some 20, op := Go.Op.move (Go.Operand.tmp 8), type := 4, pos := _, after := #[], guard := none }) (v := ?_) rfl (by kernel_rfl) (by kernel_rfl) (by kernel_rfl) (fun _ _ _ h => h) (Or.inl ⟨by rfl, ?_⟩) hHeld ?_
    rotate_left
    · (intro wq hSw; (try dsimp only at hSw); (try go_simp); (try with_reducible rfl))
    try simp only [Act.put, List.setIfInBounds_toArray, List.set_cons_zero, List.set_cons_succ]
    refine wpAnyH_take (i := 1) (oi := { dst := some 21, op := Go.Op.unOp Go.UnOp.not 4 (Go.Operand.tmp 20), type := 4, pos := _, after := #[{ on := 0, ground := Go.Ground.data }], guard := none }) (v := ?_) rfl (by kernel_rfl) (by kernel_rfl) (by kernel_rfl) (fun _ _ _ h => h) (Or.inl ⟨by rfl, ?_⟩) hHeld ?_
    rotate_left
    · (intro wq hSw; (try dsimp only at hSw); (try go_simp); (try with_reducible rfl))
    try simp only [Act.put, List.setIfInBounds_toArray, List.set_cons_zero, List.set_cons_succ]
    refine wpAnyH_take (i := 2) (oi := { dst := some 22, op := Go.Op.move (Go.Operand.tmp 21), type := 4, pos := _, after := #[{ on := 1, ground := Go.Ground.data }], guard := none }) (v := ?_) rfl (by kernel_rfl) (by kernel_rfl) (by kernel_rfl) (fun _ _ _ h => h) (Or.inl ⟨by rfl, ?_⟩) hHeld ?_
    rotate_left
    · (intro wq hSw; (try dsimp only at hSw); (try go_simp); (try with_reducible rfl))
    try simp only [Act.put, List.setIfInBounds_toArray, List.set_cons_zero, List.set_cons_succ]
    refine wpAnyH_take (i := 3) (oi := { dst := some 23, op := Go.Op.fieldAddr 33 (Go.Operand.tmp 5) 4, type := 0, pos := _, after := #[{ on := 2, ground := Go.Ground.guard }], guard := some (2, false) }) (v := ?_) rfl (by kernel_rfl) (by kernel_rfl) (by kernel_rfl) (fun _ _ _ h => h) (Or.inl ⟨by rfl, ?_⟩) hHeld ?_
    rotate_left
    · (intro wq hSw; (try dsimp only at hSw); (try go_simp); (try with_reducible rfl))
    try simp only [Act.put, List.setIfInBounds_toArray, List.set_cons_zero, List.set_cons_succ]
    refine wpAnyH_take (i := 4) (oi := { dst := some 24, op := Go.Op.load 31 (Go.Operand.tmp 23), type := 31, pos := _, after := #[{ on := 3, ground := Go.Ground.data }, { on := 2, ground := Go.Ground.guard }], guard := some (2, false) }) (v := ?_) rfl (by kernel_rfl) (by kernel_rfl) (by kernel_rfl) (fun _ _ _ h => h) (Or.inl ⟨by rfl, ?_⟩) hHeld ?_
    rotate_left
    · (intro wq hSw; (try dsimp only at hSw); (try go_simp); (try with_reducible rfl))
    try simp only [Act.put, List.setIfInBounds_toArray, List.set_cons_zero, List.set_cons_succ]
    refine wpAnyH_take (i := 5) (oi := { dst := some 25, op := Go.Op.call { callee := Go.Callee.builtin Go.Builtin.len, args := #[Go.Operand.tmp 24], argTypes := #[31] }, type := 3, pos := _, after := #[{ on := 4, ground := Go.Ground.data }, { on := 2, ground := Go.Ground.guard }], guard := some (2, false) }) (v := ?_) rfl (by kernel_rfl) (by kernel_rfl) (by kernel_rfl) (fun _ _ _ h => h) (Or.inl ⟨by rfl, ?_⟩) hHeld ?_
    rotate_left
    · (intro wq hSw; (try dsimp only at hSw); (try go_simp); (try with_reducible rfl))
    try simp only [Act.put, List.setIfInBounds_toArray, List.set_cons_zero, List.set_cons_succ]
    refine wpAnyH_take (i := 6) (oi := { dst := some 26, op := Go.Op.move (Go.Operand.tmp 7), type := 75, pos := _, after := #[{ on := 2, ground := Go.Ground.guard }], guard := some (2, false) }) (v := ?_) rfl (by kernel_rfl) (by kernel_rfl) (by kernel_rfl) (fun _ _ _ h => h) (Or.inl ⟨by rfl, ?_⟩) hHeld ?_
    rotate_left
    · (intro wq hSw; (try dsimp only at hSw); (try go_simp); (try with_reducible rfl))
    try simp only [Act.put, List.setIfInBounds_toArray, List.set_cons_zero, List.set_cons_succ]
    refine wpAnyH_ready (rs := [7]) (by kernel_rfl) (by simp) ?_
    refine AllReadyH.cons (o := { dst := some 27, op := Go.Op.call { callee := Go.Callee.invoke (Go.Operand.tmp 26) _, args := #[], argTypes := #[] }, type := 3, pos := _, after := #[{ on := 6, ground := Go.Ground.data }, { on := 2, ground := Go.Ground.chain }, { on := 2, ground := Go.Ground.guard }], guard := some (2, false) }) rfl (fun KK hKK => ?_) AllReadyH.nil
    go_simp
    go_wp2_with ((first | (go_at_call 96; rw [named_two]; (with_reducible refine (kids_any _ _ _).mono ?_); rintro e w1 ⟨rfl, hb⟩; replace A := A.keep hb; replace K := below_two K hb; replace h := h.below hb; replace hM := hM.below hb; replace hD := hD.below hb; clear hb; replace sS := And.intro A.cells.1 (And.intro A.cells.2.1 (And.intro A.cells.2.2.1 (And.intro A.cells.2.2.2.1 A.cells.2.2.2.2.1))))))
    try go_simp
    refine hKK.out _ _ sS (fun hHeld => ?_)
    clear hKK KK
    try simp only [Act.put, List.setIfInBounds_toArray, List.set_cons_zero, List.set_cons_succ]
    refine wpAnyH_take (i := 8) (oi := { dst := some 28, op := Go.Op.binOp Go.BinOp.neq 3 (Go.Operand.tmp 25) (Go.Operand.tmp 27) 3, type := 4, pos := _, after := #[{ on := 5, ground := Go.Ground.data }, { on := 7, ground := Go.Ground.data }, { on := 2, ground := Go.Ground.guard }], guard := some (2, false) }) (v := ?_) rfl (by kernel_rfl) (by kernel_rfl) (by kernel_rfl) (fun _ _ _ h => h) (Or.inl ⟨by rfl, ?_⟩) hHeld ?_
    rotate_left
    · (intro wq hSw; (try dsimp only at hSw); (try go_simp); (try with_reducible rfl))
    try simp only [Act.put, List.setIfInBounds_toArray, List.set_cons_zero, List.set_cons_succ]
    refine wpAnyH_take (i := 9) (oi := { dst := some 29, op := Go.Op.pick (Go.Operand.tmp 22) (Go.Operand.const (Go.Value.bool true)) (Go.Operand.tmp 28), type := 4, pos := _, after := #[{ on := 2, ground := Go.Ground.data }, { on := 8, ground := Go.Ground.data }], guard := none }) (v := ?_) rfl (by kernel_rfl) (by kernel_rfl) (by kernel_rfl) (fun _ _ _ h => h) (Or.inl ⟨by rfl, ?_⟩) hHeld ?_
    rotate_left
    · (intro wq hSw; (try dsimp only at hSw); (try go_simp); (try with_reducible rfl))
    try simp only [Act.put, List.setIfInBounds_toArray, List.set_cons_zero, List.set_cons_succ]
    refine wpAnyH_take (i := 10) (oi := { dst := some 30, op := Go.Op.move (Go.Operand.tmp 29), type := 4, pos := _, after := #[{ on := 9, ground := Go.Ground.data }, { on := 7, ground := Go.Ground.chain }], guard := none }) (v := ?_) rfl (by kernel_rfl) (by kernel_rfl) (by kernel_rfl) (fun _ _ _ h => h) (Or.inl ⟨by rfl, ?_⟩) hHeld ?_
    rotate_left
    · (intro wq hSw; (try dsimp only at hSw); (try go_simp); (try with_reducible rfl))
    try simp only [Act.put, List.setIfInBounds_toArray, List.set_cons_zero, List.set_cons_succ]
    refine wpAnyH_take (i := 11) (oi := { dst := some 31, op := Go.Op.load 33 (Go.Operand.tmp 5), type := 33, pos := _, after := #[{ on := 10, ground := Go.Ground.guard }], guard := some (10, false) }) (v := undef) rfl (by kernel_rfl) (by kernel_rfl) (by kernel_rfl) (fun _ _ _ h => h) (Or.inr ⟨by rfl, rfl⟩) hHeld ?_
    try simp only [Act.put, List.setIfInBounds_toArray, List.set_cons_zero, List.set_cons_succ]
    refine wpAnyH_take (i := 12) (oi := { dst := some 32, op := Go.Op.call { callee := Go.Callee.value (Go.Operand.func 40), args := #[Go.Operand.tmp 31], argTypes := #[33] }, type := 4, pos := _, after := #[{ on := 11, ground := Go.Ground.data }, { on := 10, ground := Go.Ground.chain }, { on := 10, ground := Go.Ground.guard }], guard := some (10, false) }) (v := undef) rfl (by kernel_rfl) (by kernel_rfl) (by kernel_rfl) (fun _ _ _ h => h) (Or.inr ⟨by rfl, rfl⟩) hHeld ?_
    try simp only [Act.put, List.setIfInBounds_toArray, List.set_cons_zero, List.set_cons_succ]
    refine wpAnyH_take (i := 13) (oi := { dst := some 33, op := Go.Op.unOp Go.UnOp.not 4 (Go.Operand.tmp 32), type := 4, pos := _, after := #[{ on := 12, ground := Go.Ground.data }, { on := 10, ground := Go.Ground.guard }], guard := some (10, false) }) (v := undef) rfl (by kernel_rfl) (by kernel_rfl) (by kernel_rfl) (fun _ _ _ h => h) (Or.inr ⟨by rfl, rfl⟩) hHeld ?_
    try simp only [Act.put, List.setIfInBounds_toArray, List.set_cons_zero, List.set_cons_succ]
    refine wpAnyH_take (i := 14) (oi := { dst := some 34, op := Go.Op.pick (Go.Operand.tmp 30) (Go.Operand.const (Go.Value.bool true)) (Go.Operand.tmp 33), type := 4, pos := _, after := #[{ on := 10, ground := Go.Ground.data }, { on := 13, ground := Go.Ground.data }], guard := none }) (v := ?_) rfl (by kernel_rfl) (by kernel_rfl) (by kernel_rfl) (fun _ _ _ h => h) (Or.inl ⟨by rfl, ?_⟩) hHeld ?_
    rotate_left
    · (intro wq hSw; (try dsimp only at hSw); (try go_simp); (try with_reducible rfl))
    try simp only [Act.put, List.setIfInBounds_toArray, List.set_cons_zero, List.set_cons_succ]
    refine wpAnyH_done (by kernel_rfl) ?_ _
    refine NoPanic.normal ?_
    clear sS
    go_wp2_with fail
    go_ret
    exact ⟨rfl, K⟩
  have hn1 : ((ks.length : Int) != 2) = false := by rw [hn]; simp
  have HN := Lib.hid hn
  clear hn
  by_cases hpl : plainB op p q nm = true
  rotate_left
  · have hz1 : z = -1 := by rw [HZ.out]; exact SV1_no (fun e => hpl e.2.2.1)
    subst hz1
    have hpl : plainB op p q nm = false := by simpa using hpl
    rw [hpl] at P
    clear hpl HZ
    obtain ⟨A0, A1, A2, A3, A4, A5⟩ := A.cells
    go_enter Tryd.func23, Tryd.ntmps23
    go_wp2_with fail
    clear hrun A0 A1 A2 A3 A4 A5
    replace A := A.drew
    replace K := K.drew
    replace h := h.drew
    replace hM := hM.drew
    replace hD := hD.drew
    have sS := And.intro A.cells.1 (And.intro A.cells.2.1 (And.intro A.cells.2.2.1 (And.intro A.cells.2.2.2.1 A.cells.2.2.2.2.1)))
    go_region_held3 (fun wx : World => wx.cell? ⟨w.heap.size, 0, none⟩ = some (.int .i64 op) ∧ wx.cell? ⟨w.heap.size, 1, none⟩ = some (.int .i64 p) ∧ wx.cell? ⟨w.heap.size, 2, none⟩ = some (.int .i64 q) ∧ wx.cell? ⟨w.heap.size, 3, none⟩ = some (.string nm) ∧ wx.cell? ⟨w.heap.size, 4, none⟩ = some (.slice sa ks.length sc)) (first | (with_reducible assumption)) (first | (go_at_call 40; (with_reducible refine (P.out _).mono ?_); rintro e w1 ⟨rfl, hb⟩; replace A := A.keep hb; replace K := below_two K hb; replace h := h.below hb; replace hM := hM.below hb; replace hD := hD.below hb; clear hb; replace sS := And.intro A.cells.1 (And.intro A.cells.2.1 (And.intro A.cells.2.2.1 (And.intro A.cells.2.2.2.1 A.cells.2.2.2.2.1)))) | (go_at_call 96; rw [named_two]; (with_reducible refine (kids_any _ _ _).mono ?_); rintro e w1 ⟨rfl, hb⟩; replace A := A.keep hb; replace K := below_two K hb; replace h := h.below hb; replace hM := hM.below hb; replace hD := hD.below hb; clear hb; replace sS := And.intro A.cells.1 (And.intro A.cells.2.1 (And.intro A.cells.2.2.1 (And.intro A.cells.2.2.2.1 A.cells.2.2.2.2.1)))))
    clear sS
    go_wp2_with fail
    go_ret
    exact ⟨rfl, K⟩
  rw [hpl] at P
  have HPL := Lib.hid hpl
  clear hpl
  obtain ⟨A0, A1, A2, A3, A4, A5⟩ := A.cells
  go_enter Tryd.func23, Tryd.ntmps23
  go_wp2_with fail
  clear hrun A0 A1 A2 A3 A4 A5
  replace A := A.drew
  replace K := K.drew
  replace h := h.drew
  replace hM := hM.drew
  replace hD := hD.drew
  have sS := And.intro A.cells.1 (And.intro A.cells.2.1 (And.intro A.cells.2.2.1 (And.intro A.cells.2.2.2.1 A.cells.2.2.2.2.1)))
  go_region_held3 (fun wx : World => wx.cell? ⟨w.heap.size, 0, none⟩ = some (.int .i64 op) ∧ wx.cell? ⟨w.heap.size, 1, none⟩ = some (.int .i64 p) ∧ wx.cell? ⟨w.heap.size, 2, none⟩ = some (.int .i64 q) ∧ wx.cell? ⟨w.heap.size, 3, none⟩ = some (.string nm) ∧ wx.cell? ⟨w.heap.size, 4, none⟩ = some (.slice sa ks.length sc)) (first | (with_reducible assumption)) (first | (go_at_call 40; (with_reducible refine (P.out _).mono ?_); rintro e w1 ⟨rfl, hb⟩; replace A := A.keep hb; replace K := below_two K hb; replace h := h.below hb; replace hM := hM.below hb; replace hD := hD.below hb; clear hb; replace sS := And.intro A.cells.1 (And.intro A.cells.2.1 (And.intro A.cells.2.2.1 (And.intro A.cells.2.2.2.1 A.cells.2.2.2.2.1)))) | (go_at_call 96; rw [named_two]; (with_reducible refine (kids_any _ _ _).mono ?_); rintro e w1 ⟨rfl, hb⟩; replace A := A.keep hb; replace K := below_two K hb; replace h := h.below hb; replace hM := hM.below hb; replace hD := hD.below hb; clear hb; replace sS := And.intro A.cells.1 (And.intro A.cells.2.1 (And.intro A.cells.2.2.1 (And.intro A.cells.2.2.2.1 A.cells.2.2.2.2.1)))))
  clear sS P
  obtain ⟨A0, A1, A2, A3, A4, A5⟩ := A.cells
  go_wp2_with fail
  clear A0 A1 A2 A3 A4 A5
  go_loopw [9, 38] (fun o i wr => ∃ k : Nat, i = .int .i64 k ∧ k ≤ ks.length ∧ wr.ownsRow w1.heap.size 3 1 o k (((kS ds d ks).take k).map (.int .i64)) ∧ Hid (∀ j, j < k → (kS ds d ks).getD j 0 ≠ -1) ∧ Below w1.heap.size w1 wr) (fun _ i _ => ks.length - (intOf i).toNat)
  case atStart => exact ⟨0, rfl, Nat.zero_le _, World.ownsRow_nil _ _ _ _, fun j hj => absurd hj (Nat.not_lt_zero _), Below.refl _ _⟩
  case round =>
    obtain ⟨k, rfl, hk, own, hno, B⟩ := hrel
    by_cases hlt : k < ks.length
    · cases d with
      | zero => obtain ⟨rfl, _⟩ := h; exact absurd hlt (Nat.not_lt_zero _)
      | succ d =>
        have hx := h.below B
        obtain ⟨a', cap', S, e, hr, hnm, hkk⟩ := hx
        cases e
        obtain ⟨bb, off, rfl, _, c0, c1, c2, c3, c4⟩ := hr.five hlt
        have h1k := hkk k hlt
        obtain ⟨ka, kc, es, _⟩ := h1k.form
        rw [es] at c4 h1k
        have hsk := kS_at (ds := ds) (d := d) hlt
        obtain ⟨hwf, htk⟩ := hT k hlt
        obtain ⟨x, hx⟩ : ∃ x, x = ks.getD k tz := ⟨_, rfl⟩
        rw [← hx] at c0 c1 c2 c3 c4 h1k hsk hwf htk
        have hM2 := hM.below B
        have hD2 := hD.below B
        have C : Hid (∀ w', Below wr.heap.size wr w' → Calls Tryd.prog 23 #[.map (some b), .slice va ds.length vc, .agg #[.int .i64 x.op, .int .i64 x.a, .int .i64 x.b, .string x.nm, .slice ka x.ks.length kc]] w' fun e w2 => e = .returned (.int .i64 ((kS ds (d + 1) ks).getD k 0)) ∧ Below w'.heap.size w' w2) := fun w' hb => by
          rw [hsk]; exact IH d rfl b _ x.op x.a x.b x.nm _ x.ks w' (hM2.below hb) (hD2.below hb) (h1k.below hb) htk hwf.1
        have hk1 : (k : Int) < (ks.length : Int) := by omega
        have hss : (kS ds (d + 1) ks).length = ks.length := HKS.out
        obtain ⟨r, hr0⟩ : ∃ r, r = (kS ds (d + 1) ks).getD k 0 := ⟨_, rfl⟩
        have hts : Hid ((kS ds (d + 1) ks).take (k + 1) = (kS ds (d + 1) ks).take k ++ [r]) := by
          show _ = _
          rw [hr0, List.take_succ_eq_append_getElem (by omega), List.getD_eq_getElem?_getD, List.getElem?_eq_getElem (by omega)]; rfl
        rw [← hr0] at C
        have HR := Lib.hid hr0
        have HSS := Lib.hid hss
        clear hr hnm hkk h1k es hsk hwf htk hx hM2 hD2 hr0 hss
        go_wp2_with fail
        refine (C.out _ (below_self_alloc _ _)).mono ?_; rintro e w3 ⟨rfl, hb3⟩
        have B2 := below_two (below_step B _) hb3
        have own2 := own_keep1 (own.alloc _) hb3
        clear C c0 c1 c2 c3 c4
        by_cases hr1 : r = -1
        · subst hr1
          obtain rfl : z = -1 := by rw [HZ.out]; exact SV1_no (fun e => not_all (by rw [HSS.out]; exact hlt) HR.out.symm e.2.2.2)
          clear own own2 HZ
          go_wp2_with fail
          go_ret
          exact ⟨rfl, below_two K B2⟩
        · have hr2 : (r == -1) = false := by simpa using hr1
          have hno2 : Hid (∀ j, j < k + 1 → (kS ds (d + 1) ks).getD j 0 ≠ -1) := fun j hj => by
            by_cases e : j = k
            · subst e; rw [← HR.out]; exact hr1
            · exact hno.out j (by omega)
          have hk9 : k ≤ 3 := by have := HN.out; have := HC.out; omega
          have hz3 := B2.size
          clear hr1 hno B hb3 own
          go_wp2_with (at_builtin; refine wpList_append_own _ rfl _ _ 78 rfl w1.heap.size 3 i0 (.int .i64 0) 1 8 Tryd.underlying78 hi hz0 hz1 hz2 rfl (by decide) _ _ _ rfl (own2.alloc _) ⟨w3.heap.size, 0, none⟩ 1 1 [Value.int .i64 r] rfl rfl (cell_new1 _ _ _) (one_new1 _) (by unfold maxLen; omega) (by omega) (by simp; omega) ?_; intro v2 w4 own4 hg2 _; refine Hid.out ?_)
          refine Lib.hid ?_
          have B4 : Below w1.heap.size w1 w4 := (below_step B2 _).grown hg2 (by simp; omega) (fun k hk => (own2.lt k hk).1)
          have own5 : w4.ownsRow w1.heap.size 3 1 v2 (k + 1) (((kS ds (d + 1) ks).take (k + 1)).map (.int .i64)) := by
            rw [hts.out, List.map_append]; exact own4
          clear own2 own4 hg2 B2 hts
          go_wp2_with fail
          exact ⟨⟨k + 1, by go_num, by omega, own5, hno2, B4⟩, by simp [intOf]; omega⟩
    · obtain rfl : k = ks.length := by omega
      have hss : (kS ds d ks).length = ks.length := HKS.out
      have hz1 : z = SVb ds op p q nm (kS ds d ks) := by
        rw [HZ.out]; exact SV1_yes ⟨HKN.out, by rw [hss, HAR.out]; exact HN.out, HPL.out, all_of (fun j hj => hno.out j (by rw [← hss]; exact hj))⟩
      rw [SVb_cat HC.out] at hz1
      have LK : (kS ds d ks).length = 2 := by have := HN.out; omega
      rw [List.take_of_length_le (by omega)] at own
      have IK := Ints.of_own own
      have HZ1 := Lib.hid hz1
      replace A := A.keep B
      replace hD := hD.below B
      have CC := Lib.hid (sort_cat st (.slice va ds.length vc) op p q nm (.slice sa ks.length sc) u9 (kS ds d ks) _ IK LK (kS_bd hdw d ks))
      obtain ⟨A0, A1, A2, A3, A4, A5⟩ := A.cells
      clear HZ own hno hz1 LK IK hss h hM hT
      go_wp2_with fail
      refine CC.out.mono ?_; rintro e w3 ⟨rfl, hb3⟩
      clear CC
      go_wp2_with fail
      go_ret
      exact ⟨by rw [HZ1.out]; rfl, below_two (below_two K B) hb3⟩

set_option linter.unusedVariables false in
set_option maxRecDepth 100000 in
set_option maxHeartbeats 8000000 in
theorem sortOf_none (ds : List Dc) (d : Nat) (b : Nat) (v : Value) (op p q : Int) (nm : ByteArray) (s : Value) (ks : List Tm) (w : World) (hM : KMap w b) (hkn : known op = false) (kv : Value) (hlk : ∀ w', KMap w' b → (Instr.lookup 53 (.map (some b)) (.int .i64 op) true).run Tryd.prog w' = .ok (.tuple #[kv, .bool false]) w') :
    Calls Tryd.prog 23 #[.map (some b), v, .agg #[.int .i64 op, .int .i64 p, .int .i64 q, .string nm, s]] w fun e w' => e = .returned (.int .i64 (SV1 ds op p q nm (kS ds d ks))) ∧ Below w.heap.size w w' := by
  rw [SV1_no (fun e => by rw [hkn] at e; cases e.1)]
  have K := below_self_alloc w (.cells #[.int .i64 op, .int .i64 p, .int .i64 q, .string nm, s] 33)
  have A := blk5_new w (.int .i64 op) (.int .i64 p) (.int .i64 q) (.string nm) s 33
  have hrun := hlk _ (hM.below K)
  clear hlk
  obtain ⟨A0, A1, A2, A3, A4, A5⟩ := A.cells
  go_enter Tryd.func23, Tryd.ntmps23
  go_wp2_with fail
  clear hrun A0 A1 A2 A3 A4 A5
  replace A := A.drew
  replace K := K.drew
  have sS := And.intro A.cells.1 (And.intro A.cells.2.1 (And.intro A.cells.2.2.1 (And.intro A.cells.2.2.2.1 A.cells.2.2.2.2.1)))
  refine wp_region_noPanic ?_
  refine wp_region_held_drew (S := (fun wx : World => wx.cell? ⟨w.heap.size, 0, none⟩ = some (.int .i64 op) ∧ wx.cell? ⟨w.heap.size, 1, none⟩ = some (.int .i64 p) ∧ wx.cell? ⟨w.heap.size, 2, none⟩ = some (.int .i64 q) ∧ wx.cell? ⟨w.heap.size, 3, none⟩ = some (.string nm) ∧ wx.cell? ⟨w.heap.size, 4, none⟩ = some s)) (by kernel_rfl) sS (fun hHeld => ?_)
  refine wpAnyH_take (i := 0) (oi := { dst := some 20, op := Go.Op.move (Go.Operand.tmp 8), type := 4, pos := _, after := #[], guard := none }) (v := ?_) rfl (by kernel_rfl) (by kernel_rfl) (by kernel_rfl) (fun _ _ _ h => h) (Or.inl ⟨by rfl, ?_⟩) hHeld ?_
  rotate_left
  · (intro wq hSw; (try dsimp only at hSw); (try go_simp); (try with_reducible rfl))
  try simp only [Act.put, List.setIfInBounds_toArray, List.set_cons_zero, List.set_cons_succ]
  refine wpAnyH_take (i := 1) (oi := { dst := some 21, op := Go.Op.unOp Go.UnOp.not 4 (Go.Operand.tmp 20), type := 4, pos := _, after := #[{ on := 0, ground := Go.Ground.data }], guard := none }) (v := ?_) rfl (by kernel_rfl) (by kernel_rfl) (by kernel_rfl) (fun _ _ _ h => h) (Or.inl ⟨by rfl, ?_⟩) hHeld ?_
  rotate_left
  · (intro wq hSw; (try dsimp only at hSw); (try go_simp); (try with_reducible rfl))
  try simp only [Act.put, List.setIfInBounds_toArray, List.set_cons_zero, List.set_cons_succ]
  refine wpAnyH_take (i := 2) (oi := { dst := some 22, op := Go.Op.move (Go.Operand.tmp 21), type := 4, pos := _, after := #[{ on := 1, ground := Go.Ground.data }], guard := none }) (v := ?_) rfl (by kernel_rfl) (by kernel_rfl) (by kernel_rfl) (fun _ _ _ h => h) (Or.inl ⟨by rfl, ?_⟩) hHeld ?_
  rotate_left
  · (intro wq hSw; (try dsimp only at hSw); (try go_simp); (try with_reducible rfl))
  try simp only [Act.put, List.setIfInBounds_toArray, List.set_cons_zero, List.set_cons_succ]
  refine wpAnyH_take (i := 3) (oi := { dst := some 23, op := Go.Op.fieldAddr 33 (Go.Operand.tmp 5) 4, type := 0, pos := _, after := #[{ on := 2, ground := Go.Ground.guard }], guard := some (2, false) }) (v := undef) rfl (by kernel_rfl) (by kernel_rfl) (by kernel_rfl) (fun _ _ _ h => h) (Or.inr ⟨by rfl, rfl⟩) hHeld ?_
  try simp only [Act.put, List.setIfInBounds_toArray, List.set_cons_zero, List.set_cons_succ]
  refine wpAnyH_take (i := 4) (oi := { dst := some 24, op := Go.Op.load 31 (Go.Operand.tmp 23), type := 31, pos := _, after := #[{ on := 3, ground := Go.Ground.data }, { on := 2, ground := Go.Ground.guard }], guard := some (2, false) }) (v := undef) rfl (by kernel_rfl) (by kernel_rfl) (by kernel_rfl) (fun _ _ _ h => h) (Or.inr ⟨by rfl, rfl⟩) hHeld ?_
  try simp only [Act.put, List.setIfInBounds_toArray, List.set_cons_zero, List.set_cons_succ]
  refine wpAnyH_take (i := 5) (oi := { dst := some 25, op := Go.Op.call { callee := Go.Callee.builtin Go.Builtin.len, args := #[Go.Operand.tmp 24], argTypes := #[31] }, type := 3, pos := _, after := #[{ on := 4, ground := Go.Ground.data }, { on := 2, ground := Go.Ground.guard }], guard := some (2, false) }) (v := undef) rfl (by kernel_rfl) (by kernel_rfl) (by kernel_rfl) (fun _ _ _ h => h) (Or.inr ⟨by rfl, rfl⟩) hHeld ?_
  try simp only [Act.put, List.setIfInBounds_toArray, List.set_cons_zero, List.set_cons_succ]
  refine wpAnyH_take (i := 6) (oi := { dst := some 26, op := Go.Op.move (Go.Operand.tmp 7), type := 75, pos := _, after := #[{ on := 2, ground := Go.Ground.guard }], guard := some (2, false) }) (v := undef) rfl (by kernel_rfl) (by kernel_rfl) (by kernel_rfl) (fun _ _ _ h => h) (Or.inr ⟨by rfl, rfl⟩) hHeld ?_
  try simp only [Act.put, List.setIfInBounds_toArray, List.set_cons_zero, List.set_cons_succ]
  refine wpAnyH_take (i := 7) (oi := { dst := some 27, op := Go.Op.call { callee := Go.Callee.invoke (Go.Operand.tmp 26) _, args := #[], argTypes := #[] }, type := 3, pos := _, after := #[{ on := 6, ground := Go.Ground.data }, { on := 2, ground := Go.Ground.chain }, { on := 2, ground := Go.Ground.guard }], guard := some (2, false) }) (v := undef) rfl (by kernel_rfl) (by kernel_rfl) (by kernel_rfl) (fun _ _ _ h => h) (Or.inr ⟨by rfl, rfl⟩) hHeld ?_
  try simp only [Act.put, List.setIfInBounds_toArray, List.set_cons_zero, List.set_cons_succ]
  refine wpAnyH_take (i := 8) (oi := { dst := some 28, op := Go.Op.binOp Go.BinOp.neq 3 (Go.Operand.tmp 25) (Go.Operand.tmp 27) 3, type := 4, pos := _, after := #[{ on := 5, ground := Go.Ground.data }, { on := 7, ground := Go.Ground.data }, { on := 2, ground := Go.Ground.guard }], guard := some (2, false) }) (v := undef) rfl (by kernel_rfl) (by kernel_rfl) (by kernel_rfl) (fun _ _ _ h => h) (Or.inr ⟨by rfl, rfl⟩) hHeld ?_
  try simp only [Act.put, List.setIfInBounds_toArray, List.set_cons_zero, List.set_cons_succ]
  refine wpAnyH_take (i := 9) (oi := { dst := some 29, op := Go.Op.pick (Go.Operand.tmp 22) (Go.Operand.const (Go.Value.bool true)) (Go.Operand.tmp 28), type := 4, pos := _, after := #[{ on := 2, ground := Go.Ground.data }, { on := 8, ground := Go.Ground.data }], guard := none }) (v := ?_) rfl (by kernel_rfl) (by kernel_rfl) (by kernel_rfl) (fun _ _ _ h => h) (Or.inl ⟨by rfl, ?_⟩) hHeld ?_
  rotate_left
  · (intro wq hSw; (try dsimp only at hSw); (try go_simp); (try with_reducible rfl))
  try simp only [Act.put, List.setIfInBounds_toArray, List.set_cons_zero, List.set_cons_succ]
  refine wpAnyH_take (i := 10) (oi := { dst := some 30, op := Go.Op.move (Go.Operand.tmp 29), type := 4, pos := _, after := #[{ on := 9, ground := Go.Ground.data }, { on := 7, ground := Go.Ground.chain }], guard := none }) (v := ?_) rfl (by kernel_rfl) (by kernel_rfl) (by kernel_rfl) (fun _ _ _ h => h) (Or.inl ⟨by rfl, ?_⟩) hHeld ?_
  rotate_left
  · (intro wq hSw; (try dsimp only at hSw); (try go_simp); (try with_reducible rfl))
  try simp only [Act.put, List.setIfInBounds_toArray, List.set_cons_zero, List.set_cons_succ]
  refine wpAnyH_take (i := 11) (oi := { dst := some 31, op := Go.Op.load 33 (Go.Operand.tmp 5), type := 33, pos := _, after := #[{ on := 10, ground := Go.Ground.guard }], guard := some (10, false) }) (v := undef) rfl (by kernel_rfl) (by kernel_rfl) (by kernel_rfl) (fun _ _ _ h => h) (Or.inr ⟨by rfl, rfl⟩) hHeld ?_
  try simp only [Act.put, List.setIfInBounds_toArray, List.set_cons_zero, List.set_cons_succ]
  refine wpAnyH_take (i := 12) (oi := { dst := some 32, op := Go.Op.call { callee := Go.Callee.value (Go.Operand.func 40), args := #[Go.Operand.tmp 31], argTypes := #[33] }, type := 4, pos := _, after := #[{ on := 11, ground := Go.Ground.data }, { on := 10, ground := Go.Ground.chain }, { on := 10, ground := Go.Ground.guard }], guard := some (10, false) }) (v := undef) rfl (by kernel_rfl) (by kernel_rfl) (by kernel_rfl) (fun _ _ _ h => h) (Or.inr ⟨by rfl, rfl⟩) hHeld ?_
  try simp only [Act.put, List.setIfInBounds_toArray, List.set_cons_zero, List.set_cons_succ]
  refine wpAnyH_take (i := 13) (oi := { dst := some 33, op := Go.Op.unOp Go.UnOp.not 4 (Go.Operand.tmp 32), type := 4, pos := _, after := #[{ on := 12, ground := Go.Ground.data }, { on := 10, ground := Go.Ground.guard }], guard := some (10, false) }) (v := undef) rfl (by kernel_rfl) (by kernel_rfl) (by kernel_rfl) (fun _ _ _ h => h) (Or.inr ⟨by rfl, rfl⟩) hHeld ?_
  try simp only [Act.put, List.setIfInBounds_toArray, List.set_cons_zero, List.set_cons_succ]
  refine wpAnyH_take (i := 14) (oi := { dst := some 34, op := Go.Op.pick (Go.Operand.tmp 30) (Go.Operand.const (Go.Value.bool true)) (Go.Operand.tmp 33), type := 4, pos := _, after := #[{ on := 10, ground := Go.Ground.data }, { on := 13, ground := Go.Ground.data }], guard := none }) (v := ?_) rfl (by kernel_rfl) (by kernel_rfl) (by kernel_rfl) (fun _ _ _ h => h) (Or.inl ⟨by rfl, ?_⟩) hHeld ?_
  rotate_left
  · (intro wq hSw; (try dsimp only at hSw); (try go_simp); (try with_reducible rfl))
  try simp only [Act.put, List.setIfInBounds_toArray, List.set_cons_zero, List.set_cons_succ]
  refine wpAnyH_done (by kernel_rfl) ?_ _
  refine NoPanic.normal ?_
  clear sS
  go_wp2_with fail
  go_ret
  exact ⟨rfl, K⟩
end Go.Proofs.YtfkanemjedndgaaDoor
