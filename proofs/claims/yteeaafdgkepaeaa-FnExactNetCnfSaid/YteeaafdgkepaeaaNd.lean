/- readNet, NetOk of the program. The conditions stand in each statement. -/
import Derived.Test.YteeaafdgkepaeaaNr
import Derived.Deep.DeepCutAuto
import Derived.Deep.RegionHeld3
import Derived.WideShapes4
namespace Go.Proofs.Yteeaafdgkepaeaa
open Go.RowKit

theorem mabs_nn (m : Int) : 0 ≤ mabs m := by unfold mabs; split <;> omega
theorem mabs_zero {m : Int} : mabs m = 0 ↔ m = 0 := by unfold mabs; split <;> omega
theorem gOk_iff {most : Int} {g : Gt} : gOk most g ↔ (g.2.1 ≠ 0 ∧ -most ≤ g.2.1 ∧ g.2.1 ≤ most) ∧ (g.2.2 ≠ 0 ∧ -most ≤ g.2.2 ∧ g.2.2 ≤ most) ∧ mabs g.2.1 ≠ 1 ∧ mabs g.2.2 ≠ 1 ∧ mabs g.2.1 < mabs g.2.2 ∧ ¬ (g.1 = true ∧ (g.2.1 < 0 ∨ g.2.2 < 0)) := by
  have a0 := mabs_nn g.2.1
  have b0 := mabs_nn g.2.2
  have az := mabs_zero (m := g.2.1)
  have bz := mabs_zero (m := g.2.2)
  unfold gOk
  constructor
  · rintro ⟨h1, h2, h3, h4, h5, h6, h7⟩
    exact ⟨⟨fun e => by have := az.2 e; omega, h1, h2⟩, ⟨fun e => by have := bz.2 e; omega, h3, h4⟩, by omega, by omega, h6, h7⟩
  · rintro ⟨⟨h0, h1, h2⟩, ⟨h3, h4, h5⟩, h6, h7, h8, h9⟩
    exact ⟨h1, h2, h4, h5, by have : mabs g.2.1 ≠ 0 := fun e => h0 (az.1 e); omega, h8, h9⟩
def IsRead (z : Bool) (w : World) (e : Ending) (w' : World) : Prop := ∃ p, e = .returned (.tuple #[p, .bool z]) ∧ Below w.heap.size w w'
theorem two_keep {w w' : World} (hb : Below w.heap.size w w') {b : Nat} {x y : Value} (hl : b < w.heap.size) (h : w.cell? ⟨b, 0, none⟩ = some x ∧ w.cell? ⟨b, 1, none⟩ = some y) :
    w'.cell? ⟨b, 0, none⟩ = some x ∧ w'.cell? ⟨b, 1, none⟩ = some y :=
  ⟨(hb.cell (p := ⟨b, 0, none⟩) hl).trans h.1, (hb.cell (p := ⟨b, 1, none⟩) hl).trans h.2⟩
theorem blk_row {w w' : World} {g : Nat} {x y : Value} {t : TypeId} {row : Option Nat} (h : Blk w g x y t) (hg : w.grownBy w' row) (hne : row ≠ some g) : Blk w' g x y t := by
  unfold Blk at *; exact (hg.block g (Array.getElem?_eq_some_iff.1 h).1 (fun e => hne e.symm)).trans h
theorem blk3_row {w w' : World} {g : Nat} {x y z : Value} {t : TypeId} {row : Option Nat} (h : Blk3 w g x y z t) (hg : w.grownBy w' row) (hne : row ≠ some g) : Blk3 w' g x y z t := by
  unfold Blk3 at *; exact (hg.block g (Array.getElem?_eq_some_iff.1 h).1 (fun e => hne e.symm)).trans h
theorem grown_none {w w' : World} (h : Below w.heap.size w w') : w.grownBy w' none := ⟨h.os, h.tape, h.output, h.size, fun k hk _ => h.block k hk⟩
theorem Gates.row {w : World} {a : Option Addr} {n cap : Nat} {gs : List Gt} (h : Gates w (.slice a n cap) gs) : RowS w a gs.length cap 3 (gcell gs) := by
  obtain ⟨_, _, e, hr⟩ := h
  cases e
  exact hr
abbrev Seen (w : World) (b n : Nat) (D : DataW Unit) : Prop := w.ownsMap Try.prog 47 (plainElem Try.prog 3) b n D
theorem Seen.below {w w' : World} {b n : Nat} {D : DataW Unit} (h : Seen w b n D) (hb : Below w.heap.size w w') : Seen w' b n D := h.kept (grown_none hb) (by simp)
theorem Seen.look {w : World} {b n : Nat} {D : DataW Unit} (M : Seen w b n D) {g : Gt} (hk : keyOf Try.prog 47 (gv g) = some (gk g)) :
    ∃ c : Int, ∀ q, (Instr.lookup 92 (.map (some b)) (gv g) true).run Try.prog (w.drewN q) = .ok (.tuple #[.int .i64 c, .bool (Maps.has D (gk g))]) (w.drewN q) := by
  obtain ⟨v, ps, _, hR⟩ := M.look_ok gate_keyed Try.underlying92 (Try.zeroValue3 _) (plainElem_int Try.underlying3 (by decide)) hk
  obtain ⟨c, rfl, hc, _⟩ := plainElem_int_inv Try.underlying3 hR
  refine ⟨c, fun q => ?_⟩
  have Mq : Seen (w.drewN q) b n D := M
  obtain ⟨v', ps', hr, hR'⟩ := Mq.look_ok gate_keyed Try.underlying92 (Try.zeroValue3 _) (plainElem_int Try.underlying3 (by decide)) hk
  obtain ⟨c', rfl, hc', _⟩ := plainElem_int_inv Try.underlying3 hR'
  have e : c' = c := by
    have h1 := congrArg Prod.fst hc
    have h2 := congrArg Prod.fst hc'
    dsimp only at h1 h2
    rw [h1] at h2
    simpa using h2.symm
  rw [hr, e]
/-- the gates that were seen are the keys -/
def Keys (gs : List Gt) (j : Nat) (D : DataW Unit) : Prop := ∀ g, gtWf g → (Maps.has D (gk g) = true ↔ ∃ i, i < j ∧ gs.getD i gz = g)
theorem Keys.step {gs : List Gt} {j : Nat} {D : DataW Unit} (h : Keys gs j D) (hm : Maps.IsMap D) (hw : ∀ i, i < gs.length → gtWf (gs.getD i gz)) (hj : j < gs.length) (d : DataW Unit) : Keys gs (j + 1) (D.put (gk (gs.getD j gz)) d) := by
  intro g hg
  by_cases e : gs.getD j gz = g
  · rw [← e, Maps.has_put_same hm (gate_keyed.key (keyOf_gate (hw j hj)))]
    exact ⟨fun _ => ⟨j, by omega, rfl⟩, fun _ => rfl⟩
  · rw [Maps.has_put_other (fun e2 => e (gk_inj (hw j hj) hg e2.symm)), h g hg]
    constructor
    · rintro ⟨i, hi, e2⟩; exact ⟨i, by omega, e2⟩
    · rintro ⟨i, hi, e2⟩
      rcases Nat.lt_or_ge i j with h1 | h1
      · exact ⟨i, h1, e2⟩
      · exact absurd (by rw [show j = i by omega]; exact e2) e

set_option maxRecDepth 100000 in
set_option maxHeartbeats 8000000 in
theorem readNet_any (m : Int) (v : Value) (gs : List Gt) (w : World) (h : Gates w v gs) (hv : NilOrB v) (hwf : ∀ i, i < gs.length → gtWf (gs.getD i gz)) :
    Calls Try.prog 51 #[.agg #[.int .i64 m, v]] w (IsRead (netV m gs) w) := by
  have hl := h.len
  have hb := below_self_alloc w (.cells #[.int .i64 m, v] 39)
  have C := blk_new w (.int .i64 m) v 39
  obtain ⟨a, cap, rfl⟩ := h.form
  have h0 := Lib.hid h
  replace h := h.below hb
  by_cases q0 : m < 0
  · rw [netV_false.2 (fun hn => by have := hn.1; omega)]
    clear h C
    go_enter Try.func51, Try.ntmps51
    go_wp2_with fail
    exact bodyPost_ret (v := .tuple #[.pointer none, .bool false]) (by simp [results, Try.results51, go_sem]) rfl ⟨_, rfl, hb⟩
  by_cases q1 : 8 < m
  · rw [netV_false.2 (fun hn => by have := hn.1; omega)]
    clear h C
    go_enter Try.func51, Try.ntmps51
    go_wp2_with fail
    exact bodyPost_ret (v := .tuple #[.pointer none, .bool false]) (by simp [results, Try.results51, go_sem]) rfl ⟨_, rfl, hb⟩
  by_cases q2 : (600 : Int) < gs.length
  · rw [netV_false.2 (fun hn => by have := hn.1; omega)]
    clear h C
    go_enter Try.func51, Try.ntmps51
    go_wp2_with fail
    exact bodyPost_ret (v := .tuple #[.pointer none, .bool false]) (by simp [results, Try.results51, go_sem]) rfl ⟨_, rfl, hb⟩
  obtain ⟨z, hz⟩ : ∃ z, z = netV m gs := ⟨_, rfl⟩
  rw [← hz]
  have HZ := Lib.hid hz
  have HW := Lib.hid hwf
  clear hz hwf
  have hmm := @run_makeMap Try.prog
  go_enter Try.func51, Try.ntmps51
  go_upto_region 3 with fail
  go_cut [4] (fun s4 wx => ∃ (gc bm : Nat) (x : Value), s4 = .pointer (some ⟨gc, 0, none⟩) ∧ Blk3 wx gc (.int .i64 m) x (.map (some bm)) 94 ∧ Seen wx bm 0 (.map []) ∧ gc ≠ bm ∧ w.heap.size < bm ∧ w.heap.size < gc ∧ Blk wx w.heap.size (.int .i64 m) (.slice a gs.length cap) 39 ∧ Below w.heap.size w wx)
  case first =>
    have gl := C.lt
    obtain ⟨C0, C1, C2⟩ := C.cells
    have s0 := And.intro C0 C1
    have hA := Lib.hid h.drew
    have bM := below_self_alloc (w.alloc (.cells #[.int .i64 m, .slice a gs.length cap] 39)) (.map #[] 0)
    have hB : Hid (Gates ((w.alloc (.cells #[.int .i64 m, .slice a gs.length cap] 39)).alloc (.map #[] 0)).drew (.slice a gs.length cap) gs) 
      := (h.below bM).drew
    have CM := C.keep bM
    clear h
    go_region_held3 (fun wx : World => wx.cell? ⟨w.heap.size, 0, none⟩ = some (.int .i64 m) ∧ wx.cell? ⟨w.heap.size, 1, none⟩ = some (.slice a gs.length cap)) (first | (with_reducible assumption) | exact s0 | exact two_keep bM gl s0 | exact two_keep (below_self_alloc _ _) (by first | exact gl1 | (simp; omega)) (by assumption)) (first
      | (go_at_call 68; refine (cloneGates_any _ gs _ hA.out (by omega) hv).mono ?_; rintro e w5 ⟨x, rfl, hx, hb5⟩; obtain ⟨ax, cx, rfl⟩ := hx.form; have s1 := two_keep hb5 gl s0; have gl1 := Nat.lt_of_lt_of_le gl hb5.size; have C5 := C.drew.keep hb5; have B5 := below_two hb.drew hb5; have O5 := (trivial : True))
      | (go_at_call 68; refine (cloneGates_any _ gs _ hB.out (by omega) hv).mono ?_; rintro e w5 ⟨x, rfl, hx, hb5⟩; obtain ⟨ax, cx, rfl⟩ := hx.form; have s1 := two_keep hb5 (Nat.lt_of_lt_of_le gl bM.size) (two_keep bM gl s0); have gl1 := Nat.lt_of_lt_of_le (Nat.lt_of_lt_of_le gl bM.size) hb5.size; have C5 := CM.drew.keep hb5; have B5 := below_two (below_two hb bM).drew hb5; have O5 : Seen w5 (w.heap.size + 1) 0 (.map []) := Seen.below (by have := World.ownsMap_made (H := Unit) (w.alloc (.cells #[.int .i64 m, .slice a gs.length cap] 39)) Try.prog 47 (plainElem Try.prog 3); exact (by simpa using this : Seen _ (w.heap.size + 1) 0 (.map [])).drew) hb5))
    all_goals go_wp2_with fail
    all_goals go_meet
    · refine ⟨_, w5.heap.size, .slice ax gs.length cx, rfl, by have := blk3_new (w5.alloc (.map #[] 0)) (.int .i64 m) (.slice ax gs.length cx) (.map (some w5.heap.size)) 94; simpa using this, ?_, by simp, ?_, ?_, (C5.alloc _).alloc _, below_step (below_step B5 _) _⟩
      · exact (World.ownsMap_made (H := Unit) w5 Try.prog 47 (plainElem Try.prog 3)).alloc _
      · have := hb5.size; simp at this; omega
      · have := hb5.size; simp at this; omega
    · refine ⟨_, w.heap.size + 1, _, rfl, blk3_new _ _ _ _ _, O5.alloc _, ?_, by omega, ?_, C5.alloc _, below_step B5 _⟩
      · have := hb5.size; simp at this; omega
      · have := hb5.size; simp at this; omega
  case rest =>
    clear C hmm
    clear h
    clear hb
    obtain ⟨gc, bm, x, rfl, KC, M, hne, hbm, hgc, C, hb⟩ := hcut
    have hbm2 : ¬ w.heap.size = bm := by omega
    have hwgc : w.heap.size < gc := hgc
    obtain ⟨C0, C1, C2⟩ := C.cells
    have K0 : Keys gs 0 (.map []) := fun g _ => ⟨fun h => by simp [Maps.has] at h, fun ⟨i, hi, _⟩ => absurd hi (Nat.not_lt_zero _)⟩
    have HK0 := Lib.hid K0
    clear K0
    go_wp2_with fail
    clear C0 C1 C2
    go_loopw [37] (fun i wr => ∃ (j : Nat) (D : DataW Unit), j ≤ gs.length ∧ i = .int .i64 j ∧ Hid (∀ i, i < j → GateIn m gs i) ∧ Hid (Keys gs j D) ∧ Maps.IsMap D ∧ Seen wr bm j D ∧ Blk3 wr gc (.int .i64 m) x (.map (some bm)) 94 ∧ Blk wr w.heap.size (.int .i64 m) (.slice a gs.length cap) 39 ∧ Below w.heap.size w wr) (fun i _ => gs.length - (intOf i).toNat)
    case atStart => exact ⟨0, _, Nat.zero_le _, rfl, fun i hi => absurd hi (by omega), HK0, Maps.isMap_empty, M, KC, C, hb⟩
    case round =>
      clear HK0 M KC C hb
      obtain ⟨j, D, hj, rfl, hpre, hkeys, hD, M, KC, C, B⟩ := hrel
      by_cases hlt : j < gs.length
      · obtain ⟨b, off, rfl, g4, g5, g6, g7⟩ := RowS.three ((Gates.row h0.out).below B) hlt
        have hj0 : (0 : Int) ≤ (j : Int) := by omega
        have hj1 : (j : Int) < (gs.length : Int) := by omega
        obtain ⟨y, hy⟩ : ∃ y, y = gs.getD j gz := ⟨_, rfl⟩
        have hwj := HW.out j hlt
        have hkey := keyOf_gate hwj
        rw [← hy] at g5 g6 g7 hwj hkey
        have HG : Hid (GateIn m gs j ↔ gOk (1 + m + j) y ∧ freshG gs j) := by
          show GateIn m gs j ↔ gOk (1 + m + j) y ∧ freshG gs j
          rw [GateIn, ← hy]
        have HY := Lib.hid hy
        clear hy
        have NN : Hid (¬ (gOk (1 + m + j) y ∧ freshG gs j) → z = false) := fun hn => by
          rw [HZ.out, netV_false]; exact fun ht => hn (HG.out.1 (ht.2 j hlt))
        have TW : Hid (Maps.has D (gk y) = true ↔ ∃ i, i < j ∧ gs.getD i gz = y) := hkeys.out y hwj
        obtain ⟨w1, w2⟩ := hwj
        obtain ⟨x0, x1, x2⟩ := y
        dsimp only at g5 g6 g7 w1 w2
        have E := blk3_new wr (.bool x0) (.int .i64 x1) (.int .i64 x2) 47
        have A := below_self_alloc wr (.cells #[.bool x0, .int .i64 x1, .int .i64 x2] 47)
        have M1 := M.below A
        have KC1 := KC.keep A
        have C1' := C.keep A
        have B1 := below_two B A
        have hge : ¬ wr.heap.size = bm := by have := M.lt; omega
        have hgl := B.size
        obtain ⟨E0, E1, E2, E3⟩ := E.cells
        clear A M KC C B
        go_wp2_with fail
        go_quiet (fail)
        rename_i nq
        replace E := E.drewN nq
        replace M1 : Seen ((wr.alloc (.cells #[.bool x0, .int .i64 x1, .int .i64 x2] 47)).drewN nq) bm j D := M1
        replace KC1 := KC1.drewN nq
        replace C1' := C1'.drewN nq
        replace B1 := below_drewN B1 nq
        clear E0 E1 E2 E3
        obtain ⟨W, hW⟩ : ∃ W, W = (wr.alloc (.cells #[.bool x0, .int .i64 x1, .int .i64 x2] 47)).drewN nq := ⟨_, rfl⟩
        rw [← hW] at E M1 KC1 C1' B1 ⊢
        clear hW
        have M := M1
        have KC := KC1
        have C := C1'
        have B := B1
        clear M1 KC1 C1' B1
        obtain ⟨C0, C1, C2⟩ := C.cells
        clear g4 g5 g6 g7
        obtain ⟨y1, hy1⟩ : ∃ q, q = mabs x1 := ⟨_, rfl⟩
        obtain ⟨y2, hy2⟩ : ∃ q, q = mabs x2 := ⟨_, rfl⟩
        have NN2 := NN
        obtain ⟨oa, hoa⟩ : ∃ q, q = decide (x1 ≠ 0 ∧ -(1 + m + (j : Int)) ≤ x1 ∧ x1 ≤ 1 + m + j) := ⟨_, rfl⟩
        obtain ⟨ob, hob⟩ : ∃ q, q = decide (x2 ≠ 0 ∧ -(1 + m + (j : Int)) ≤ x2 ∧ x2 ≤ 1 + m + j) := ⟨_, rfl⟩
        have T1 := fun w => of_any x1 (1 + m + j) w (by omega) (by omega)
        have T2 := fun w => of_any x2 (1 + m + j) w (by omega) (by omega)
        rw [← hoa] at T1
        rw [← hob] at T2
        replace T1 := Lib.hid T1
        replace T2 := Lib.hid T2
        have HA := Lib.hid hoa
        have HB := Lib.hid hob
        have H1 := Lib.hid hy1
        have H2 := Lib.hid hy2
        clear hoa hob hy1 hy2 NN2
        go_wp2_with fail
        refine (nodes_any m _ j _ (by omega) (by omega) (by omega) (by omega)).mono ?_; rintro e w2 ⟨rfl, hb2⟩
        replace B := below_two B hb2
        replace C := C.keep hb2
        replace E := E.keep hb2
        replace M := M.below hb2
        replace KC := KC.keep hb2
        clear hb2 C0 C1 C2
        obtain ⟨C0, C1, C2⟩ := C.cells
        go_wp2_with fail
        refine (T1.out _).mono ?_; rintro e w3 ⟨rfl, rfl⟩
        cases oa
        · obtain rfl : z = false := NN.out (fun hg => by have := gOk_iff.1 hg.1; dsimp only at this; exact of_decide_eq_false HA.out.symm this.1)
          clear NN TW HG HY HZ hkeys hpre HW
          go_wp2_with fail
          exact bodyPost_ret (v := .tuple #[.pointer none, .bool false]) (by simp [results, Try.results51, go_sem]) rfl ⟨_, rfl, B⟩
        have hA := of_decide_eq_true HA.out.symm
        go_wp2_with fail
        refine (nodes_any m _ j _ (by omega) (by omega) (by omega) (by omega)).mono ?_; rintro e w3 ⟨rfl, hb2⟩
        replace B := below_two B hb2
        replace C := C.keep hb2
        replace E := E.keep hb2
        replace M := M.below hb2
        replace KC := KC.keep hb2
        clear hb2 C0 C1 C2
        obtain ⟨C0, C1, C2⟩ := C.cells
        go_wp2_with fail
        refine (T2.out _).mono ?_; rintro e w4 ⟨rfl, rfl⟩
        cases ob
        · obtain rfl : z = false := NN.out (fun hg => by have := gOk_iff.1 hg.1; dsimp only at this; exact of_decide_eq_false HB.out.symm this.2.1)
          clear NN TW HG HY HZ hkeys hpre HW
          go_wp2_with fail
          exact bodyPost_ret (v := .tuple #[.pointer none, .bool false]) (by simp [results, Try.results51, go_sem]) rfl ⟨_, rfl, B⟩
        have hB := of_decide_eq_true HB.out.symm
        have T3 := fun w => node_any x1 w (by omega) (by omega)
        have T4 := fun w => node_any x2 w (by omega) (by omega)
        rw [← H1.out] at T3
        rw [← H2.out] at T4
        replace T3 := Lib.hid T3
        replace T4 := Lib.hid T4
        have HN : Hid (¬ (y1 ≠ 1 ∧ y2 ≠ 1 ∧ y1 < y2 ∧ ¬ (x0 = true ∧ (x1 < 0 ∨ x2 < 0)) ∧ freshG gs j) → z = false) := fun hn => NN.out (fun hg => hn (by
          have := gOk_iff.1 hg.1
          dsimp only at this
          rw [← H1.out, ← H2.out] at this
          exact ⟨this.2.2.1, this.2.2.2.1, this.2.2.2.2.1, this.2.2.2.2.2, hg.2⟩))
        have HP : Hid ((y1 ≠ 1 ∧ y2 ≠ 1 ∧ y1 < y2 ∧ ¬ (x0 = true ∧ (x1 < 0 ∨ x2 < 0)) ∧ freshG gs j) → GateIn m gs j) := fun ⟨k1, k2, k3, k4, k5⟩ => HG.out.2 ⟨gOk_iff.2 (by
          dsimp only
          rw [← H1.out, ← H2.out]
          exact ⟨hA, hB, k1, k2, k3, k4⟩), k5⟩
        clear NN HG HA HB T1 T2 H1 H2 hA hB
        go_wp2_with fail
        refine (T3.out _).mono ?_; rintro e w5 ⟨rfl, rfl⟩
        by_cases e1 : y1 = 1
        · subst e1
          obtain rfl : z = false := HN.out (fun hg => hg.1 rfl)
          clear HN HP TW HY HZ hkeys hpre HW
          go_wp2_with fail
          exact bodyPost_ret (v := .tuple #[.pointer none, .bool false]) (by simp [results, Try.results51, go_sem]) rfl ⟨_, rfl, B⟩
        have d1 : (y1 == 1) = false := by simpa using e1
        go_wp2_with fail
        refine (T4.out _).mono ?_; rintro e w5 ⟨rfl, rfl⟩
        by_cases e2 : y2 = 1
        · subst e2
          obtain rfl : z = false := HN.out (fun hg => hg.2.1 rfl)
          clear HN HP TW HY HZ hkeys hpre HW
          go_wp2_with fail
          exact bodyPost_ret (v := .tuple #[.pointer none, .bool false]) (by simp [results, Try.results51, go_sem]) rfl ⟨_, rfl, B⟩
        have d2 : (y2 == 1) = false := by simpa using e2
        go_wp2_with fail
        refine (T3.out _).mono ?_; rintro e w5 ⟨rfl, rfl⟩
        go_wp2_with fail
        refine (T4.out _).mono ?_; rintro e w5 ⟨rfl, rfl⟩
        by_cases e3 : y2 ≤ y1
        · obtain rfl : z = false := HN.out (fun hg => by omega)
          clear HN HP TW HY HZ hkeys hpre HW
          go_wp2_with fail
          exact bodyPost_ret (v := .tuple #[.pointer none, .bool false]) (by simp [results, Try.results51, go_sem]) rfl ⟨_, rfl, B⟩
        have d3 : decide (y2 ≤ y1) = false := by simpa using e3
        clear T3 T4 C0 C1 C2
        obtain ⟨c, hlook⟩ := M.look hkey
        have hlook : ∀ q, (Instr.lookup 92 (.map (some bm)) (.agg #[.bool x0, .int .i64 x1, .int .i64 x2]) true).run Try.prog (w3.drewN q) = .ok (.tuple #[.int .i64 c, .bool (Maps.has D (gk (x0, x1, x2)))]) (w3.drewN q) := hlook
        obtain ⟨tw, htw⟩ : ∃ q, q = Maps.has D (gk (x0, x1, x2)) := ⟨_, rfl⟩
        rw [← htw] at TW hlook
        clear htw
        have FR : Hid (tw = true ↔ ¬ freshG gs j) := by
          show tw = true ↔ ¬ freshG gs j
          rw [TW.out]
          unfold freshG
          rw [← HY.out]
          constructor
          · rintro ⟨i, hi, e⟩ hf; exact hf i hi e
          · intro hf
            exact Classical.byContradiction fun hn => hf fun i hi e => hn ⟨i, hi, e⟩
        clear TW
        obtain ⟨E0, E1, E2, E3⟩ := E.cells
        obtain ⟨K0, K1, K2, K3⟩ := KC.cells
        go_wp2_with fail
        go_quiet (fail)
        replace E := E.drewN nq
        replace M : Seen (w3.drewN nq) bm j D := M
        replace KC := KC.drewN nq
        replace C := C.drewN nq
        replace B := below_drewN B nq
        clear E0 E1 E2 E3 K0 K1 K2 K3 hlook
        obtain ⟨W2, hW2⟩ : ∃ W, W = w3.drewN nq := ⟨_, rfl⟩
        rw [← hW2] at E M KC C B ⊢
        clear hW2
        obtain ⟨E0, E1, E2, E3⟩ := E.cells
        cases tw
        case true =>
          obtain rfl : z = false := HN.out (fun hg => FR.out.1 rfl hg.2.2.2.2)
          clear HN HP FR HY HZ hkeys hpre HW
          go_wp2_with fail
          exact bodyPost_ret (v := .tuple #[.pointer none, .bool false]) (by simp [results, Try.results51, go_sem]) rfl ⟨_, rfl, B⟩
        case false =>
        have hfr : freshG gs j := Classical.byContradiction fun hn => by have := FR.out.2 hn; cases this
        clear FR
        have hkeyL := HW.out j hlt
        by_cases hx : x0 = true ∧ (x1 < 0 ∨ x2 < 0)
        · obtain rfl : z = false := HN.out (fun hg => hg.2.2.2.1 hx)
          obtain ⟨rfl, hx⟩ := hx
          clear HN HP HY HZ hkeys hpre HW
          by_cases hx1 : x1 < 0
          · go_wp2_with fail
            exact bodyPost_ret (v := .tuple #[.pointer none, .bool false]) (by simp [results, Try.results51, go_sem]) rfl ⟨_, rfl, B⟩
          · have hx2 : x2 < 0 := by omega
            clear hx
            go_wp2_with fail
            exact bodyPost_ret (v := .tuple #[.pointer none, .bool false]) (by simp [results, Try.results51, go_sem]) rfl ⟨_, rfl, B⟩
        have hgi := HP.out ⟨e1, e2, by omega, hx, hfr⟩
        have P2 : Hid (∀ i, i < j + 1 → GateIn m gs i) := fun i hi => by
          rcases Nat.lt_or_ge i j with h1 | h1
          · exact hpre.out i h1
          · rw [show i = j by omega]; exact hgi
        have K2 : Hid (∀ d, Keys gs (j + 1) (D.put (gk (x0, x1, x2)) d)) := fun d => by
          rw [HY.out]; exact hkeys.out.step hD HW.out hlt d
        have D2 := Lib.hid (fun d : DataW Unit => hD.put (gk (x0, x1, x2)) d)
        have J : x0 = false ∨ (x0 = true ∧ ¬ x1 < 0 ∧ ¬ x2 < 0) := by
          cases x0
          · exact .inl rfl
          · exact .inr ⟨rfl, by simp at hx; omega, by simp at hx; omega⟩
        clear hx hgi hpre hfr HP HN hkeyL
        have HK := Lib.hid hkey
        clear hkey
        have gcl := KC.lt
        have ccl := C.lt
        have ecl := E.lt
        have hj600 : j < 1000 := by omega
        rcases J with rfl | ⟨rfl, n1, n2⟩
        · clear e1 e2 d1 d2 d3 e3
          go_wp2_with fail
          clear E0 E1 E2 E3
          obtain ⟨E0, E1, E2, E3⟩ := E.drew.cells
          obtain ⟨K0', K1', K2', K3'⟩ := KC.drew.cells
          obtain ⟨C0, C1, C2⟩ := C.drew.cells
          have s0 := And.intro K2' (And.intro (And.intro E0 (And.intro E1 E2)) (And.intro C0 C1))
          clear E0 E1 E2 E3 K0' K1' K2' K3' C0 C1 C2
          go_region_held3 (fun wx : World => wx.cell? ⟨gc, 2, none⟩ = some (.map (some bm)) ∧ (wx.cell? ⟨wr.heap.size, 0, none⟩ = some (.bool false) ∧ wx.cell? ⟨wr.heap.size, 1, none⟩ = some (.int .i64 x1) ∧ wx.cell? ⟨wr.heap.size, 2, none⟩ = some (.int .i64 x2)) ∧ (wx.cell? ⟨w.heap.size, 0, none⟩ = some (.int .i64 m) ∧ wx.cell? ⟨w.heap.size, 1, none⟩ = some (.slice (some ⟨b, off, none⟩) gs.length cap))) (first | (with_reducible assumption)) (first
            | (go_at_call 69; refine (nodes_any m _ j _ (by omega) (by omega) (by omega) (by omega)).mono ?_; rintro e w6 ⟨rfl, hb6⟩; have M6 : Seen w6 bm j D := Seen.below (w := W2.drew) M hb6; have KC6 := KC.drew.keep hb6; have C6 := C.drew.keep hb6; have B6 := below_two B.drew hb6; obtain ⟨w7, hup, M7, hg7⟩ := M6.update gate_keyed Try.underlying92 (by unfold maxLen; omega) HK.out (plainElem_int (a := IntKind.i64.wrap (1 + m + (j : Int) + 1)) Try.underlying3 (Go.WideShapes.wf_wrap .i64 _)); replace hup : (Instr.mapUpdate 92 (.map (some bm)) (.agg #[.bool false, .int .i64 x1, .int .i64 x2]) (.int .i64 (IntKind.i64.wrap (1 + m + (j : Int) + 1)))).run Try.prog w6 = .ok () w7 := hup; have s6 := And.intro ((hb6.cell (p := ⟨gc, 2, none⟩) gcl).trans s0.1) (And.intro (And.intro ((hb6.cell (p := ⟨wr.heap.size, 0, none⟩) ecl).trans s0.2.1.1) (And.intro ((hb6.cell (p := ⟨wr.heap.size, 1, none⟩) ecl).trans s0.2.1.2.1) ((hb6.cell (p := ⟨wr.heap.size, 2, none⟩) ecl).trans s0.2.1.2.2))) (And.intro ((hb6.cell (p := ⟨w.heap.size, 0, none⟩) ccl).trans s0.2.2.1) ((hb6.cell (p := ⟨w.heap.size, 1, none⟩) ccl).trans s0.2.2.2))); have KC7 := blk3_row KC6 hg7 (by simp; exact fun e => hne e.symm); have C7 := blk_row C6 hg7 (by simp; omega); have E7 := blk3_row (E.drew.keep hb6) hg7 (by simp; omega); have s7 := And.intro KC7.cells.2.2.1 (And.intro (And.intro E7.cells.1 (And.intro E7.cells.2.1 E7.cells.2.2.1)) (And.intro C7.cells.1 C7.cells.2.1))))
          have B7 := below_grows B6 hg7 (fun q hq => by simp at hq; omega)
          have HK2 := Lib.hid (K2.out (.lit (.int .i64 (IntKind.i64.wrap (1 + m + (j : Int) + 1)))))
          clear M KC C B E M6 KC6 C6 B6 hg7 hup s6 s0 s7 E7 hkeys K2
          go_wp2_with fail
          exact ⟨⟨j + 1, _, by omega, by go_num, P2, HK2, D2.out _, M7, KC7, C7, B7⟩, by simp [intOf]; omega⟩
        · clear e1 e2 d1 d2 d3 e3
          go_wp2_with fail
          clear E0 E1 E2 E3
          obtain ⟨E0, E1, E2, E3⟩ := E.drew.cells
          obtain ⟨K0', K1', K2', K3'⟩ := KC.drew.cells
          obtain ⟨C0, C1, C2⟩ := C.drew.cells
          have s0 := And.intro K2' (And.intro (And.intro E0 (And.intro E1 E2)) (And.intro C0 C1))
          clear E0 E1 E2 E3 K0' K1' K2' K3' C0 C1 C2
          go_region_held3 (fun wx : World => wx.cell? ⟨gc, 2, none⟩ = some (.map (some bm)) ∧ (wx.cell? ⟨wr.heap.size, 0, none⟩ = some (.bool true) ∧ wx.cell? ⟨wr.heap.size, 1, none⟩ = some (.int .i64 x1) ∧ wx.cell? ⟨wr.heap.size, 2, none⟩ = some (.int .i64 x2)) ∧ (wx.cell? ⟨w.heap.size, 0, none⟩ = some (.int .i64 m) ∧ wx.cell? ⟨w.heap.size, 1, none⟩ = some (.slice (some ⟨b, off, none⟩) gs.length cap))) (first | (with_reducible assumption)) (first
            | (go_at_call 69; refine (nodes_any m _ j _ (by omega) (by omega) (by omega) (by omega)).mono ?_; rintro e w6 ⟨rfl, hb6⟩; have M6 : Seen w6 bm j D := Seen.below (w := W2.drew) M hb6; have KC6 := KC.drew.keep hb6; have C6 := C.drew.keep hb6; have B6 := below_two B.drew hb6; obtain ⟨w7, hup, M7, hg7⟩ := M6.update gate_keyed Try.underlying92 (by unfold maxLen; omega) HK.out (plainElem_int (a := IntKind.i64.wrap (1 + m + (j : Int) + 1)) Try.underlying3 (Go.WideShapes.wf_wrap .i64 _)); replace hup : (Instr.mapUpdate 92 (.map (some bm)) (.agg #[.bool true, .int .i64 x1, .int .i64 x2]) (.int .i64 (IntKind.i64.wrap (1 + m + (j : Int) + 1)))).run Try.prog w6 = .ok () w7 := hup; have s6 := And.intro ((hb6.cell (p := ⟨gc, 2, none⟩) gcl).trans s0.1) (And.intro (And.intro ((hb6.cell (p := ⟨wr.heap.size, 0, none⟩) ecl).trans s0.2.1.1) (And.intro ((hb6.cell (p := ⟨wr.heap.size, 1, none⟩) ecl).trans s0.2.1.2.1) ((hb6.cell (p := ⟨wr.heap.size, 2, none⟩) ecl).trans s0.2.1.2.2))) (And.intro ((hb6.cell (p := ⟨w.heap.size, 0, none⟩) ccl).trans s0.2.2.1) ((hb6.cell (p := ⟨w.heap.size, 1, none⟩) ccl).trans s0.2.2.2))); have KC7 := blk3_row KC6 hg7 (by simp; exact fun e => hne e.symm); have C7 := blk_row C6 hg7 (by simp; omega); have E7 := blk3_row (E.drew.keep hb6) hg7 (by simp; omega); have s7 := And.intro KC7.cells.2.2.1 (And.intro (And.intro E7.cells.1 (And.intro E7.cells.2.1 E7.cells.2.2.1)) (And.intro C7.cells.1 C7.cells.2.1))))
          have B7 := below_grows B6 hg7 (fun q hq => by simp at hq; omega)
          have HK2 := Lib.hid (K2.out (.lit (.int .i64 (IntKind.i64.wrap (1 + m + (j : Int) + 1)))))
          clear M KC C B E M6 KC6 C6 B6 hg7 hup s6 s0 s7 E7 hkeys K2
          go_wp2_with fail
          exact ⟨⟨j + 1, _, by omega, by go_num, P2, HK2, D2.out _, M7, KC7, C7, B7⟩, by simp [intOf]; omega⟩
      · obtain rfl : j = gs.length := by omega
        obtain rfl : z = true := by rw [HZ.out, netV_true]; exact ⟨⟨by omega, by omega, by omega⟩, hpre.out⟩
        clear HZ hpre hkeys hD M KC C HW
        go_wp2_with fail
        exact bodyPost_ret (v := .tuple #[.pointer (some ⟨gc, 0, none⟩), .bool true]) (by simp [results, Try.results51, go_sem]) rfl ⟨_, rfl, B⟩

theorem netOk_impl (m : Int) (v : Value) (gs : List Gt) (w : World) (h : Gates w v gs) (hv : NilOrB v) (hwf : ∀ i, i < gs.length → gtWf (gs.getD i gz)) :
    Calls Try.prog 23 #[.agg #[.int .i64 m, v]] w fun e w' => e = .returned (.bool (netV m gs)) ∧ Below w.heap.size w w' := by
  have hb := below_self_alloc w (.cells #[.int .i64 m, v] 39)
  obtain ⟨a, cap, rfl⟩ := h.form
  have T := Lib.hid (readNet_any m _ gs _ (h.below hb) hv hwf)
  clear h
  generalize netV m gs = z at *
  go_enter Try.func23, Try.ntmps23
  go_wp2_with fail
  refine T.out.mono ?_; rintro e w2 ⟨p, rfl, hb2⟩
  go_wp2_with fail
  go_ret
  exact ⟨rfl, below_two hb hb2⟩
end Go.Proofs.Yteeaafdgkepaeaa
