/- NetVals of the reference and of the program. The conditions stand in each statement. -/
import Derived.Test.YteeaafdgkepaeaaNd
import Derived.Test.YteeaafdgkepaeaaSb
namespace Go.Proofs.Yteeaafdgkepaeaa
open Go.RowKit

def gateB (l : List Bool) (g : Gt) : Bool := if g.1 then (nlit l g.2.1 != nlit l g.2.2) else (nlit l g.2.1 && nlit l g.2.2)
def valsTo (gs : List Gt) (ins : List Bool) : Nat → List Bool
  | 0 => true :: ins
  | k + 1 => valsTo gs ins k ++ [gateB (valsTo gs ins k) (gs.getD k gz)]
theorem valsTo_len (gs : List Gt) (ins : List Bool) : ∀ k, (valsTo gs ins k).length = 1 + ins.length + k
  | 0 => by simp [valsTo]; omega
  | k + 1 => by simp [valsTo, valsTo_len gs ins k]; omega
open Classical in
noncomputable def netVals (m : Int) (gs : List Gt) (ins : List Bool) : List Bool := if netV m gs = true ∧ (ins.length : Int) = m then valsTo gs ins gs.length else []
theorem netVals_bad {m : Int} {gs : List Gt} {ins : List Bool} (h : netV m gs = false ∨ ¬ (ins.length : Int) = m) : netVals m gs ins = [] := by
  unfold netVals
  rw [if_neg]
  rintro ⟨h1, h2⟩
  rcases h with h | h
  · rw [h] at h1; cases h1
  · exact h h2
theorem Bools.form {w : World} {v : Value} {l : List Bool} (h : Bools w v l) : ∃ a cap, v = .slice a l.length cap := by
  obtain ⟨a, cap, rfl, _⟩ := h; exact ⟨a, cap, rfl⟩
theorem own_row_ge'' {w : World} {base size n : Nat} {e : TypeId} {v : Value} {xs : List Value} (h : w.ownsRow base e size v n xs) : ∀ k, v.ownBlock = some k → base ≤ k := fun k hk => (h.lt k hk).1
def NewBools (l : List Bool) (w : World) (e : Ending) (w' : World) : Prop := ∃ v, e = .returned v ∧ w'.ownsRow w.heap.size 4 1 v l.length (l.map .bool) ∧ Below w.heap.size w w'
theorem own_append_bool {w : World} {base : Nat} {e : TypeId} {v : Value} {n : Nat} {l : List Bool} {x : Bool} (h : w.ownsRow base e 1 v n (l.map .bool ++ [.bool x])) (hn : n = l.length + 1) : w.ownsRow base e 1 v (l ++ [x]).length ((l ++ [x]).map .bool) := by
  subst hn
  simpa using h
theorem bools_one (l : List Bool) : ∀ u ∈ l.map Value.bool, u.oneCell' = true := by
  intro u hu
  obtain ⟨x, _, rfl⟩ := List.mem_map.1 hu
  rfl
theorem Bools.news {w : World} {b o n cap : Nat} {l : List Bool} (h : Bools w (.slice (some ⟨b, o, none⟩) n cap) l) : ∀ j u, (l.map Value.bool)[j]? = some u → w.cell? ((⟨b, o, none⟩ : Addr).add j) = some u := by
  obtain ⟨a, c, e, _, _, h3⟩ := h
  cases e
  intro j u hj
  have hlt : j < l.length := by simpa using (List.getElem?_eq_some_iff.1 hj).1
  rcases h3 with h3 | ⟨b', off, e, _, hc⟩
  · omega
  · cases e
    have ea : (Addr.mk b o none).add j = ⟨b, o + j, none⟩ := by simp only [Addr.add]; split <;> simp_all
    rw [ea, hc j hlt]
    simp [List.getD_eq_getElem?_getD, List.getElem?_eq_getElem hlt] at hj ⊢
    exact hj

set_option maxRecDepth 100000 in
set_option maxHeartbeats 8000000 in
theorem l6Vals_any (m : Int) (v : Value) (gs : List Gt) (u : Value) (l : List Bool) (w : World) (h : Gates w v gs) (hu : Bools w u l) (hub : NilOrB u) (hn : NetIn m gs) (hl : (l.length : Int) = m) :
    Calls Try.prog 54 #[.agg #[.int .i64 m, v], u] w (NewBools (valsTo gs l gs.length) w) := by
  obtain ⟨i0, hi, hz0, hz1, hz2⟩ := info_parts infoBool
  obtain ⟨⟨m0, m8, h6⟩, hg⟩ := hn
  have HV := Lib.hid hg
  clear hg
  obtain ⟨a, cap, rfl⟩ := h.form
  have hl8 : l.length ≤ 8 := by omega
  have HM := Lib.hid hl
  clear hl
  have A0 := below_self_alloc w (.cells #[.int .i64 m, .slice a gs.length cap] 39)
  have C := blk_new w (.int .i64 m) (.slice a gs.length cap) 39
  replace h := h.below A0
  replace hu := hu.below A0
  obtain ⟨W, hW⟩ : ∃ W, W = w.alloc (.cells #[.int .i64 m, .slice a gs.length cap] 39) := ⟨_, rfl⟩
  rw [← hW] at A0 C h hu
  have H := Lib.hid h
  have CW := C
  have own0 : (W.alloc (.cells #[.bool true] 4)).ownsRow W.heap.size 4 1 (.slice (some ⟨W.heap.size, 0, none⟩) 1 1) 1 [.bool true] := World.ownsRow_lit (e := 4) (size := 1) W #[.bool true] 1 (Nat.le_refl _) (by unfold maxLen; omega) rfl
  have A1 := below_self_alloc W (.cells #[.bool true] 4)
  obtain ⟨ua, uc, rfl⟩ := Bools.form hu
  have hu1 := hu.below A1
  clear h hu
  go_enter Try.func54, Try.ntmps54
  go_upto_region 1 with fail
  rw [← hW]
  have HW := Lib.hid hW
  clear hW
  go_cut [5] (fun s5 wx => ∃ (tb tc : Nat), s5 = .slice (some ⟨tb, 0, none⟩) (1 + l.length) tc ∧ wx.ownsRow W.heap.size 4 1 (.slice (some ⟨tb, 0, none⟩) (1 + l.length) tc) (1 + l.length) ((valsTo gs l 0).map .bool) ∧ Below W.heap.size W wx)
  case first =>
    rcases hub with hub | ⟨b, len', cap', hub⟩
    · simp only [Value.slice.injEq] at hub
      obtain ⟨rfl, hub, rfl⟩ := hub
      obtain rfl : l = [] := List.length_eq_zero_iff.1 hub
      rw [show ([] : List Bool).length = 0 from rfl]
      go_wp2_with fail
      go_meet
      exact ⟨_, _, rfl, own0, A1⟩
    · simp only [Value.slice.injEq] at hub
      obtain ⟨rfl, rfl, rfl⟩ := hub
      have news := Lib.hid (Bools.news hu1)
      have hone := Lib.hid (bools_one l)
      have hlen := Lib.hid (show (l.map Value.bool).length = l.length * 1 by simp)
      go_wp2_with (at_builtin; refine wpList_append_own _ rfl _ _ _ rfl W.heap.size 4 i0 (.bool false) 1 1 Try.underlying22 hi hz0 hz1 hz2 rfl (by omega) _ 1 [.bool true] rfl own0 ⟨b, 0, none⟩ l.length uc (l.map .bool) rfl hlen.out news.out hone.out (by unfold maxLen; omega) (by omega) (by simp) ?_; intro v5 w5 own5 hg5 hn5; obtain ⟨b5, c5, rfl, _, _⟩ := own5.form (by omega))
      have B5 := below_grows A1 hg5 (fun q hq => (own0.lt q hq).1)
      go_wp2_with fail
      go_meet
      exact ⟨_, _, rfl, own5, B5⟩
  case rest =>
    clear own0 A1 hu1 hub
    obtain ⟨tb, tc, rfl, own, B⟩ := hcut
    have CC := C.keep B
    obtain ⟨C0, C1, C2⟩ := CC.cells
    have O0 := own
    have B0 := B
    go_wp2_with fail
    clear C0 C1 C2 own B CC
    go_loopw [6, 5] (fun i q wr => ∃ (j tb tc : Nat), j ≤ gs.length ∧ i = .int .i64 j ∧ q = .slice (some ⟨tb, 0, none⟩) (1 + l.length + j) tc ∧ wr.ownsRow W.heap.size 4 1 (.slice (some ⟨tb, 0, none⟩) (1 + l.length + j) tc) (1 + l.length + j) ((valsTo gs l j).map .bool) ∧ Below W.heap.size W wr) (fun i _ _ => gs.length - (intOf i).toNat)
    case atStart => exact ⟨0, _, _, Nat.zero_le _, rfl, rfl, O0, B0⟩
    case round =>
      clear O0 B0
      obtain ⟨j, tb, tc, hj, rfl, rfl, own, B⟩ := hrel
      have CC := C.keep B
      obtain ⟨C0, C1, C2⟩ := CC.cells
      by_cases hlt : j < gs.length
      · have hsz := B.size
        obtain ⟨gb, off, rfl, g4, g5, g6, g7⟩ := RowS.three (Gates.row (H.out.below B)) hlt
        have hj0 : (0 : Int) ≤ (j : Int) := by omega
        have hj1 : (j : Int) < (gs.length : Int) := by omega
        obtain ⟨y, hy⟩ : ∃ y, y = gs.getD j gz := ⟨_, rfl⟩
        have hb4 := (HV.out j hlt).1
        have hstep : valsTo gs l (j + 1) = valsTo gs l j ++ [gateB (valsTo gs l j) y] := by rw [hy]; rfl
        rw [← hy] at g5 g6 g7 hb4
        clear hy
        obtain ⟨x0, x1, x2⟩ := y
        obtain ⟨k1, k2, k3, k4, _⟩ := hb4
        dsimp only at g5 g6 g7 k1 k2 k3 k4
        have vlen := valsTo_len gs l j
        obtain ⟨q, hq⟩ : ∃ q, q = valsTo gs l j := ⟨_, rfl⟩
        rw [← hq] at own vlen hstep
        have HQ := Lib.hid hq
        have V := Bools.of_own own
        have hqb : q.length ≤ 1000 := by omega
        clear hq
        have VL := Lib.hid vlen
        replace V : Bools wr (.slice (some ⟨tb, 0, none⟩) (1 + l.length + j) tc) q := V
        have CA := fun w' (hv : Bools w' (.slice (some ⟨tb, 0, none⟩) (1 + l.length + j) tc) q) => netLit_spec _ q x1 w' hv (by omega) (by omega)
        have CB := fun w' (hv : Bools w' (.slice (some ⟨tb, 0, none⟩) (1 + l.length + j) tc) q) => netLit_spec _ q x2 w' hv (by omega) (by omega)
        have HS2 : valsTo gs l (j + 1) = q ++ [if x0 then (nlit q x1 != nlit q x2) else (nlit q x1 && nlit q x2)] := hstep
        generalize nlit q x1 = ya at *
        generalize nlit q x2 = yb at *
        replace HS2 := Lib.hid HS2
        replace CA := Lib.hid CA
        replace CB := Lib.hid CB
        clear vlen hstep
        go_wp2_with fail
        refine (CA.out _ V).mono ?_; rintro e w2 ⟨rfl, n2, rfl⟩
        go_wp2_with fail
        have V2 : Bools (wr.drewN n2) (.slice (some ⟨tb, 0, none⟩) (1 + l.length + j) tc) q := V
        refine (CB.out (wr.drewN n2) V2).mono ?_; rintro e w3 ⟨rfl, n3, rfl⟩
        clear V2
        clear CA CB V
        have own3 : ((wr.drewN n2).drewN n3).ownsRow W.heap.size 4 1 (.slice (some ⟨tb, 0, none⟩) (1 + l.length + j) tc) (1 + l.length + j) (q.map .bool) := own
        have B3 := below_drewN (below_drewN B n2) n3
        obtain ⟨W3, hW3⟩ : ∃ W3, W3 = (wr.drewN n2).drewN n3 := ⟨_, rfl⟩
        have G3 : (W3.cell? ⟨gb, off + j * 3, none⟩ = some (.bool x0) ∧ W3.cell? ⟨w.heap.size, 0, none⟩ = some (.int .i64 m) ∧ W3.cell? ⟨w.heap.size, 1, none⟩ = some (.slice (some ⟨gb, off, none⟩) gs.length cap)) := by rw [hW3]; exact ⟨g5, C0, C1⟩
        rw [← hW3] at own3 B3 ⊢
        clear hW3 own B C0 C1 C2 CC g4 g5 g6 g7
        obtain ⟨g5, C0, C1⟩ := G3
        have hsz3 := B3.size
        have FIN : ∀ (z : Bool), z = (if x0 then (ya != yb) else (ya && yb)) → Hid (∀ (b2 cap2 : Nat) (w5 : World), w5.ownsRow W.heap.size 4 1 (.slice (some ⟨b2, 0, none⟩) (1 + l.length + j + 1) cap2) (1 + l.length + j + 1) (q.map .bool ++ [.bool z]) → w5.ownsRow W.heap.size 4 1 (.slice (some ⟨b2, 0, none⟩) (1 + l.length + (j + 1)) cap2) (1 + l.length + (j + 1)) ((valsTo gs l (j + 1)).map .bool)) := fun z hz b2 cap2 w5 h5 => by
          rw [HS2.out, List.map_append, ← hz]; exact h5
        cases x0 <;> cases ya <;> cases yb
        · have F := FIN false rfl
          clear FIN HS2
          have own4 := own3.alloc (.cells #[.bool false] 4)
          have B4 := below_step B3 (.cells #[.bool false] 4)
          have hsz4 := B4.size
          clear own3
          go_wp2_with (at_builtin; refine wpList_append_lies _ rfl _ _ _ rfl W.heap.size 4 i0 (.bool false) 1 1 Try.underlying22 hi hz0 hz1 hz2 rfl (by omega) _ (1 + l.length + j) (q.map .bool) rfl own4 ⟨W3.heap.size, 0, none⟩ 1 1 [.bool false] rfl rfl (World.news_of_block (heap_alloc_new W3 _)) (by simp [Value.oneCell']) (by omega) (by unfold maxLen; omega) (by omega) (by omega) _ rfl ?_; intro b2 cap2 w5 own5 hg5 hat5 hlt5)
          have B5 := below_grows B4 hg5 (own_row_ge'' own4)
          have own6 := F.out _ _ _ own5
          clear own4 own5 hg5 hat5 hlt5 B4 F
          go_wp2_with fail
          exact ⟨⟨j + 1, _, _, by omega, by go_num, rfl, own6, B5⟩, by simp [intOf]; omega⟩
        · have F := FIN false rfl
          clear FIN HS2
          have own4 := own3.alloc (.cells #[.bool false] 4)
          have B4 := below_step B3 (.cells #[.bool false] 4)
          have hsz4 := B4.size
          clear own3
          go_wp2_with (at_builtin; refine wpList_append_lies _ rfl _ _ _ rfl W.heap.size 4 i0 (.bool false) 1 1 Try.underlying22 hi hz0 hz1 hz2 rfl (by omega) _ (1 + l.length + j) (q.map .bool) rfl own4 ⟨W3.heap.size, 0, none⟩ 1 1 [.bool false] rfl rfl (World.news_of_block (heap_alloc_new W3 _)) (by simp [Value.oneCell']) (by omega) (by unfold maxLen; omega) (by omega) (by omega) _ rfl ?_; intro b2 cap2 w5 own5 hg5 hat5 hlt5)
          have B5 := below_grows B4 hg5 (own_row_ge'' own4)
          have own6 := F.out _ _ _ own5
          clear own4 own5 hg5 hat5 hlt5 B4 F
          go_wp2_with fail
          exact ⟨⟨j + 1, _, _, by omega, by go_num, rfl, own6, B5⟩, by simp [intOf]; omega⟩
        · have F := FIN false rfl
          clear FIN HS2
          have own4 := own3.alloc (.cells #[.bool false] 4)
          have B4 := below_step B3 (.cells #[.bool false] 4)
          have hsz4 := B4.size
          clear own3
          go_wp2_with (at_builtin; refine wpList_append_lies _ rfl _ _ _ rfl W.heap.size 4 i0 (.bool false) 1 1 Try.underlying22 hi hz0 hz1 hz2 rfl (by omega) _ (1 + l.length + j) (q.map .bool) rfl own4 ⟨W3.heap.size, 0, none⟩ 1 1 [.bool false] rfl rfl (World.news_of_block (heap_alloc_new W3 _)) (by simp [Value.oneCell']) (by omega) (by unfold maxLen; omega) (by omega) (by omega) _ rfl ?_; intro b2 cap2 w5 own5 hg5 hat5 hlt5)
          have B5 := below_grows B4 hg5 (own_row_ge'' own4)
          have own6 := F.out _ _ _ own5
          clear own4 own5 hg5 hat5 hlt5 B4 F
          go_wp2_with fail
          exact ⟨⟨j + 1, _, _, by omega, by go_num, rfl, own6, B5⟩, by simp [intOf]; omega⟩
        · have F := FIN true rfl
          clear FIN HS2
          have own4 := own3.alloc (.cells #[.bool true] 4)
          have B4 := below_step B3 (.cells #[.bool true] 4)
          have hsz4 := B4.size
          clear own3
          go_wp2_with (at_builtin; refine wpList_append_lies _ rfl _ _ _ rfl W.heap.size 4 i0 (.bool false) 1 1 Try.underlying22 hi hz0 hz1 hz2 rfl (by omega) _ (1 + l.length + j) (q.map .bool) rfl own4 ⟨W3.heap.size, 0, none⟩ 1 1 [.bool true] rfl rfl (World.news_of_block (heap_alloc_new W3 _)) (by simp [Value.oneCell']) (by omega) (by unfold maxLen; omega) (by omega) (by omega) _ rfl ?_; intro b2 cap2 w5 own5 hg5 hat5 hlt5)
          have B5 := below_grows B4 hg5 (own_row_ge'' own4)
          have own6 := F.out _ _ _ own5
          clear own4 own5 hg5 hat5 hlt5 B4 F
          go_wp2_with fail
          exact ⟨⟨j + 1, _, _, by omega, by go_num, rfl, own6, B5⟩, by simp [intOf]; omega⟩
        · have F := FIN false rfl
          clear FIN HS2
          have own4 := own3.alloc (.cells #[.bool false] 4)
          have B4 := below_step B3 (.cells #[.bool false] 4)
          have hsz4 := B4.size
          clear own3
          go_wp2_with (at_builtin; refine wpList_append_lies _ rfl _ _ _ rfl W.heap.size 4 i0 (.bool false) 1 1 Try.underlying22 hi hz0 hz1 hz2 rfl (by omega) _ (1 + l.length + j) (q.map .bool) rfl own4 ⟨W3.heap.size, 0, none⟩ 1 1 [.bool false] rfl rfl (World.news_of_block (heap_alloc_new W3 _)) (by simp [Value.oneCell']) (by omega) (by unfold maxLen; omega) (by omega) (by omega) _ rfl ?_; intro b2 cap2 w5 own5 hg5 hat5 hlt5)
          have B5 := below_grows B4 hg5 (own_row_ge'' own4)
          have own6 := F.out _ _ _ own5
          clear own4 own5 hg5 hat5 hlt5 B4 F
          go_wp2_with fail
          exact ⟨⟨j + 1, _, _, by omega, by go_num, rfl, own6, B5⟩, by simp [intOf]; omega⟩
        · have F := FIN true rfl
          clear FIN HS2
          have own4 := own3.alloc (.cells #[.bool true] 4)
          have B4 := below_step B3 (.cells #[.bool true] 4)
          have hsz4 := B4.size
          clear own3
          go_wp2_with (at_builtin; refine wpList_append_lies _ rfl _ _ _ rfl W.heap.size 4 i0 (.bool false) 1 1 Try.underlying22 hi hz0 hz1 hz2 rfl (by omega) _ (1 + l.length + j) (q.map .bool) rfl own4 ⟨W3.heap.size, 0, none⟩ 1 1 [.bool true] rfl rfl (World.news_of_block (heap_alloc_new W3 _)) (by simp [Value.oneCell']) (by omega) (by unfold maxLen; omega) (by omega) (by omega) _ rfl ?_; intro b2 cap2 w5 own5 hg5 hat5 hlt5)
          have B5 := below_grows B4 hg5 (own_row_ge'' own4)
          have own6 := F.out _ _ _ own5
          clear own4 own5 hg5 hat5 hlt5 B4 F
          go_wp2_with fail
          exact ⟨⟨j + 1, _, _, by omega, by go_num, rfl, own6, B5⟩, by simp [intOf]; omega⟩
        · have F := FIN true rfl
          clear FIN HS2
          have own4 := own3.alloc (.cells #[.bool true] 4)
          have B4 := below_step B3 (.cells #[.bool true] 4)
          have hsz4 := B4.size
          clear own3
          go_wp2_with (at_builtin; refine wpList_append_lies _ rfl _ _ _ rfl W.heap.size 4 i0 (.bool false) 1 1 Try.underlying22 hi hz0 hz1 hz2 rfl (by omega) _ (1 + l.length + j) (q.map .bool) rfl own4 ⟨W3.heap.size, 0, none⟩ 1 1 [.bool true] rfl rfl (World.news_of_block (heap_alloc_new W3 _)) (by simp [Value.oneCell']) (by omega) (by unfold maxLen; omega) (by omega) (by omega) _ rfl ?_; intro b2 cap2 w5 own5 hg5 hat5 hlt5)
          have B5 := below_grows B4 hg5 (own_row_ge'' own4)
          have own6 := F.out _ _ _ own5
          clear own4 own5 hg5 hat5 hlt5 B4 F
          go_wp2_with fail
          exact ⟨⟨j + 1, _, _, by omega, by go_num, rfl, own6, B5⟩, by simp [intOf]; omega⟩
        · have F := FIN false rfl
          clear FIN HS2
          have own4 := own3.alloc (.cells #[.bool false] 4)
          have B4 := below_step B3 (.cells #[.bool false] 4)
          have hsz4 := B4.size
          clear own3
          go_wp2_with (at_builtin; refine wpList_append_lies _ rfl _ _ _ rfl W.heap.size 4 i0 (.bool false) 1 1 Try.underlying22 hi hz0 hz1 hz2 rfl (by omega) _ (1 + l.length + j) (q.map .bool) rfl own4 ⟨W3.heap.size, 0, none⟩ 1 1 [.bool false] rfl rfl (World.news_of_block (heap_alloc_new W3 _)) (by simp [Value.oneCell']) (by omega) (by unfold maxLen; omega) (by omega) (by omega) _ rfl ?_; intro b2 cap2 w5 own5 hg5 hat5 hlt5)
          have B5 := below_grows B4 hg5 (own_row_ge'' own4)
          have own6 := F.out _ _ _ own5
          clear own4 own5 hg5 hat5 hlt5 B4 F
          go_wp2_with fail
          exact ⟨⟨j + 1, _, _, by omega, by go_num, rfl, own6, B5⟩, by simp [intOf]; omega⟩
      · obtain rfl : j = gs.length := by omega
        clear CC
        have vlen := Lib.hid (valsTo_len gs l gs.length)
        have A2 := below_two A0 B
        have own2 := Go.Joins.ownsRow_le own A0.size
        clear own
        go_wp2_with fail
        go_ret
        exact ⟨_, rfl, by rw [vlen.out]; exact own2, A2⟩

theorem own_nil_bool (w : World) (base : Nat) : w.ownsRow base 4 1 (.slice none 0 0) ([] : List Bool).length (([] : List Bool).map .bool) := World.ownsRow_nil _ _ _ _
set_option maxHeartbeats 2000000 in
theorem netVals_spec (m : Int) (v : Value) (gs : List Gt) (u : Value) (l : List Bool) (w : World) (h : Gates w v gs) (hu : Bools w u l) (hub : NilOrB u) :
    Calls Try.prog 25 #[.agg #[.int .i64 m, v], u] w (NewBools (netVals m gs l) w) := by
  obtain ⟨a, cap, rfl⟩ := h.form
  have A0 := below_self_alloc w (.cells #[.int .i64 m, .slice a gs.length cap] 39)
  have C := blk_new w (.int .i64 m) (.slice a gs.length cap) 39
  replace h := h.below A0
  replace hu := hu.below A0
  have hlu := hu.len
  obtain ⟨z, hz⟩ : ∃ z, z = netV m gs := ⟨_, rfl⟩
  have T := netOk_spec m _ gs _ h
  rw [← hz] at T
  replace T := Lib.hid T
  obtain ⟨ua, uc, rfl⟩ := Bools.form hu
  cases z
  · rw [netVals_bad (.inl hz.symm)]
    clear hz hub
    go_enter Try.func25, Try.ntmps25
    go_wp2_with fail
    refine T.out.mono ?_; rintro e w2 ⟨rfl, hb2⟩
    replace A0 := below_two A0 hb2
    clear T h hu hb2
    have own : (w2.alloc (.cells #[] 4)).ownsRow w.heap.size 4 1 (.slice (some ⟨w2.heap.size, 0, none⟩) 0 0) 0 [] := Go.Joins.ownsRow_le (World.ownsRow_lit (e := 4) (size := 1) w2 #[] 0 (Nat.le_refl _) (Nat.zero_le _) rfl) A0.size
    go_wp2_with fail
    go_ret
    exact ⟨_, rfl, own, below_step A0 _⟩
  · have hn := netV_true.1 hz.symm
    by_cases hm : (l.length : Int) = m
    · have e : netVals m gs l = valsTo gs l gs.length := by unfold netVals; rw [if_pos ⟨hz.symm, hm⟩]
      rw [e]
      clear e hz
      have hne : ((l.length : Int) != m) = false := by simpa using hm
      have HM := Lib.hid hm
      clear hm
      go_enter Try.func25, Try.ntmps25
      go_wp2_with fail
      refine T.out.mono ?_; rintro e w2 ⟨rfl, hb2⟩
      replace C := C.keep hb2
      replace h := h.below hb2
      replace hu := hu.below hb2
      replace A0 := below_two A0 hb2
      obtain ⟨C0, C1, C2⟩ := C.cells
      have T2 := Lib.hid (l6Vals_any m _ gs _ l _ h hu hub hn HM.out)
      generalize valsTo gs l gs.length = r at *
      clear T h hu hb2 C hn
      go_wp2_with fail
      refine T2.out.mono ?_; rintro e w3 ⟨x, rfl, own, hb3⟩
      have own2 := Go.Joins.ownsRow_le own A0.size
      replace A0 := below_two A0 hb3
      clear T2 own hb3 C0 C1 C2
      obtain ⟨xa, xc, rfl⟩ := Bools.form (Bools.of_own own2)
      go_wp2_with fail
      go_ret
      exact ⟨_, rfl, own2, A0⟩
    · rw [netVals_bad (.inr hm)]
      have hne : ((l.length : Int) != m) = true := by simpa using hm
      clear hz hub hn hm
      go_enter Try.func25, Try.ntmps25
      go_wp2_with fail
      refine T.out.mono ?_; rintro e w2 ⟨rfl, hb2⟩
      replace A0 := below_two A0 hb2
      replace C := C.keep hb2
      obtain ⟨C0, C1, C2⟩ := C.cells
      clear T h hu hb2 C
      have own : (w2.alloc (.cells #[] 4)).ownsRow w.heap.size 4 1 (.slice (some ⟨w2.heap.size, 0, none⟩) 0 0) 0 [] := Go.Joins.ownsRow_le (World.ownsRow_lit (e := 4) (size := 1) w2 #[] 0 (Nat.le_refl _) (Nat.zero_le _) rfl) A0.size
      go_wp2_with fail
      go_ret
      exact ⟨_, rfl, own, below_step A0 _⟩
end Go.Proofs.Yteeaafdgkepaeaa
