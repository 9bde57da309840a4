/- EnvAll of the reference; what EnvAll of the program calls. The conditions stand in each statement. -/
import Derived.Test.YtklbdfjmhbiheaaDoorIc
namespace Go.Proofs.YtklbdfjmhbiheaaDoor
open Go.RowKit

/-- a row of n cells that is filled from j on -/
def fillFrom (z : Value) (f : Nat → Value) (n j : Nat) : List Value := (List.range n).map fun i => if j ≤ i then f i else z
theorem fillFrom_len (z : Value) (f : Nat → Value) (n j : Nat) : (fillFrom z f n j).length = n := by simp [fillFrom]
theorem fillFrom_none (z : Value) (f : Nat → Value) (n : Nat) : fillFrom z f n n = List.replicate n z := by
  apply List.ext_getElem (by simp [fillFrom])
  intro i h1 h2
  have : ¬ n ≤ i := by simp at h2; omega
  simp [fillFrom, this]
theorem fillFrom_all (z : Value) (f : Nat → Value) (n : Nat) : fillFrom z f n 0 = (List.range n).map f := by
  unfold fillFrom
  exact List.map_congr_left fun i _ => by rw [if_pos (Nat.zero_le _)]
theorem fillFrom_set (z : Value) (f : Nat → Value) (n j : Nat) : (fillFrom z f n (j + 1)).set j (f j) = fillFrom z f n j := by
  apply List.ext_getElem (by simp [fillFrom])
  intro i h1 h2
  rw [List.getElem_set]
  simp only [fillFrom, List.getElem_map, List.getElem_range]
  by_cases h : j = i
  · subst h; simp
  · rw [if_neg h]
    by_cases h3 : j + 1 ≤ i
    · rw [if_pos h3, if_pos (by omega)]
    · rw [if_neg h3, if_neg (by omega)]
theorem own_madeFrom {w : World} {base n : Nat} {e : TypeId} {v z : Value} (f : Nat → Value) (h : w.ownsRow base e 1 v n (madeCells z.cells (n * 1)).toList) (hz : z.cells = #[z]) : w.ownsRow base e 1 v n (fillFrom z f n n) := by
  rw [fillFrom_none, ← made_one, ← hz]; exact h
theorem fillFrom_step {w : World} {base g n k : Nat} {e : TypeId} {z : Value} {f : Nat → Value} (h : w.ownsRow base e 1 (.slice (some ⟨g, 0, none⟩) n n) n (fillFrom z f n (k + 1))) (hk : k < n) :
    w.cell? ⟨g, k, none⟩ = some z ∧ w.frozen? ⟨g, k, none⟩ = false ∧ (w.setCell ⟨g, k, none⟩ (f k)).ownsRow base e 1 (.slice (some ⟨g, 0, none⟩) n n) n (fillFrom z f n k) ∧ w.grownBy (w.setCell ⟨g, k, none⟩ (f k)) (some g) := by
  obtain ⟨s1, s2⟩ := h.stored k (f k)
  refine ⟨?_, h.frozenAt k, by rw [← fillFrom_set]; exact s1, s2⟩
  rw [h.cellAt k (by omega), List.getElem?_eq_getElem (by rw [fillFrom_len]; exact hk)]
  have : ¬ k + 1 ≤ k := by omega
  simp [fillFrom, this]
theorem cloneInts_any (v : Value) (l : List Int) (n : Nat) (w : World) (g : Nat) (hv : v = .slice (some ⟨g, 0, none⟩) n n) (h : Ints w v l) (hl : l.length ≤ 1000) :
    Calls Tryd.prog 46 #[v] w (NewRow 3 1 l.length (l.map (.int .i64)) w) := by
  have q22 : ∀ (w : World) (a : Option Addr) (n c n' c' : Nat), (Go.binOp .eql 30 (.slice a n c) (.slice none n' c')).run Tryd.prog w = .ok (.bool a.isNone) w := fun w a n c n' c' => Lib.run_eql_slice_nil w _ _ a n c n' c' Tryd.underlying30
  obtain ⟨i0, hi, hz0, hz1, hz2⟩ := info_parts infoIntE
  obtain ⟨a, cap, e1, hr⟩ := h
  rw [hv] at e1
  simp only [Value.slice.injEq] at e1
  obtain ⟨rfl, rfl, rfl⟩ := e1
  subst hv
  have own0 : (w.alloc (.cells #[] 3)).ownsRow w.heap.size 3 1 (.slice (some ⟨w.heap.size, 0, none⟩) 0 0) 0 [] := World.ownsRow_lit (e := 3) (size := 1) w #[] 0 (Nat.le_refl _) (Nat.zero_le _) rfl
  have B0 := below_self_alloc w (.cells #[] 3)
  have news : Hid (∀ j u, (l.map (Value.int .i64))[j]? = some u → (w.alloc (.cells #[] 3)).cell? ((⟨g, 0, none⟩ : Addr).add j) = some u) := by
    obtain ⟨_, _, h3⟩ := hr.below B0
    intro j u hj
    have hlt : j < l.length := by simpa using (List.getElem?_eq_some_iff.1 hj).1
    rcases h3 with h3 | ⟨b', off, e, _, hc⟩
    · omega
    · cases e
      have ea : (Addr.mk g 0 none).add j = ⟨g, 0 + j, none⟩ := by simp only [Addr.add]; split <;> simp_all
      rw [ea, hc j hlt]
      simp [List.getD_eq_getElem?_getD, List.getElem?_eq_getElem hlt] at hj ⊢
      exact hj
  have hone : Hid (∀ u ∈ l.map (Value.int .i64), u.oneCell' = true) := fun u hu => by obtain ⟨x, _, rfl⟩ := List.mem_map.1 hu; rfl
  clear hr
  go_enter Tryd.func46, Tryd.ntmps46
  go_wp2_with (at_builtin; refine wpList_append_own _ rfl _ _ _ rfl w.heap.size 3 i0 (.int .i64 0) 1 8 Tryd.underlying30 hi hz0 hz1 hz2 rfl (by omega) _ 0 [] rfl own0 ⟨g, 0, none⟩ l.length l.length (l.map (.int .i64)) rfl (by simp) news.out hone.out (by unfold maxLen; omega) (by omega) (by simp) ?_; intro v5 w5 own5 hg5 hn5)
  have B5 := below_grows B0 hg5 (fun q hq => (own0.lt q hq).1)
  have own6 : w5.ownsRow w.heap.size 3 1 v5 l.length (l.map (.int .i64)) := by simpa using own5
  go_wp2_with fail
  go_ret
  exact ⟨v5, rfl, own6, B5⟩

theorem environments_any (a : Option Addr) (n c : Nat) (w : World) : Calls Tryd.prog 45 #[.slice a n c] w fun e w' => e = .returned (.func (.func 60) #[] #[.pointer (some ⟨w.heap.size, 0, none⟩)]) ∧ w' = w.alloc (.cells #[.slice a n c] 25) := by
  go_enter Tryd.func45, Tryd.ntmps45
  go_wp2_with fail
  go_ret
  exact ⟨rfl, rfl⟩

set_option maxRecDepth 100000 in
set_option maxHeartbeats 4000000 in
theorem l3Env_any (v : Value) (ds : List Dc) (k : Nat) (w : World) (h : Decls w v ds) (hok : DeclsOk ds) (hk : k < 2 ^ suf ds 0) :
    Calls Tryd.prog 47 #[v, .int .i64 k] w (NewRow 3 1 ds.length ((digs ds k).map (.int .i64)) w) := by
  obtain ⟨i0, hi, hz0, hz1, hz2⟩ := info_parts infoIntE
  obtain ⟨da, dc, rfl, hrow, hnm⟩ := h
  have h4 := hok.1
  have hk2 : k ≤ 256 := Nat.le_trans (Nat.le_of_lt hk) (many_le hok)
  go_enter Tryd.func47, Tryd.ntmps47
  go_wp2_with (refine wpList_make_full _ rfl _ _ 30 rfl w.heap.size 3 i0 (.int .i64 0) 1 Tryd.underlying30 hi hz0 hz1 .i64 .i64 ds.length ds.length ds.length (by rfl) (by rfl) rfl rfl (by rw [hz2]; omega) (by unfold maxLen; omega) (Nat.le_refl _) ?_; intro w1 hown hg)
  have hown0 := own_madeFrom (fun i => .int .i64 (dig ds k i : Int)) hown rfl
  have B1 := below_grows (Below.refl w.heap.size w) hg (by simp)
  clear hown hg
  go_loopw [6, 1] (fun i q wr => ∃ j : Nat, j ≤ ds.length ∧ i = .int .i64 ((j : Int) - 1) ∧ q = .int .i64 ((k / 2 ^ suf ds j : Nat) : Int) ∧ wr.ownsRow w.heap.size 3 1 (.slice (some ⟨w.heap.size, 0, none⟩) ds.length ds.length) ds.length (fillFrom (.int .i64 0) (fun i => .int .i64 (dig ds k i : Int)) ds.length j) ∧ Below w.heap.size w wr) (fun i _ _ => (intOf i + 1).toNat)
  case atStart => exact ⟨ds.length, Nat.le_refl _, rfl, by rw [back_end], hown0, B1⟩
  case round =>
    obtain ⟨j, hj, rfl, rfl, hown, B⟩ := hrel
    clear hown0 B1
    rcases j with _ | j
    · rw [fillFrom_all] at hown
      have e : (digs ds k).map (Value.int .i64) = (List.range ds.length).map (fun i => .int .i64 (dig ds k i : Int)) := by simp [digs]
      rw [← e] at hown
      go_wp2
      go_ret
      exact ⟨_, rfl, hown, B⟩
    · have ej : (((j + 1 : Nat) : Int) - 1) = (j : Int) := by omega
      rw [ej]
      have hjl : j < ds.length := by omega
      have j0 : (0 : Int) ≤ (j : Int) := by omega
      have j1 : (j : Int) < (ds.length : Int) := by omega
      obtain ⟨q1, q2, q3, q4⟩ := fillFrom_step hown hjl
      obtain ⟨db, dof, rfl, hdb, _, _⟩ := hrow.duo hjl
      obtain ⟨db', dof', e9, _, r0, r1⟩ := (hrow.below B).duo hjl
      cases e9
      obtain ⟨_, x1, x4, _⟩ := hok.2.1 j hjl
      have hdig : dig ds k j = k / 2 ^ suf ds (j + 1) % 2 ^ wd ds j := rfl
      have hnx := q_step hok.2.1 hjl k
      have hyk : k / 2 ^ suf ds (j + 1) ≤ k := Nat.div_le_self _ _
      generalize k / 2 ^ suf ds (j + 1) = y at *
      have hwd : wd ds j = (ds.getD j dz).2.toNat := rfl
      rw [hwd] at hdig hnx
      have hx : (ds.getD j dz).2 = 1 ∨ (ds.getD j dz).2 = 2 ∨ (ds.getD j dz).2 = 3 ∨ (ds.getD j dz).2 = 4 := by omega
      have B2 := below_grows B q4 (by simp)
      replace q3 := Lib.hid q3
      replace hdig := Lib.hid hdig; replace hnx := Lib.hid hnx
      have CT := Lib.hid (fun (t : Int) w' (ht : t ≤ 60) => l1Two_any t w' ht)
      clear hown hwd x1 x4 hk q4
      rcases hx with hx | hx | hx | hx
      all_goals rw [hx] at r1 hdig hnx
      · have h9 : dig ds k j = y % 2 := hdig.out
        have h8 : y / 2 = k / 2 ^ suf ds j := hnx.out
        have hd2 : ((dig ds k j : Nat) : Int) = (y : Int) % 2 := by rw [h9]; omega
        have hn2 : ((k / 2 ^ suf ds j : Nat) : Int) = (y : Int) / 2 := by rw [← h8]; omega
        have hd3 := Lib.hid hd2; have hn3 := Lib.hid hn2
        rw [hd2] at B2
        replace B2 := Lib.hid B2
        have r1' : (wr.setCell ⟨w.heap.size, j, none⟩ (.int .i64 ((y : Int) % 2))).cell? ⟨db, dof + j * 2 + 1, none⟩ = some (.int .i64 1) := (World.cell?_of_block (Below.heap_setCell _ _ _ _ (show db ≠ w.heap.size by omega))).trans r1
        clear hd2 hn2 hdig hnx h8 h9
        go_wp2_with fail
        refine (CT.out 1 _ (by decide)).mono ?_; rintro e _ ⟨rfl, rfl⟩
        rw [show two (Int.toNat 1) = 2 from rfl]
        go_wp2_with fail
        refine (CT.out 1 _ (by decide)).mono ?_; rintro e _ ⟨rfl, rfl⟩
        rw [show two (Int.toNat 1) = 2 from rfl]
        go_wp2_with fail
        exact ⟨⟨j, by omega, by go_num, by rw [hn3.out], by have := q3.out; rw [hd3.out] at this; exact this, B2.out⟩, by simp [intOf]⟩
      · have h9 : dig ds k j = y % 4 := hdig.out
        have h8 : y / 4 = k / 2 ^ suf ds j := hnx.out
        have hd2 : ((dig ds k j : Nat) : Int) = (y : Int) % 4 := by rw [h9]; omega
        have hn2 : ((k / 2 ^ suf ds j : Nat) : Int) = (y : Int) / 4 := by rw [← h8]; omega
        have hd3 := Lib.hid hd2; have hn3 := Lib.hid hn2
        rw [hd2] at B2
        replace B2 := Lib.hid B2
        have r1' : (wr.setCell ⟨w.heap.size, j, none⟩ (.int .i64 ((y : Int) % 4))).cell? ⟨db, dof + j * 2 + 1, none⟩ = some (.int .i64 2) := (World.cell?_of_block (Below.heap_setCell _ _ _ _ (show db ≠ w.heap.size by omega))).trans r1
        clear hd2 hn2 hdig hnx h8 h9
        go_wp2_with fail
        refine (CT.out 2 _ (by decide)).mono ?_; rintro e _ ⟨rfl, rfl⟩
        rw [show two (Int.toNat 2) = 4 from rfl]
        go_wp2_with fail
        refine (CT.out 2 _ (by decide)).mono ?_; rintro e _ ⟨rfl, rfl⟩
        rw [show two (Int.toNat 2) = 4 from rfl]
        go_wp2_with fail
        exact ⟨⟨j, by omega, by go_num, by rw [hn3.out], by have := q3.out; rw [hd3.out] at this; exact this, B2.out⟩, by simp [intOf]⟩
      · have h9 : dig ds k j = y % 8 := hdig.out
        have h8 : y / 8 = k / 2 ^ suf ds j := hnx.out
        have hd2 : ((dig ds k j : Nat) : Int) = (y : Int) % 8 := by rw [h9]; omega
        have hn2 : ((k / 2 ^ suf ds j : Nat) : Int) = (y : Int) / 8 := by rw [← h8]; omega
        have hd3 := Lib.hid hd2; have hn3 := Lib.hid hn2
        rw [hd2] at B2
        replace B2 := Lib.hid B2
        have r1' : (wr.setCell ⟨w.heap.size, j, none⟩ (.int .i64 ((y : Int) % 8))).cell? ⟨db, dof + j * 2 + 1, none⟩ = some (.int .i64 3) := (World.cell?_of_block (Below.heap_setCell _ _ _ _ (show db ≠ w.heap.size by omega))).trans r1
        clear hd2 hn2 hdig hnx h8 h9
        go_wp2_with fail
        refine (CT.out 3 _ (by decide)).mono ?_; rintro e _ ⟨rfl, rfl⟩
        rw [show two (Int.toNat 3) = 8 from rfl]
        go_wp2_with fail
        refine (CT.out 3 _ (by decide)).mono ?_; rintro e _ ⟨rfl, rfl⟩
        rw [show two (Int.toNat 3) = 8 from rfl]
        go_wp2_with fail
        exact ⟨⟨j, by omega, by go_num, by rw [hn3.out], by have := q3.out; rw [hd3.out] at this; exact this, B2.out⟩, by simp [intOf]⟩
      · have h9 : dig ds k j = y % 16 := hdig.out
        have h8 : y / 16 = k / 2 ^ suf ds j := hnx.out
        have hd2 : ((dig ds k j : Nat) : Int) = (y : Int) % 16 := by rw [h9]; omega
        have hn2 : ((k / 2 ^ suf ds j : Nat) : Int) = (y : Int) / 16 := by rw [← h8]; omega
        have hd3 := Lib.hid hd2; have hn3 := Lib.hid hn2
        rw [hd2] at B2
        replace B2 := Lib.hid B2
        have r1' : (wr.setCell ⟨w.heap.size, j, none⟩ (.int .i64 ((y : Int) % 16))).cell? ⟨db, dof + j * 2 + 1, none⟩ = some (.int .i64 4) := (World.cell?_of_block (Below.heap_setCell _ _ _ _ (show db ≠ w.heap.size by omega))).trans r1
        clear hd2 hn2 hdig hnx h8 h9
        go_wp2_with fail
        refine (CT.out 4 _ (by decide)).mono ?_; rintro e _ ⟨rfl, rfl⟩
        rw [show two (Int.toNat 4) = 16 from rfl]
        go_wp2_with fail
        refine (CT.out 4 _ (by decide)).mono ?_; rintro e _ ⟨rfl, rfl⟩
        rw [show two (Int.toNat 4) = 16 from rfl]
        go_wp2_with fail
        exact ⟨⟨j, by omega, by go_num, by rw [hn3.out], by have := q3.out; rw [hd3.out] at this; exact this, B2.out⟩, by simp [intOf]⟩

open Classical in
noncomputable def envB (ds : List Dc) (k : Int) : Bool := decide (0 ≤ k ∧ k < manyV ds)
noncomputable def envL (ds : List Dc) (k : Int) : List Int := if envB ds k = true then digs ds k.toNat else []
theorem envB_true {ds : List Dc} {k : Int} (h0 : 0 ≤ k) (h1 : k < manyV ds) : envB ds k = true ∧ DeclsOk ds ∧ k.toNat < 2 ^ suf ds 0 ∧ envL ds k = digs ds k.toNat := by
  have h2 : envB ds k = true := by unfold envB; exact decide_eq_true ⟨h0, h1⟩
  have h3 : DeclsOk ds := by
    cases hd : declV ds
    · exfalso; unfold manyV at h1; rw [hd] at h1; simp at h1; omega
    · exact declV_true.1 hd
  refine ⟨h2, h3, ?_, by unfold envL; rw [if_pos h2]⟩
  rw [manyV_ok h3] at h1
  omega
theorem envB_false {ds : List Dc} {k : Int} (h : k < 0 ∨ manyV ds ≤ k) : envB ds k = false ∧ envL ds k = [] := by
  have h2 : envB ds k = false := by unfold envB; exact decide_eq_false (by omega)
  exact ⟨h2, by unfold envL; rw [h2]; rfl⟩
theorem envL_len (ds : List Dc) (k : Int) : (envL ds k).length ≤ 4 := by
  unfold envL
  split
  · next h =>
    have h1 : 0 ≤ k ∧ k < manyV ds := by unfold envB at h; exact of_decide_eq_true h
    rw [digs_len]; exact (envB_true h1.1 h1.2).2.1.1
  · exact Nat.zero_le _
def GaveE (ds : List Dc) (k : Int) (w : World) (e : Ending) (w' : World) : Prop :=
  ∃ v, e = .returned (.tuple #[v, .bool (envB ds k)]) ∧ w'.ownsRow w.heap.size 3 1 v (envL ds k).length ((envL ds k).map (.int .i64)) ∧ Below w.heap.size w w'
set_option maxRecDepth 100000 in
set_option maxHeartbeats 4000000 in
theorem envAll_spec (v : Value) (ds : List Dc) (k : Int) (w : World) (h : Decls w v ds) : Calls Tryd.prog 23 #[v, .int .i64 k] w (GaveE ds k w) := by
  have CM := Lib.hid (envMany_spec v ds w h)
  obtain ⟨a, c, rfl, _⟩ := h.form
  have HD := Lib.hid h
  by_cases c0 : k < 0
  · obtain ⟨e1, e2⟩ := envB_false (ds := ds) (k := k) (.inl c0)
    unfold GaveE
    rw [e1, e2]
    have own : (w.alloc (.cells #[] 3)).ownsRow w.heap.size 3 1 (.slice (some ⟨w.heap.size, 0, none⟩) 0 0) 0 [] := World.ownsRow_lit (e := 3) (size := 1) w #[] 0 (Nat.le_refl _) (Nat.zero_le _) rfl
    clear e1 e2 CM h
    go_enter Tryd.func23, Tryd.ntmps23
    go_wp2_with fail
    exact bodyPost_ret (v := .tuple #[.slice (some ⟨w.heap.size, 0, none⟩) 0 0, .bool false]) (by simp [results, Tryd.results23, go_sem]) rfl ⟨_, rfl, own, below_self_alloc w _⟩
  · have d0 : decide (k < 0) = false := by simpa using c0
    by_cases c1 : manyV ds ≤ k
    · obtain ⟨e1, e2⟩ := envB_false (ds := ds) (k := k) (.inr c1)
      unfold GaveE
      rw [e1, e2]
      generalize manyV ds = M at *
      clear e1 e2 h
      go_enter Tryd.func23, Tryd.ntmps23
      go_wp2_with fail
      refine CM.out.mono ?_; rintro e w1 ⟨rfl, n, rfl⟩
      have own : ((w.drewN n).alloc (.cells #[] 3)).ownsRow w.heap.size 3 1 (.slice (some ⟨w.heap.size, 0, none⟩) 0 0) 0 [] := World.ownsRow_lit (e := 3) (size := 1) (w.drewN n) #[] 0 (Nat.le_refl _) (Nat.zero_le _) rfl
      have BB := below_step (below_drewN (Below.refl w.heap.size w) n) (.cells #[] 3)
      go_wp2_with fail
      exact bodyPost_ret (v := .tuple #[.slice (some ⟨w.heap.size, 0, none⟩) 0 0, .bool false]) (by simp [results, Tryd.results23, go_sem]) rfl ⟨_, rfl, own, BB⟩
    · obtain ⟨e1, hok, hk, e2⟩ := envB_true (ds := ds) (k := k) (by omega) (by omega)
      obtain ⟨k, rfl⟩ := Int.eq_ofNat_of_zero_le (show 0 ≤ k by omega)
      unfold GaveE
      rw [e1, e2]
      rw [Int.toNat_natCast] at *
      have d1 : decide (manyV ds ≤ (k : Int)) = false := by simpa using c1
      have LE := Lib.hid (fun w' (hd : Decls w' (.slice a ds.length c) ds) => l3Env_any _ ds k w' hd hok hk)
      have hln := Lib.hid (digs_len ds k)
      generalize manyV ds = M at *
      generalize digs ds k = dg at *
      clear e1 e2 h hk hok
      go_enter Tryd.func23, Tryd.ntmps23
      go_wp2_with fail
      refine CM.out.mono ?_; rintro e w1 ⟨rfl, n, rfl⟩
      go_wp2_with fail
      refine (LE.out (w.drewN n) HD.out).mono ?_; rintro e w2 ⟨y, rfl, own, hb2⟩
      have BB := below_two (below_drewN (Below.refl w.heap.size w) n) hb2
      have own2 : w2.ownsRow w.heap.size 3 1 y dg.length (dg.map (.int .i64)) := by rw [hln.out]; exact own
      clear own hb2
      go_wp2_with fail
      exact bodyPost_ret (v := .tuple #[y, .bool true]) (by simp [results, Tryd.results23, go_sem]) rfl ⟨_, rfl, own2, BB⟩
end Go.Proofs.YtklbdfjmhbiheaaDoor
