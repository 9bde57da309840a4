/- Terms that are drawn: what a drawing gives, and the rows of terms that it makes. The conditions stand in each statement. -/
import Derived.Test.YtfkanemjedndgaaDoorTk
import Derived.Test.YtfkanemjedndgaaDoorTv
import Derived.Test.YtfkanemjedndgaaDoorDe
import Derived.Test.YtfkanemjedndgaaDoorTn
namespace Go.Proofs.YtfkanemjedndgaaDoor
open Go.RowKit

theorem kept_grownT {B g : Nat} {w w' : World} (h : w.grownBy w' (some g)) (hg : g < B) : Kept B w w' :=
  ⟨h.size, fun k hB hk => h.block k hk (by intro e; injection e with e; omega)⟩
theorem kept_allocT (B : Nat) (w : World) (o : Obj) : Kept B w (w.alloc o) := kept_below (below_self_alloc w o)
def TOk (t : Tm) : Prop := 0 ≤ t.op ∧ t.op ≤ 40 ∧ -1000 ≤ t.a ∧ t.a ≤ 1000 ∧ -1000 ≤ t.b ∧ t.b ≤ 1000 ∧ t.nm.size ≤ 1
/-- so at every level -/
def TD : Nat → List Tm → Prop
  | 0, _ => True
  | d + 1, ks => ∀ i, i < ks.length → TOk (ks.getD i tz) ∧ TD d (ks.getD i tz).ks
/-- the kids' row, one level apart: what Kept B keeps -/
def Top (B D : Nat) (w : World) (s : Value) (ks : List Tm) : Prop :=
  (s = .slice none 0 0 ∧ ks = []) ∨ ∃ (d b cap : Nat) (S : Nat → Value), D = d + 1 ∧ s = .slice (some ⟨b, 0, none⟩) ks.length cap ∧ RowS w (some ⟨b, 0, none⟩) ks.length cap 5 (tcell ks S) ∧ B ≤ b ∧ b < w.heap.size ∧ ∀ i, i < ks.length → KS B d w (S i) (ks.getD i tz).ks
theorem rowS_kept {B : Nat} {w w' : World} {b n cap s : Nat} {f : Nat → Nat → Value} (h : RowS w (some ⟨b, 0, none⟩) n cap s f) (hk : Kept B w w') (hb : B ≤ b) : RowS w' (some ⟨b, 0, none⟩) n cap s f := by
  obtain ⟨h1, h2, h3⟩ := h
  refine ⟨h1, h2, ?_⟩
  rcases h3 with h3 | ⟨b', off, e, hl, hc⟩
  · exact .inl h3
  · cases e
    refine .inr ⟨b, 0, rfl, Nat.lt_of_lt_of_le hl hk.1, fun i hi j hj => ?_⟩
    have := hc i hi j hj
    simpa [World.cell?, hk.2 b hb hl] using this
theorem Top.on {B D : Nat} {w w' : World} {s : Value} {ks : List Tm} (h : Top B D w s ks) (hk : Kept B w w') : Top B D w' s ks := by
  rcases h with h | ⟨d, b, cap, S, e, e', hr, hb, hl, hS⟩
  · exact .inl h
  · exact .inr ⟨d, b, cap, S, e, e', rowS_kept hr hk hb, hb, Nat.lt_of_lt_of_le hl hk.1, fun i hi => (hS i hi).on hk⟩
theorem Top.mono {B B' D : Nat} {w : World} {s : Value} {ks : List Tm} (h : Top B D w s ks) (hB : B' ≤ B) : Top B' D w s ks := by
  rcases h with h | ⟨d, b, cap, S, e, e', hr, hb, hl, hS⟩
  · exact .inl h
  · exact .inr ⟨d, b, cap, S, e, e', hr, Nat.le_trans hB hb, hl, fun i hi => (hS i hi).mono hB⟩
def Short (B D : Nat) (w : World) (s : Value) (ks : List Tm) : Prop := ks.length ≤ 3 ∧ Top B D w s ks
theorem short_nil (B D : Nat) (w : World) : Short B D w (.slice none 0 0) [] := ⟨Nat.zero_le _, .inl ⟨rfl, rfl⟩⟩
theorem Short.on {B D : Nat} {w w' : World} {s : Value} {ks : List Tm} (h : Short B D w s ks) (hk : Kept B w w') : Short B D w' s ks := ⟨h.1, h.2.on hk⟩
theorem Short.mono {B B' D : Nat} {w : World} {s : Value} {ks : List Tm} (h : Short B D w s ks) (hB : B' ≤ B) : Short B' D w s ks := ⟨h.1, h.2.mono hB⟩
/-- what a drawing of a term gave -/
def GaveT (B D g : Nat) (v : Value) (P : Nat) (w : World) (e : Ending) (w' : World) : Prop :=
  ∃ (t : Tm) (s : Value), e = .returned (.agg #[.int .i64 t.op, .int .i64 t.a, .int .i64 t.b, .string t.nm, s]) ∧ KS B D w' s t.ks ∧ TOk t ∧ TD D t.ks ∧ Short B D w' s t.ks ∧ w.grownBy w' (some g) ∧ RdOk w' g v P
theorem sIn_nil (d : Nat) (w : World) : SIn d w (.slice none 0 0) [] := by
  cases d with
  | zero => exact ⟨rfl, none, 0, rfl, Nat.zero_le _⟩
  | succ d => exact ⟨none, 0, fun _ => undef, rfl, ⟨Nat.le_refl _, Nat.zero_le _, .inl rfl⟩, fun i hi => absurd hi (Nat.not_lt_zero _), fun i hi => absurd hi (Nat.not_lt_zero _)⟩
theorem td_nil (d : Nat) : TD d [] := by
  cases d with
  | zero => trivial
  | succ d => exact fun i hi => absurd hi (Nat.not_lt_zero _)
theorem mkRow {B d n : Nat} {w : World} (ts : List Tm) (S : Nat → Value) (cs : Array Value) (T : TypeId) (hl : ts.length = n) (hn : n ≤ 1000) (hcs : ∀ i j, i < n → j < 5 → cs[i * 5 + j]? = some (tcell ts S i j))
    (hk : ∀ i, i < n → KS B d w (S i) (ts.getD i tz).ks) (hnm : ∀ i, i < n → (ts.getD i tz).nm.size ≤ 9223372036854775807) (hB : B ≤ w.heap.size) :
    KS B (d + 1) (w.alloc (.cells cs T)) (.slice (some ⟨w.heap.size, 0, none⟩) n n) ts := by
  subst hl
  intro w' hK
  have hb : w'.heap[w.heap.size]? = some (.cells cs T (0, 0)) := (hK.2 _ hB (by simp)).trans (heap_alloc_new w _)
  refine ⟨some ⟨w.heap.size, 0, none⟩, ts.length, S, rfl, ⟨Nat.le_refl _, by unfold maxLen; omega, ?_⟩, hnm, fun i hi => hk i hi w' ((kept_allocT B w _).trans hK)⟩
  refine .inr ⟨w.heap.size, 0, rfl, (Array.getElem?_eq_some_iff.1 hb).1, fun i hi j hj => ?_⟩
  have := hcs i j hi hj
  simp [World.cell?, hb, this]
theorem mkTop {B d n : Nat} {w : World} (ts : List Tm) (S : Nat → Value) (cs : Array Value) (T : TypeId) (hl : ts.length = n) (hn : n ≤ 1000) (hcs : ∀ i j, i < n → j < 5 → cs[i * 5 + j]? = some (tcell ts S i j))
    (hk : ∀ i, i < n → KS B d w (S i) (ts.getD i tz).ks) (hB : B ≤ w.heap.size) :
    Top B (d + 1) (w.alloc (.cells cs T)) (.slice (some ⟨w.heap.size, 0, none⟩) n n) ts := by
  subst hl
  have hb := heap_alloc_new w (.cells cs T)
  refine .inr ⟨d, w.heap.size, ts.length, S, rfl, rfl, ⟨Nat.le_refl _, by unfold maxLen; omega, ?_⟩, hB, by simp, fun i hi => (hk i hi).on (kept_allocT B w _)⟩
  refine .inr ⟨w.heap.size, 0, rfl, (Array.getElem?_eq_some_iff.1 hb).1, fun i hi j hj => ?_⟩
  rw [World.cell?_alloc_new]
  simpa using hcs i j hi hj
/-- the five cells of the result's block are written -/
theorem put5 {w0 w : World} {k g P P0 : Nat} {v a0 a1 a2 a3 a4 : Value} {t : TypeId} (A : Blk5 w k a0 a1 a2 a3 a4 t) (G : w0.grownBy w (some g)) (R : RdOk w g v P) (h0 : RdOk w0 g v P0) (hk : w0.heap.size ≤ k) (x0 x1 x2 x3 x4 : Value) :
    Blk5 (((((w.setCell ⟨k, 0, none⟩ x0).setCell ⟨k, 1, none⟩ x1).setCell ⟨k, 2, none⟩ x2).setCell ⟨k, 3, none⟩ x3).setCell ⟨k, 4, none⟩ x4) k x0 x1 x2 x3 x4 t ∧
    w0.grownBy (((((w.setCell ⟨k, 0, none⟩ x0).setCell ⟨k, 1, none⟩ x1).setCell ⟨k, 2, none⟩ x2).setCell ⟨k, 3, none⟩ x3).setCell ⟨k, 4, none⟩ x4) (some g) ∧
    RdOk (((((w.setCell ⟨k, 0, none⟩ x0).setCell ⟨k, 1, none⟩ x1).setCell ⟨k, 2, none⟩ x2).setCell ⟨k, 3, none⟩ x3).setCell ⟨k, 4, none⟩ x4) g v P ∧
    Kept (k + 1) w (((((w.setCell ⟨k, 0, none⟩ x0).setCell ⟨k, 1, none⟩ x1).setCell ⟨k, 2, none⟩ x2).setCell ⟨k, 3, none⟩ x3).setCell ⟨k, 4, none⟩ x4) := by
  refine ⟨((((A.set0 x0).set1 x1).set2 x2).set3 x3).set4 x4, grown_set (grown_set (grown_set (grown_set (grown_set G (p := ⟨k, 0, none⟩) hk x0) (p := ⟨k, 1, none⟩) hk x1) (p := ⟨k, 2, none⟩) hk x2) (p := ⟨k, 3, none⟩) hk x3) (p := ⟨k, 4, none⟩) hk x4,
    ((((R.setNew (q := ⟨k, 0, none⟩) (x := x0) h0 hk).setNew (q := ⟨k, 1, none⟩) (x := x1) h0 hk).setNew (q := ⟨k, 2, none⟩) (x := x2) h0 hk).setNew (q := ⟨k, 3, none⟩) (x := x3) h0 hk).setNew (q := ⟨k, 4, none⟩) (x := x4) h0 hk, ?_⟩
  exact kept_set (kept_set (kept_set (kept_set (kept_set (Kept.refl _ _) (p := ⟨k, 0, none⟩) (Nat.lt_succ_self k) x0) (p := ⟨k, 1, none⟩) (Nat.lt_succ_self k) x1) (p := ⟨k, 2, none⟩) (Nat.lt_succ_self k) x2) (p := ⟨k, 3, none⟩) (Nat.lt_succ_self k) x3) (p := ⟨k, 4, none⟩) (Nat.lt_succ_self k) x4
theorem Blk5.keepG {w w1 : World} {k g : Nat} {x0 x1 x2 x3 x4 : Value} {t : TypeId} (h : Blk5 w k x0 x1 x2 x3 x4 t) (hg : w.grownBy w1 (some g)) (hne : k ≠ g) : Blk5 w1 k x0 x1 x2 x3 x4 t :=
  (hg.block k h.lt (fun e => hne (Option.some.inj e))).trans h

set_option linter.unusedVariables false in
set_option maxRecDepth 100000 in
set_option maxHeartbeats 8000000 in
theorem l2Leafy_any (B D g P : Nat) (v s : Value) (ds : List Dc) (sort : Int) (w : World) (hr : RdOk w g v P) (hP : P ≤ 900000) (h : ∀ w', w.grownBy w' (some g) → Decls w' s ds) (h1 : 1 ≤ ds.length) (h4 : ds.length ≤ 4) (hnm : ∀ i, i < ds.length → (ds.getD i dz).1.size ≤ 1) (s0 : 0 ≤ sort) (s4 : sort ≤ 4) :
    Calls Tryd.prog 63 #[.pointer (some ⟨g, 0, none⟩), s, .int .i64 sort] w (GaveT B D g v (P + 10) w) := by
  have gl := hr.lt
  obtain ⟨a, cap, rfl, _⟩ := (h w (World.grownBy.refl _ _)).form
  have A := blk5_new w (.int .i64 0) (.int .i64 0) (.int .i64 0) (.string ⟨#[]⟩) (.slice none 0 0) 33
  have G := World.grownBy_alloc w (.cells #[.int .i64 0, .int .i64 0, .int .i64 0, .string ⟨#[]⟩, .slice none 0 0] 33) (some g)
  have R := hr.alloc (.cells #[.int .i64 0, .int .i64 0, .int .i64 0, .string ⟨#[]⟩, .slice none 0 0] 33)
  by_cases hs : sort = 0
  · subst hs
    go_enter Tryd.func63, Tryd.ntmps63
    go_wp2_with fail
    exact bodyPost_ret (v := .agg #[.int .i64 24, .int .i64 0, .int .i64 0, .string ⟨#[]⟩, .slice none 0 0]) (by simp [results, Tryd.results63, go_sem]) rfl
      ⟨.node 24 0 0 ⟨#[]⟩ [], .slice none 0 0, rfl, fun w' _ => sIn_nil D w', by simp [TOk, Tm.op, Tm.a, Tm.b, Tm.nm, ByteArray.size], td_nil D, short_nil B D _, World.grownBy_alloc _ _ _, (hr.alloc _).le (by omega)⟩
  · have e0 : (sort == 0) = false := by simpa using hs
    go_enter Tryd.func63, Tryd.ntmps63
    go_wp2_with fail
    refine (pick_any g P v ds.length _ R (by omega)).mono ?_
    rintro e w1 ⟨p, rfl, p0, p1, _, hg1, R1⟩
    replace p1 := p1 (by omega)
    obtain ⟨pn, rfl⟩ : ∃ pn : Nat, p = pn := ⟨p.toNat, by omega⟩
    have G1 := grown_two G hg1
    have A1 := A.keepG hg1 (by omega)
    clear R hg1 A G
    go_wp2_with fail
    go_loopw [9] (fun i wr => ∃ k : Nat, i = .int .i64 k ∧ k ≤ ds.length ∧ w.grownBy wr (some g) ∧ RdOk wr g v (P + 1 + k) ∧ Blk5 wr w.heap.size (.int .i64 0) (.int .i64 0) (.int .i64 0) (.string ⟨#[]⟩) (.slice none 0 0) 33) (fun i _ => ds.length - (intOf i).toNat)
    case atStart => exact ⟨0, rfl, Nat.zero_le _, G1, R1, A1⟩
    case round =>
      clear G1 R1 A1
      obtain ⟨k, rfl, hk, G, R, A⟩ := hrel
      have last : Hid (∀ w2 q, 0 ≤ q → q ≤ 1000 → w.grownBy w2 (some g) → RdOk w2 g v (P + 10) → GaveT B D g v (P + 10) w (.returned (.agg #[.int .i64 20, .int .i64 sort, .int .i64 q, .string ⟨#[]⟩, .slice none 0 0])) w2) := fun w2 q q0 q1 g2 r2 =>
        ⟨.node 20 sort q ⟨#[]⟩ [], .slice none 0 0, rfl, fun w' _ => sIn_nil D w', ⟨by simp [Tm.op], by simp [Tm.op], by simp [Tm.a]; omega, by simp [Tm.a]; omega, by simp [Tm.b]; omega, by simp [Tm.b]; omega, by simp [Tm.nm, ByteArray.size]⟩, td_nil D, short_nil B D _, g2, r2⟩
      have two16 : two sort.toNat ≤ 16 ∧ 1 ≤ two sort.toNat := by
        have h2 := two_le (show sort.toNat ≤ 4 by omega)
        have h3 := two_pos sort.toNat
        have h5 : two 4 = 16 := rfl
        omega
      have T2 : Hid (∀ w', Calls Tryd.prog 51 #[.int .i64 sort] w' fun e w2 => e = .returned (.int .i64 (two sort.toNat)) ∧ w' = w2) := fun w' => l1Two_any sort w' (by omega)
      by_cases hlt : k < ds.length
      · have hk1 : (k : Int) < (ds.length : Int) := by omega
        go_wp2_with fail
        refine (pick_any g (P + 1 + k) v 4 _ R (by omega)).mono ?_
        rintro e w2 ⟨q, rfl, q0, q1, _, hg2, R2⟩
        replace q1 := q1 (by omega)
        replace G := grown_two G hg2
        replace A := A.keepG hg2 (by omega)
        clear R hg2
        by_cases hq : 0 < q
        · obtain ⟨m, hm⟩ : ∃ m : Nat, m = (pn + k) % ds.length := ⟨_, rfl⟩
          have hml : m < ds.length := by rw [hm]; exact Nat.mod_lt _ (by omega)
          have hmod : ((pn : Int) + (k : Int)) % (ds.length : Int) = (m : Int) := by rw [hm]; simp
          have hm1 : (m : Int) < (ds.length : Int) := by omega
          obtain ⟨a', cap', e', hrow, _⟩ := h w2 G
          cases e'
          obtain ⟨b, off, rfl, _, c0, c1⟩ := hrow.duo hml
          have hn1 := hnm m hml
          clear hrow hm
          generalize ds.getD m dz = x at *
          by_cases hw : x.2 = sort
          · have ew : (x.2 == sort) = true := by simpa using hw
            obtain ⟨A0, A1, A2, A3, A4, A5⟩ := A.cells
            obtain ⟨F0, F1, F2, F3, F4⟩ := A.frozen
            clear last T2
            go_wp2_with fail
            obtain ⟨Af, Gf, Rf, Kf⟩ := put5 A G R2 hr (Nat.le_refl _) (.int .i64 21) (.int .i64 0) (.int .i64 0) (.string x.1) (.slice none 0 0)
            obtain ⟨r0, r1, r2, r3, r4, _⟩ := Af.cells
            exact bodyPost_ret (v := .agg #[.int .i64 21, .int .i64 0, .int .i64 0, .string x.1, .slice none 0 0]) (by simp [results, Tryd.results63, go_sem, r0, r1, r2, r3, r4]) rfl
              ⟨.node 21 0 0 x.1 [], .slice none 0 0, rfl, fun w' _ => sIn_nil D w', ⟨by simp [Tm.op], by simp [Tm.op], by simp [Tm.a], by simp [Tm.a], by simp [Tm.b], by simp [Tm.b], hn1⟩, td_nil D, short_nil B D _, Gf, Rf.le (by omega)⟩
          · have ew : (x.2 == sort) = false := by simpa using hw
            go_wp2_with fail
            exact ⟨⟨k + 1, by go_num, by omega, G, R2.le (by omega), A⟩, by simp [intOf]; omega⟩
        · have dq : decide (0 < q) = false := by simpa using hq
          go_wp2_with fail
          refine (T2.out _).mono ?_; rintro e w3 ⟨rfl, rfl⟩
          go_wp2_with fail
          generalize two sort.toNat = tw at *
          refine (pick_any g _ v tw _ R2 (by omega)).mono ?_
          rintro e w4 ⟨q2, rfl, q20, q21, _, hg4, R4⟩
          replace q21 := q21 (by omega)
          replace G := grown_two G hg4
          replace A := A.keepG hg4 (by omega)
          clear hg4
          obtain ⟨A0, A1, A2, A3, A4, A5⟩ := A.cells
          obtain ⟨F0, F1, F2, F3, F4⟩ := A.frozen
          go_wp2_with fail
          obtain ⟨Af, Gf, Rf, Kf⟩ := put5 A G R4 hr (Nat.le_refl _) (.int .i64 20) (.int .i64 sort) (.int .i64 q2) (.string ⟨#[]⟩) (.slice none 0 0)
          obtain ⟨r0, r1, r2, r3, r4, _⟩ := Af.cells
          exact bodyPost_ret (v := .agg #[.int .i64 20, .int .i64 sort, .int .i64 q2, .string ⟨#[]⟩, .slice none 0 0]) (by simp [results, Tryd.results63, go_sem, r0, r1, r2, r3, r4]) rfl (last.out _ q2 q20 (by omega) Gf (Rf.le (by omega)))
      · go_wp2_with fail
        refine (T2.out _).mono ?_; rintro e w3 ⟨rfl, rfl⟩
        go_wp2_with fail
        generalize two sort.toNat = tw at *
        refine (pick_any g _ v tw _ R (by omega)).mono ?_
        rintro e w4 ⟨q2, rfl, q20, q21, _, hg4, R4⟩
        replace q21 := q21 (by omega)
        replace G := grown_two G hg4
        replace A := A.keepG hg4 (by omega)
        clear hg4
        obtain ⟨A0, A1, A2, A3, A4, A5⟩ := A.cells
        obtain ⟨F0, F1, F2, F3, F4⟩ := A.frozen
        go_wp2_with fail
        obtain ⟨Af, Gf, Rf, Kf⟩ := put5 A G R4 hr (Nat.le_refl _) (.int .i64 20) (.int .i64 sort) (.int .i64 q2) (.string ⟨#[]⟩) (.slice none 0 0)
        obtain ⟨r0, r1, r2, r3, r4, _⟩ := Af.cells
        exact bodyPost_ret (v := .agg #[.int .i64 20, .int .i64 sort, .int .i64 q2, .string ⟨#[]⟩, .slice none 0 0]) (by simp [results, Tryd.results63, go_sem, r0, r1, r2, r3, r4]) rfl (last.out _ q2 q20 (by omega) Gf (Rf.le (by omega)))
end Go.Proofs.YtfkanemjedndgaaDoor
