/- Declarations: what they read as; the statements' own sizes, copies and comparisons of them. The conditions stand in each statement. -/
import Derived.Test.YtfkanemjedndgaaGreatDoorSg
import Derived.Test.YtfkanemjedndgaaGreatDoorBn
import Derived.Deep.DeepCutAuto
import Derived.Lib.SmallJoins
import Derived.StillTailTactics
import Derived.WideShapes
namespace Go.Proofs.YtfkanemjedndgaaGreatDoor
open Go.RowKit

/-- a declaration: its name and how wide it is -/
abbrev Dc := ByteArray × Int
def dz : Dc := (⟨#[]⟩, 0)
def dcell (ds : List Dc) (i j : Nat) : Value := match j with
  | 0 => .string (ds.getD i dz).1
  | _ => .int .i64 (ds.getD i dz).2
def dzero (j : Nat) : Value := match j with
  | 0 => .string ⟨#[]⟩
  | _ => .int .i64 0
def Named (ds : List Dc) : Prop := ∀ i, i < ds.length → (ds.getD i dz).1.size ≤ 9223372036854775807
def Decls (w : World) (v : Value) (ds : List Dc) : Prop := ∃ a cap, v = .slice a ds.length cap ∧ RowS w a ds.length cap 2 (dcell ds) ∧ Named ds
theorem Decls.below {w w' : World} {v : Value} {l : List Dc} (h : Decls w v l) (hb : Below w.heap.size w w') : Decls w' v l := by
  obtain ⟨a, cap, rfl, h, hn⟩ := h; exact ⟨a, cap, rfl, h.below hb, hn⟩
theorem Decls.drew {w : World} {v : Value} {l : List Dc} (h : Decls w v l) : Decls w.drew v l := h
theorem Decls.form {w : World} {v : Value} {l : List Dc} (h : Decls w v l) : ∃ a cap, v = .slice a l.length cap ∧ cap ≤ maxLen ∧ l.length ≤ cap := by
  obtain ⟨a, cap, rfl, ⟨h1, h2, _⟩, _⟩ := h; exact ⟨a, cap, rfl, h2, h1⟩
theorem Decls.len {w : World} {v : Value} {l : List Dc} (h : Decls w v l) : l.length ≤ 9223372036854775807 := by
  obtain ⟨a, cap, rfl, ⟨h1, h2, _⟩, _⟩ := h; unfold maxLen at h2; omega
theorem Decls.named {w : World} {v : Value} {l : List Dc} (h : Decls w v l) : Named l := by
  obtain ⟨a, cap, rfl, _, hn⟩ := h; exact hn
/-- the two cells of element k, at the address that the walk writes -/
theorem RowS.duo {w : World} {a : Option Addr} {n cap : Nat} {ds : List Dc} (h : RowS w a n cap 2 (dcell ds)) {k : Nat} (hk : k < n) : ∃ b off, a = some ⟨b, off, none⟩ ∧ b < w.heap.size ∧
    w.cell? ⟨b, off + k * 2, none⟩ = some (.string (ds.getD k dz).1) ∧ w.cell? ⟨b, off + k * 2 + 1, none⟩ = some (.int .i64 (ds.getD k dz).2) := by
  obtain ⟨_, _, h3⟩ := h
  rcases h3 with h3 | ⟨b, off, rfl, hl, hc⟩
  · omega
  · exact ⟨b, off, rfl, hl, hc k hk 0 (by omega), hc k hk 1 (by omega)⟩

theorem fillS_set2 (f : Nat → Nat → Value) (z : Nat → Value) (n k : Nat) :
    ((fillS f z n 2 k).set (k * 2) (f k 0)).set (k * 2 + 1) (f k 1) = fillS f z n 2 (k + 1) := by
  apply List.ext_getElem (by simp [fillS])
  intro q h1 h2
  simp only [List.getElem_set]
  simp only [fillS, List.getElem_map, List.getElem_range]
  by_cases e1 : k * 2 + 1 = q
  · rw [if_pos e1, if_pos (by omega), show q / 2 = k by omega, show q % 2 = 1 by omega]
  · rw [if_neg e1]
    by_cases e0 : k * 2 = q
    · rw [if_pos e0, if_pos (by omega), show q / 2 = k by omega, show q % 2 = 0 by omega]
    · rw [if_neg e0]
      by_cases e : q < k * 2
      · rw [if_pos e, if_pos (by omega)]
      · rw [if_neg e, if_neg (by omega)]
theorem fillS_step2 {w : World} {base g n k : Nat} {e : TypeId} {f : Nat → Nat → Value} {z : Nat → Value} (h : w.ownsRow base e 2 (.slice (some ⟨g, 0, none⟩) n n) n (fillS f z n 2 k)) (hk : k < n) :
    (w.cell? ⟨g, k * 2, none⟩ = some (z 0) ∧ w.cell? ⟨g, k * 2 + 1, none⟩ = some (z 1)) ∧
    (w.frozen? ⟨g, k * 2, none⟩ = false ∧ w.frozen? ⟨g, k * 2 + 1, none⟩ = false) ∧
    ((w.setCell ⟨g, k * 2, none⟩ (f k 0)).setCell ⟨g, k * 2 + 1, none⟩ (f k 1)).ownsRow base e 2 (.slice (some ⟨g, 0, none⟩) n n) n (fillS f z n 2 (k + 1)) := by
  have c : ∀ j, j < 2 → w.cell? ⟨g, k * 2 + j, none⟩ = some (z j) := fun j hj => by
    rw [h.cellAt _ (by omega), fillS_get _ _ _ _ _ (by omega), if_neg (by omega), show (k * 2 + j) % 2 = j by omega]
  refine ⟨⟨c 0 (by omega), c 1 (by omega)⟩, ⟨h.frozenAt _, h.frozenAt _⟩, ?_⟩
  have := ((h.stored (k * 2) (f k 0)).1.stored (k * 2 + 1) (f k 1)).1
  rw [fillS_set2] at this
  exact this

theorem infoDecl : (Tryz.prog.info? 44).map (fun i => (i.zero, i.size, i.bytes)) = some (some (.agg #[.string ⟨#[]⟩, .int .i64 0]), 2, 24) := by kernel_rfl

set_option maxHeartbeats 400000 in
theorem toDecl_any (nm : ByteArray) (a : Int) (w : World) :
    Calls Tryz.prog 16 #[.agg #[.string nm, .int .i64 a]] w fun e w' => e = .returned (.agg #[.string nm, .int .i64 a]) ∧ Below w.heap.size w w' := by
  go_enter Tryz.func16, Tryz.ntmps16
  go_wp2
  exact bodyPost_ret (v := .agg #[.string nm, .int .i64 a]) (by simp [results, Tryz.results16, go_sem]) rfl ⟨rfl, below_step (below_step (below_step (Below.refl _ _) _) _) _⟩

theorem szDecl_any (nm : ByteArray) (a left : Int) (w : World) (hn : nm.size ≤ 9223372036854775807) (h0 : 0 ≤ left) (h1 : left ≤ 1048576) :
    Calls Tryz.prog 12 #[.agg #[.string nm, .int .i64 a], .int .i64 left] w fun e w' => ∃ r : Int, e = .returned (.int .i64 r) ∧ -1 ≤ r ∧ r ≤ left ∧ Below w.heap.size w w' := by
  have hb := below_self_alloc w (.cells #[.string nm, .int .i64 a] 40)
  by_cases hc : left < (nm.size : Int)
  · go_enter Tryz.func12, Tryz.ntmps12
    go_wp2_with fail
    go_ret
    exact ⟨-1, rfl, by omega, by omega, hb⟩
  · go_enter Tryz.func12, Tryz.ntmps12
    go_wp2_with fail
    go_ret
    exact ⟨left - nm.size, rfl, by omega, by omega, hb⟩
def SizedD (ds : List Dc) (left : Int) (w : World) (e : Ending) (w' : World) : Prop :=
  ∃ r : Int, e = .returned (.int .i64 r) ∧ -1 ≤ r ∧ r ≤ left ∧ (0 ≤ r → ds.length ≤ 1048576) ∧ Below w.heap.size w w'
set_option maxHeartbeats 2000000 in
theorem szDeclS_any (v : Value) (ds : List Dc) (left : Int) (w : World) (h : Decls w v ds) (h0 : 0 ≤ left) (h1 : left ≤ 1048576) :
    Calls Tryz.prog 4 #[v, .int .i64 left] w (SizedD ds left w) := by
  have hl := h.len
  have HN := Lib.hid h.named
  obtain ⟨a, cap, rfl, hr, _⟩ := h
  by_cases hc : left < (ds.length : Int)
  · clear hr HN
    go_enter Tryz.func4, Tryz.ntmps4
    go_wp2_with fail
    go_ret
    exact ⟨-1, rfl, by omega, by omega, fun h => by omega, Below.refl _ _⟩
  · have hL : ds.length ≤ 1048576 := by omega
    have B0 := Below.refl w.heap.size w
    go_enter Tryz.func4, Tryz.ntmps4
    go_wp2_with fail
    go_loopw [5, 1] (fun i q wr => ∃ (k : Nat) (L : Int), k ≤ ds.length ∧ i = .int .i64 k ∧ q = .int .i64 L ∧ 0 ≤ L ∧ L ≤ left ∧ Below w.heap.size w wr) (fun i _ _ => ds.length - (intOf i).toNat)
    case atStart => exact ⟨0, _, Nat.zero_le _, rfl, rfl, by omega, by omega, B0⟩
    case round =>
      obtain ⟨k, L, hk, rfl, rfl, l0, l1, B⟩ := hrel
      clear B0
      by_cases hlt : k < ds.length
      · obtain ⟨b, off, rfl, _, c0, c1⟩ := (hr.below B).duo hlt
        have hnk := HN.out k hlt
        generalize ds.getD k dz = x at *
        obtain ⟨x0, x1⟩ := x
        have C := Lib.hid (fun w => szDecl_any x0 x1 L w hnk l0 (by omega))
        dsimp only at c0 c1
        clear hr hnk
        have hk1 : (k : Int) < (ds.length : Int) := by omega
        go_wp2_with fail
        refine (C.out _).mono ?_; rintro e w1 ⟨r, rfl, r0, r1, hb1⟩
        have B1 := below_two B hb1
        clear C hb1 B
        by_cases hrr : r < 0
        · go_wp2_with fail
          go_ret
          exact ⟨-1, rfl, by omega, by omega, fun h => by omega, B1⟩
        · go_wp2_with fail
          exact ⟨⟨k + 1, r, by omega, by go_num, rfl, by omega, by omega, B1⟩, by simp [intOf]; omega⟩
      · obtain rfl : k = ds.length := by omega
        clear hr
        go_wp2_with fail
        go_ret
        exact ⟨L, rfl, by omega, by omega, fun _ => hL, B⟩

def NewDecls (ds : List Dc) (w : World) (e : Ending) (w' : World) : Prop := ∃ v, e = .returned v ∧ w'.ownsRow w.heap.size 44 2 v ds.length (fillS (dcell ds) dzero ds.length 2 ds.length) ∧ Decls w' v ds ∧ Below w.heap.size w w'

set_option maxRecDepth 100000 in
set_option maxHeartbeats 2000000 in
theorem toDeclS_any (v : Value) (ds : List Dc) (w : World) (h : Decls w v ds) (hn : ds.length ≤ 1048576) :
    Calls Tryz.prog 7 #[v] w (NewDecls ds w) := by
  have HN := Lib.hid h.named
  obtain ⟨a, cap, rfl, hr, _⟩ := h
  obtain ⟨i0, hi, hz0, hz1, hz2⟩ := info_parts infoDecl
  go_enter Tryz.func7, Tryz.ntmps7
  go_wp2_with (refine wpList_make_full _ rfl _ _ 29 rfl w.heap.size 44 i0 (.agg #[.string ⟨#[]⟩, .int .i64 0]) 2 Tryz.underlying29 hi hz0 hz1 .i64 .i64 ds.length ds.length ds.length (by rfl) (by rfl) rfl rfl (by rw [hz2]; omega) (by unfold maxLen; omega) (Nat.le_refl _) ?_; intro w1 hown hg)
  have hown0 : w1.ownsRow w.heap.size 44 2 (.slice (some ⟨w.heap.size, 0, none⟩) ds.length ds.length) ds.length (fillS (dcell ds) dzero ds.length 2 0) := by
    rw [← fillS_zero (dcell ds) dzero ds.length 2 #[.string ⟨#[]⟩, .int .i64 0] rfl (by omega) (by intro j hj; match j, hj with | 0, _ => rfl | 1, _ => rfl)]
    exact hown
  have B1 := below_grows (Below.refl w.heap.size w) hg (by simp)
  clear hown hg
  go_loopw [4] (fun i wr => ∃ k : Nat, k ≤ ds.length ∧ i = .int .i64 k ∧ wr.ownsRow w.heap.size 44 2 (.slice (some ⟨w.heap.size, 0, none⟩) ds.length ds.length) ds.length (fillS (dcell ds) dzero ds.length 2 k) ∧ Below w.heap.size w wr) (fun i _ => ds.length - (intOf i).toNat)
  case atStart => exact ⟨0, Nat.zero_le _, rfl, hown0, B1⟩
  case round =>
    obtain ⟨k, hk, rfl, hown, B⟩ := hrel
    clear hown0 B1
    by_cases hlt : k < ds.length
    · obtain ⟨b, off, rfl, r4, r5, r6⟩ := (hr.below B).duo hlt
      clear hr
      generalize hx : ds.getD k dz = x at *
      obtain ⟨x0, x1⟩ := x
      go_wp2_with fail
      refine (toDecl_any x0 x1 _).mono ?_; rintro e w1 ⟨rfl, b1⟩
      obtain ⟨⟨c0, c1⟩, ⟨f0, f1⟩, q3⟩ := fillS_step2 (own_keep1 hown b1) hlt
      simp only [dcell, hx] at q3
      have B2 : Below w.heap.size w ((w1.setCell ⟨w.heap.size, k * 2, none⟩ (.string x0)).setCell ⟨w.heap.size, k * 2 + 1, none⟩ (.int .i64 x1)) :=
        ((B.trans (b1.mono B.size)).setCell (p := ⟨w.heap.size, k * 2, none⟩) (Nat.le_refl _) _).setCell (p := ⟨w.heap.size, k * 2 + 1, none⟩) (Nat.le_refl _) _
      have Q3 := Lib.hid q3
      simp only [dzero] at c0 c1
      clear q3 hown hx
      go_wp2_with fail
      exact ⟨⟨k + 1, by omega, by go_num, Q3.out, B2⟩, by simp [intOf]; omega⟩
    · have hk2 : k = ds.length := by omega
      subst hk2
      go_wp2
      go_ret
      obtain ⟨a2, c2, e2, hr2⟩ := RowS.of_own (by omega) hown
      exact ⟨_, rfl, hown, ⟨a2, c2, e2, hr2, HN.out⟩, B⟩

theorem duo_keep {w w' : World} (hb : Below w.heap.size w w') {b o : Nat} {x y : Value} (hl : b < w.heap.size) (h : w.cell? ⟨b, o, none⟩ = some x ∧ w.cell? ⟨b, o + 1, none⟩ = some y) :
    w'.cell? ⟨b, o, none⟩ = some x ∧ w'.cell? ⟨b, o + 1, none⟩ = some y :=
  ⟨(hb.cell (p := ⟨b, o, none⟩) hl).trans h.1, (hb.cell (p := ⟨b, o + 1, none⟩) hl).trans h.2⟩
theorem duo_drew {w : World} {b o : Nat} {x y : Value} (h : w.cell? ⟨b, o, none⟩ = some x ∧ w.cell? ⟨b, o + 1, none⟩ = some y) :
    w.drew.cell? ⟨b, o, none⟩ = some x ∧ w.drew.cell? ⟨b, o + 1, none⟩ = some y := h
theorem str_ne {a b : ByteArray} (h : ¬ a = b) : (a.toList == b.toList) = false := by
  simpa using fun e => h (Go.WideShapes.bytes_inj (by rw [← ByteArray.toList_eq, ← ByteArray.toList_eq, e]))
theorem eqDecl_any (x : ByteArray) (a : Int) (x' : ByteArray) (a' : Int) (w : World) :
    Calls Tryz.prog 21 #[.agg #[.string x, .int .i64 a], .agg #[.string x', .int .i64 a']] w fun e w' => e = .returned (.bool (decide (((x, a) : Dc) = (x', a')))) ∧ Below w.heap.size w w' := by
  have hb : Below w.heap.size w ((w.alloc (.cells #[.string x, .int .i64 a] 44)).alloc (.cells #[.string x', .int .i64 a'] 44)) := below_res (Below.refl _ _)
  have e : decide (((x, a) : Dc) = (x', a')) = (decide (x = x') && decide (a = a')) := by simp [Bool.decide_and]
  rw [e]; clear e
  by_cases h0 : x = x'
  · rw [decide_eq_true h0, Bool.true_and]
    subst h0
    by_cases h1 : a = a'
    · rw [decide_eq_true h1]
      have q1 : (a != a') = false := by simpa using h1
      clear h1
      go_enter Tryz.func21, Tryz.ntmps21
      go_wp2_with fail
      go_ret
      exact ⟨rfl, hb⟩
    · have q1 : (a != a') = true := by simpa using h1
      rw [decide_eq_false h1]
      clear h1
      go_enter Tryz.func21, Tryz.ntmps21
      go_wp2_with fail
      go_ret
      exact ⟨rfl, hb⟩
  · rw [decide_eq_false h0, Bool.false_and]
    have h0' := str_ne h0
    clear h0
    go_enter Tryz.func21, Tryz.ntmps21
    go_wp2_with fail
    go_ret
    exact ⟨rfl, hb⟩
theorem list_ne_at' {α : Type} {l l' : List α} (d : α) {i : Nat} (h : l.getD i d ≠ l'.getD i d) : ¬ l = l' := fun e => h (by rw [e])
theorem list_eq_of' {α : Type} {l l' : List α} (d : α) (hl : l.length = l'.length) (h : ∀ i, i < l.length → l.getD i d = l'.getD i d) : l = l' := by
  apply List.ext_getElem hl
  intro i h1 h2
  have := h i h1
  simpa [List.getD_eq_getElem?_getD, h1, h2] using this
set_option maxHeartbeats 4000000 in
theorem eqDeclS_any (v v' : Value) (l l' : List Dc) (w : World) (h : Decls w v l) (h' : Decls w v' l') :
    Calls Tryz.prog 10 #[v, v'] w fun e w' => e = .returned (.bool (decide (l = l'))) ∧ Below w.heap.size w w' := by
  have hl := h.len
  have hl' := h'.len
  obtain ⟨a, cap, rfl, hr, _⟩ := h
  obtain ⟨a', cap', rfl, hr', _⟩ := h'
  by_cases hn : l.length = l'.length
  · rw [← hn] at hr'
    have D : Hid (∀ i, i < l.length → (l.getD i dz ≠ l'.getD i dz → decide (l = l') = false)) := fun i _ h => by simpa using list_ne_at' dz h
    have E : Hid ((∀ i, i < l.length → l.getD i dz = l'.getD i dz) → decide (l = l') = true) := fun h => by simpa using list_eq_of' dz hn h
    rw [← hn]
    generalize decide (l = l') = z at *
    clear hn hl'
    have B0 := Below.refl w.heap.size w
    go_enter Tryz.func10, Tryz.ntmps10
    go_wp2
    go_loopw [5] (fun i wr => ∃ k : Nat, k ≤ l.length ∧ i = .int .i64 k ∧ Hid (∀ i, i < k → l.getD i dz = l'.getD i dz) ∧ Below w.heap.size w wr) (fun i _ => l.length - (intOf i).toNat)
    case atStart => exact ⟨0, Nat.zero_le _, rfl, fun i hi => absurd hi (by omega), B0⟩
    case round =>
      obtain ⟨k, hk, rfl, hsame, B⟩ := hrel
      clear B0
      by_cases hlt : k < l.length
      · obtain ⟨b, off, rfl, g4, g5, g6⟩ := (hr.below B).duo hlt
        obtain ⟨b', off', rfl, g4', g5', g6'⟩ := (hr'.below B).duo hlt
        have S : Hid (l.getD k dz = l'.getD k dz → ∀ i, i < k + 1 → l.getD i dz = l'.getD i dz) := fun h i hi => by
          rcases Nat.lt_or_ge i k with h1 | h1
          · exact hsame.out i h1
          · rw [show i = k by omega]; exact h
        have D2 : Hid (l.getD k dz ≠ l'.getD k dz → z = false) := D.out k hlt
        clear hsame D E hr hr'
        generalize l.getD k dz = x at *
        generalize l'.getD k dz = y at *
        obtain ⟨x0, x1⟩ := x
        obtain ⟨y0, y1⟩ := y
        have hk0 : (0 : Int) ≤ (k : Int) := by omega
        have hk1 : (k : Int) < (l.length : Int) := by omega
        dsimp only at g5 g6 g5' g6'
        have C1 := fun w => eqDecl_any x0 x1 y0 y1 w
        have sS := And.intro (duo_drew (And.intro g5 g6)) (duo_drew (And.intro g5' g6'))
        by_cases hxy : ((x0, x1) : Dc) = (y0, y1)
        · rw [decide_eq_true hxy] at C1
          have S2 : Hid (∀ i, i < k + 1 → l.getD i dz = l'.getD i dz) := S.out hxy
          have C := Lib.hid C1
          clear S D2 C1 hxy
          replace B := B.drew
          go_wp2_with fail
          first
            | (go_region_held3 (fun wx : World => (wx.cell? ⟨b, off + k * 2, none⟩ = some (.string x0) ∧ wx.cell? ⟨b, off + k * 2 + 1, none⟩ = some (.int .i64 x1)) ∧ (wx.cell? ⟨b', off' + k * 2, none⟩ = some (.string y0) ∧ wx.cell? ⟨b', off' + k * 2 + 1, none⟩ = some (.int .i64 y1))) (first | (with_reducible assumption)) (first | (go_at_call 21; (with_reducible refine (C.out _).mono ?_); rintro e w1 ⟨rfl, hb⟩; replace B := below_two B hb; replace sS := And.intro (duo_keep hb g4 sS.1) (duo_keep hb g4' sS.2); clear hb)))
            | fail
          go_wp2_with fail
          exact ⟨⟨k + 1, by omega, by go_num, S2, B⟩, by simp [intOf]; omega⟩
        · have hz := D2.out hxy
          subst hz
          rw [decide_eq_false hxy] at C1
          have C := Lib.hid C1
          clear S D2 C1 hxy
          replace B := B.drew
          go_wp2_with fail
          first
            | (go_region_held3 (fun wx : World => (wx.cell? ⟨b, off + k * 2, none⟩ = some (.string x0) ∧ wx.cell? ⟨b, off + k * 2 + 1, none⟩ = some (.int .i64 x1)) ∧ (wx.cell? ⟨b', off' + k * 2, none⟩ = some (.string y0) ∧ wx.cell? ⟨b', off' + k * 2 + 1, none⟩ = some (.int .i64 y1))) (first | (with_reducible assumption)) (first | (go_at_call 21; (with_reducible refine (C.out _).mono ?_); rintro e w1 ⟨rfl, hb⟩; replace B := below_two B hb; replace sS := And.intro (duo_keep hb g4 sS.1) (duo_keep hb g4' sS.2); clear hb)))
            | fail
          go_wp2_with fail
          go_ret
          exact ⟨rfl, B⟩
      · obtain rfl : k = l.length := by omega
        have hz := E.out hsame.out
        subst hz
        clear D E hsame hr hr'
        go_wp2_with fail
        go_ret
        exact ⟨rfl, B⟩
  · have hz : decide (l = l') = false := by simpa using fun e => hn (by rw [e])
    rw [hz]
    have hn' : ((l.length : Int) != (l'.length : Int)) = true := by simp; omega
    clear hr hr' hz
    go_enter Tryz.func10, Tryz.ntmps10
    go_wp2
    go_ret
    exact ⟨rfl, Below.refl _ _⟩
theorem eqDeclS_same (v v' : Value) (l : List Dc) (w : World) (h : Decls w v l) (h' : Decls w v' l) :
    Calls Tryz.prog 10 #[v, v'] w fun e w' => e = .returned (.bool true) ∧ Below w.heap.size w w' := by
  have := eqDeclS_any v v' l l w h h'
  rw [decide_eq_true rfl] at this
  exact this
end Go.Proofs.YtfkanemjedndgaaGreatDoor
