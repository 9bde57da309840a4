/- The formula of a net, as the reference makes it. The conditions stand in each statement. -/
import Derived.Test.YteeaafdgkepaeaaOb
import Derived.Test.YteeaafdgkepaeaaOd
import Derived.Deep.AppendLies
namespace Go.Proofs.Yteeaafdgkepaeaa
open Go.RowKit

set_option maxHeartbeats 1000000 in
theorem l6Many_any (m : Int) (v : Value) (gs : List Gt) (w : World) (h : Gates w v gs) (m0 : 0 ≤ m) (m1 : m ≤ 100) (hl : gs.length ≤ 1000) :
    Calls Try.prog 74 #[.agg #[.int .i64 m, v]] w fun e w' => e = .returned (.int .i64 (1 + m + gs.length)) ∧ Below w.heap.size w w' := by
  obtain ⟨a, cap, rfl⟩ := h.form
  clear h
  have B := below_self_alloc w (.cells #[.int .i64 m, .slice a gs.length cap] 39)
  have h1 : IntKind.i64.wrap (1 + m) = 1 + m := IntWalk.i64_in _ (by omega)
  have h2 : IntKind.i64.wrap (1 + m + gs.length) = 1 + m + gs.length := IntWalk.i64_in _ (by omega)
  go_enter Try.func74, Try.ntmps74
  go_wp2_with fail
  go_ret
  exact ⟨rfl, B⟩
theorem OwnSS.le {w : World} {base base' : Nat} {tt ti : TypeId} {v : Value} {ls : List (List Int)} {k : Nat} {fs : List Value} (h : OwnSS w base tt ti v ls k fs) (hb : base' ≤ base) : OwnSS w base' tt ti v ls k fs :=
  ⟨Go.Joins.ownsRow_le h.top hb, fun i hi => Go.Joins.ownsRow_le (h.row i hi) hb, h.apart, h.off, h.rest⟩
theorem OwnSS.setBelow {w : World} {base : Nat} {tt ti : TypeId} {v : Value} {ls : List (List Int)} {k : Nat} {fs : List Value} (h : OwnSS w base tt ti v ls k fs) {a : Addr} (ha : a.block < base) (u : Value) : OwnSS (w.setCell a u) base tt ti v ls k fs :=
  ⟨ownsRow_setCell_below h.top ha u, fun i hi => ownsRow_setCell_below (h.row i hi) ha u, h.apart, h.off, h.rest⟩

def clau (g : Gt) (k : Int) : List (List Int) :=
  if g.1 = true then [[g.2.1, g.2.2, -k], [-g.2.1, -g.2.2, -k], [-g.2.1, g.2.2, k], [g.2.1, -g.2.2, k]] else [[g.2.1, -k], [g.2.2, -k], [-g.2.1, -g.2.2, k]]
def cnfTo (m : Int) (gs : List Gt) : Nat → List (List Int)
  | 0 => [[1]]
  | i + 1 => cnfTo m gs i ++ clau (gs.getD i gz) (2 + m + i)
theorem clau_len (g : Gt) (k : Int) : (clau g k).length ≤ 4 := by unfold clau; split <;> simp
theorem clau_rows (g : Gt) (k : Int) : ∀ l ∈ clau g k, l.length ≤ 3 := by
  unfold clau
  split
  · intro l hl
    simp at hl
    rcases hl with rfl | rfl | rfl | rfl <;> simp
  · intro l hl
    simp at hl
    rcases hl with rfl | rfl | rfl <;> simp
theorem cnfTo_len (m : Int) (gs : List Gt) : ∀ k, (cnfTo m gs k).length ≤ 1 + 4 * k
  | 0 => by simp [cnfTo]
  | k + 1 => by
    have h1 := cnfTo_len m gs k
    have h2 := clau_len (gs.getD k gz) (2 + m + k)
    unfold cnfTo
    rw [List.length_append]
    omega
theorem cnfTo_rows (m : Int) (gs : List Gt) : ∀ k, ∀ l ∈ cnfTo m gs k, l.length ≤ 3
  | 0 => by intro l hl; simp [cnfTo] at hl; subst hl; simp
  | k + 1 => by
    intro l hl
    unfold cnfTo at hl
    rcases List.mem_append.1 hl with h | h
    · exact cnfTo_rows m gs k l h
    · exact clau_rows _ _ l h
noncomputable def cnfM (m : Int) (gs : List Gt) : Int := if netV m gs = true then 1 + m + gs.length else 0
noncomputable def cnfL (m : Int) (gs : List Gt) : List (List Int) := if netV m gs = true then cnfTo m gs gs.length else []
theorem cnfL_len (m : Int) (gs : List Gt) : (cnfL m gs).length ≤ 2401 := by
  unfold cnfL
  split
  · next h =>
    have h1 := cnfTo_len m gs gs.length
    have h2 := (netV_true.1 h).1.2.2
    omega
  · simp
theorem cnfL_rows (m : Int) (gs : List Gt) : ∀ i, i < (cnfL m gs).length → ((cnfL m gs).getD i []).length ≤ 3 := by
  have h0 : ∀ l ∈ cnfL m gs, l.length ≤ 3 := by
    unfold cnfL
    split
    · exact cnfTo_rows _ _ _
    · intro l hl; simp at hl
  intro i hi
  rw [List.getD_eq_getElem?_getD, List.getElem?_eq_getElem hi]
  exact h0 _ (List.getElem_mem _)
theorem mabs_bd {x b : Int} (h : mabs x < b) : -b ≤ x ∧ x ≤ b := by unfold mabs at h; split at h <;> omega
theorem gate_bd {m : Int} {gs : List Gt} (h : NetIn m gs) {k : Nat} (hk : k < gs.length) : (-1000 ≤ (gs.getD k gz).2.1 ∧ (gs.getD k gz).2.1 ≤ 1000) ∧ (-1000 ≤ (gs.getD k gz).2.2 ∧ (gs.getD k gz).2.2 ≤ 1000) := by
  obtain ⟨⟨h1, h2, h3⟩, h4⟩ := h
  obtain ⟨⟨a, b, c, d, _⟩, _⟩ := h4 k hk
  omega

/-! ### a formula in a block, while it grows -/
structure Off (g : Nat) (v : Value) (fs : List Value) : Prop where
  top : v.ownBlock ≠ some g
  row : ∀ i, i < fs.length → (fs.getD i undef).ownBlock ≠ some g
theorem OwnSS.fsl {w : World} {base : Nat} {tt ti : TypeId} {v : Value} {ls : List (List Int)} {k : Nat} {fs : List Value} (h : OwnSS w base tt ti v ls k fs) : fs.length = ls.length := by have := h.top.1; omega
theorem OwnSS.setOff {w : World} {base g : Nat} {tt ti : TypeId} {v : Value} {ls : List (List Int)} {fs : List Value} (h : OwnSS w base tt ti v ls ls.length fs) (o : Off g v fs) {off : Nat} (z : Value) : OwnSS (w.setCell ⟨g, off, none⟩ z) base tt ti v ls ls.length fs :=
  ⟨ownsRow_setCell_other h.top o.top _, fun i hi => ownsRow_setCell_other (h.row i hi) (o.row i (by rw [h.fsl]; exact hi)) _, h.apart, h.off, h.rest⟩
def CnfIn (w : World) (base go : Nat) (mc : Int) (L : List (List Int)) : Prop :=
  ∃ g cap fs, Blk w go (.int .i64 mc) (.slice (some ⟨g, 0, none⟩) L.length cap) 54 ∧ OwnSS w base 30 3 (.slice (some ⟨g, 0, none⟩) L.length cap) L L.length fs ∧ Off go (.slice (some ⟨g, 0, none⟩) L.length cap) fs
theorem CnfIn.below {w w' : World} {base go : Nat} {mc : Int} {L : List (List Int)} (h : CnfIn w base go mc L) (hb : Below w.heap.size w w') : CnfIn w' base go mc L := by
  obtain ⟨g, cap, fs, h1, h2, h3⟩ := h
  exact ⟨g, cap, fs, h1.keep hb, h2.below hb, h3⟩
theorem CnfIn.step {wr W w6 : World} {base go g g6 cap cap6 n : Nat} {mc : Int} {L rs : List (List Int)} {fs ns : List Value}
    (hB : Blk wr go (.int .i64 mc) (.slice (some ⟨g, 0, none⟩) L.length cap) 54) (hO : OwnSS wr base 30 3 (.slice (some ⟨g, 0, none⟩) L.length cap) L L.length fs) (hF : Off go (.slice (some ⟨g, 0, none⟩) L.length cap) fs)
    (hb : Below wr.heap.size wr W) (hN : NewRows W wr.heap.size 3 rs ns) (hn : rs.length = n) (hbase : base ≤ wr.heap.size)
    (ht : w6.ownsRow base 30 1 (.slice (some ⟨g6, 0, none⟩) (L.length + n) cap6) (L.length + n) (fs ++ ns)) (hg : W.grownBy w6 (Value.slice (some ⟨g, 0, none⟩) L.length cap).ownBlock) (hat : (Value.slice (some ⟨g, 0, none⟩) L.length cap).ownBlock = some g6 ∨ g6 = W.heap.size) :
    Blk w6 go (.int .i64 mc) (.slice (some ⟨g, 0, none⟩) L.length cap) 54 ∧ CnfIn (w6.setCell ⟨go, 1, none⟩ (.slice (some ⟨g6, 0, none⟩) (L.length + n) cap6)) base go mc (L ++ rs) := by
  subst hn
  have hgo := hB.lt
  have hsz := hb.size
  have hB6 := blk_row (hB.keep hb) hg hF.top
  have hO6 := hO.append hb hN hbase ht hg hat rfl
  have hF6 : Off go (.slice (some ⟨g6, 0, none⟩) (L.length + rs.length) cap6) (fs ++ ns) := by
    refine ⟨?_, fun i hi => ?_⟩
    · rcases hat with e | e
      · have := hF.top
        rw [e] at this
        exact this
      · intro e2
        simp [Value.ownBlock] at e2
        omega
    · rw [List.length_append] at hi
      by_cases e : i < fs.length
      · rw [getD_app_l e]; exact hF.row i e
      · rw [getD_app_r (by omega)]
        intro e2
        have hi2 : i - fs.length < rs.length := by have := hN.len; omega
        have := (hN.row _ hi2).lt go e2
        omega
  refine ⟨hB6, g6, cap6, fs ++ ns, ?_, ?_, ?_⟩
  · have := hB6.set1 (.slice (some ⟨g6, 0, none⟩) (L.length + rs.length) cap6)
    rw [List.length_append]
    exact this
  · have := hO6.setOff hF6 (off := 1) (.slice (some ⟨g6, 0, none⟩) (L.length + rs.length) cap6)
    rw [List.length_append] at this ⊢
    exact this
  · rw [List.length_append]
    exact hF6
theorem alloc_size (w : World) (o : Obj) : (w.alloc o).heap.size = w.heap.size + 1 := by simp
theorem CnfIn.start (w : World) (mc : Int) : CnfIn (((w.alloc (.cells #[.int .i64 1] 3)).alloc (.cells #[.slice (some ⟨w.heap.size, 0, none⟩) 1 1] 30)).alloc (.cells #[.int .i64 mc, .slice (some ⟨w.heap.size + 1, 0, none⟩) 1 1] 54)) w.heap.size (w.heap.size + 1 + 1) mc [[1]] := by
  have h1 := (NewRows.nil w w.heap.size 3).snoc (n := 1) (Nat.le_refl _) (l := [1]) rfl (by decide)
  have h2 := h1.top (tt := 30) (n := 1) (by simp only [alloc_size]; omega) rfl (by decide)
  simp only [alloc_size] at h2
  refine ⟨w.heap.size + 1, 1, _, blk_new2 _ _ _ _ _ _, h2.below (below_self_alloc _ _), ?_, fun i hi => ?_⟩
  · exact fun e => by simp [Value.ownBlock] at e; try omega
  · obtain rfl : i = 0 := by simp at hi; omega
    exact fun e => by simp [Value.ownBlock] at e; try omega
theorem rows_xor (w : World) (x y K : Int) : NewRows ((((w.alloc (.cells #[.int .i64 (x), .int .i64 (y), .int .i64 (-K)] 3)).alloc (.cells #[.int .i64 (-x), .int .i64 (-y), .int .i64 (-K)] 3)).alloc (.cells #[.int .i64 (-x), .int .i64 (y), .int .i64 (K)] 3)).alloc (.cells #[.int .i64 (x), .int .i64 (-y), .int .i64 (K)] 3)) w.heap.size 3 [[x, y, -K], [-x, -y, -K], [-x, y, K], [x, -y, K]] [.slice (some ⟨w.heap.size, 0, none⟩) 3 3, .slice (some ⟨w.heap.size + 1, 0, none⟩) 3 3, .slice (some ⟨w.heap.size + 1 + 1, 0, none⟩) 3 3, .slice (some ⟨w.heap.size + 1 + 1 + 1, 0, none⟩) 3 3] := by
  have h0 := NewRows.nil w w.heap.size 3
  have h1 := h0.snoc (n := 3) (by first | exact Nat.le_refl _ | (simp only [alloc_size]; omega)) (l := [x, y, -K]) rfl (by decide)
  have h2 := h1.snoc (n := 3) (by first | exact Nat.le_refl _ | (simp only [alloc_size]; omega)) (l := [-x, -y, -K]) rfl (by decide)
  have h3 := h2.snoc (n := 3) (by first | exact Nat.le_refl _ | (simp only [alloc_size]; omega)) (l := [-x, y, K]) rfl (by decide)
  have h4 := h3.snoc (n := 3) (by first | exact Nat.le_refl _ | (simp only [alloc_size]; omega)) (l := [x, -y, K]) rfl (by decide)
  simp only [alloc_size] at h4
  exact h4
theorem rows_and (w : World) (x y K : Int) : NewRows (((w.alloc (.cells #[.int .i64 (x), .int .i64 (-K)] 3)).alloc (.cells #[.int .i64 (y), .int .i64 (-K)] 3)).alloc (.cells #[.int .i64 (-x), .int .i64 (-y), .int .i64 (K)] 3)) w.heap.size 3 [[x, -K], [y, -K], [-x, -y, K]] [.slice (some ⟨w.heap.size, 0, none⟩) 2 2, .slice (some ⟨w.heap.size + 1, 0, none⟩) 2 2, .slice (some ⟨w.heap.size + 1 + 1, 0, none⟩) 3 3] := by
  have h0 := NewRows.nil w w.heap.size 3
  have h1 := h0.snoc (n := 2) (by first | exact Nat.le_refl _ | (simp only [alloc_size]; omega)) (l := [x, -K]) rfl (by decide)
  have h2 := h1.snoc (n := 2) (by first | exact Nat.le_refl _ | (simp only [alloc_size]; omega)) (l := [y, -K]) rfl (by decide)
  have h3 := h2.snoc (n := 3) (by first | exact Nat.le_refl _ | (simp only [alloc_size]; omega)) (l := [-x, -y, K]) rfl (by decide)
  simp only [alloc_size] at h3
  exact h3

def NewCnf (m : Int) (ls : List (List Int)) (w : World) (e : Ending) (w' : World) : Prop := ∃ v fs, e = .returned (.agg #[.int .i64 m, v]) ∧ OwnSS w' w.heap.size 30 3 v ls ls.length fs ∧ Below w.heap.size w w'

set_option linter.unusedVariables false in
set_option maxRecDepth 100000 in
set_option maxHeartbeats 8000000 in
theorem l6Cnf_any (m : Int) (v : Value) (gs : List Gt) (w : World) (h : Gates w v gs) (hin : NetIn m gs) :
    Calls Try.prog 56 #[.agg #[.int .i64 m, v]] w (NewCnf (1 + m + gs.length) (cnfTo m gs gs.length) w) := by
  obtain ⟨⟨m0, m8, l6⟩, _⟩ := id hin
  have hbd := Lib.hid (fun k (hk : k < gs.length) => gate_bd hin hk)
  obtain ⟨a, cap, rfl⟩ := h.form
  obtain ⟨i0, hi, hz0, hz1, hz2⟩ := info_parts infoInts
  clear hin
  have hbA := below_self_alloc w (.cells #[.int .i64 m, .slice a gs.length cap] 39)
  have A := (blk_new w (.int .i64 m) (.slice a gs.length cap) 39).alloc (.cells #[.int .i64 0, .slice none 0 0] 54)
  have R := blk_new1 w (.cells #[.int .i64 m, .slice a gs.length cap] 39) (.int .i64 0) (.slice none 0 0) 54
  have B : Below w.heap.size w ((w.alloc (.cells #[.int .i64 m, .slice a gs.length cap] 39)).alloc (.cells #[.int .i64 0, .slice none 0 0] 54)) := below_step hbA _
  replace h := h.below B
  obtain ⟨A0, A1, A2⟩ := A.cells
  go_enter Try.func56, Try.ntmps56
  go_wp2_with fail
  refine (l6Many_any m _ gs _ h m0 (by omega) (by omega)).mono ?_; rintro e w1 ⟨rfl, hb⟩
  have gl1 : w.heap.size + 1 < w1.heap.size := by have := hb.size; simp at this; omega
  replace A := A.keep hb
  replace R := R.keep hb
  replace B := below_two B hb
  replace h := h.below hb
  clear hb A0 A1 A2
  obtain ⟨A0, A1, A2⟩ := A.cells
  obtain ⟨mc, hmc⟩ : ∃ mc, mc = 1 + m + (gs.length : Int) := ⟨_, rfl⟩
  rw [← hmc]
  have HMC := Lib.hid hmc
  clear hmc
  have CI := Lib.hid (CnfIn.start w1 mc)
  have hbS : Below w1.heap.size w1 (((w1.alloc (.cells #[.int .i64 1] 3)).alloc (.cells #[.slice (some ⟨w1.heap.size, 0, none⟩) 1 1] 30)).alloc (.cells #[.int .i64 mc, .slice (some ⟨w1.heap.size + 1, 0, none⟩) 1 1] 54)) := by
    repeat' (first | exact Below.refl _ _ | with_reducible apply below_step)
  have HBS := Lib.hid hbS
  clear hbS
  go_wp2_with fail
  go_loopw [4] (fun i wr => ∃ k : Nat, i = .int .i64 k ∧ k ≤ gs.length ∧ Hid (CnfIn wr w1.heap.size (w1.heap.size + 1 + 1) mc (cnfTo m gs k)) ∧ Below w1.heap.size w1 wr) (fun i _ => gs.length - (intOf i).toNat)
  case atStart => exact ⟨0, rfl, Nat.zero_le _, CI, HBS.out⟩
  case round =>
    obtain ⟨k, rfl, hk, HC, B1⟩ := hrel
    clear A0 A1 A2 CI HBS
    have Ar := A.keep B1
    have hr := h.below B1
    obtain ⟨A0, A1, A2⟩ := Ar.cells
    by_cases hlt : k < gs.length
    · obtain ⟨bb, off, rfl, hbl, c4, c5, c6⟩ := RowS.three (Gates.row hr) hlt
      obtain ⟨⟨d1, d2⟩, d3, d4⟩ := hbd.out k hlt
      have CS : Hid (cnfTo m gs (k + 1) = cnfTo m gs k ++ clau (gs.getD k gz) (2 + m + k)) := rfl
      obtain ⟨y, hy⟩ : ∃ y, y = gs.getD k gz := ⟨_, rfl⟩
      rw [← hy] at c4 c5 c6 d1 d2 d3 d4 CS
      clear hy hr
      obtain ⟨x0, x1, x2⟩ := y
      dsimp only at c4 c5 c6 d1 d2 d3 d4
      have hll := cnfTo_len m gs k
      generalize cnfTo m gs k = L at *
      obtain ⟨g, cp, fs, hB, hO, hF⟩ := HC.out
      obtain ⟨b0, b1, b2⟩ := hB.cells
      obtain ⟨f0, f1⟩ := hB.frozen
      have hk1 : (k : Int) < (gs.length : Int) := by omega
      have hk2 : (0 : Int) ≤ (k : Int) := by omega
      have hll2 : L.length ≤ 2500 := by omega
      have hsz := B1.size
      clear hll HC
      cases x0
      · have hN := (rows_and wr x1 x2 (2 + m + (k : Int))).below (below_self_alloc _ (.cells #[.slice (some ⟨wr.heap.size, 0, none⟩) 2 2, .slice (some ⟨wr.heap.size + 1, 0, none⟩) 2 2, .slice (some ⟨wr.heap.size + 1 + 1, 0, none⟩) 3 3] 30))
        have hb5 : Below wr.heap.size wr ((((wr.alloc (.cells #[.int .i64 (x1), .int .i64 (-(2 + m + (k : Int)))] 3)).alloc (.cells #[.int .i64 (x2), .int .i64 (-(2 + m + (k : Int)))] 3)).alloc (.cells #[.int .i64 (-x1), .int .i64 (-x2), .int .i64 ((2 + m + (k : Int)))] 3)).alloc (.cells #[.slice (some ⟨wr.heap.size, 0, none⟩) 2 2, .slice (some ⟨wr.heap.size + 1, 0, none⟩) 2 2, .slice (some ⟨wr.heap.size + 1 + 1, 0, none⟩) 3 3] 30)) := by
          repeat' (first | exact Below.refl _ _ | with_reducible apply below_step)
        have own5 : ((((wr.alloc (.cells #[.int .i64 (x1), .int .i64 (-(2 + m + (k : Int)))] 3)).alloc (.cells #[.int .i64 (x2), .int .i64 (-(2 + m + (k : Int)))] 3)).alloc (.cells #[.int .i64 (-x1), .int .i64 (-x2), .int .i64 ((2 + m + (k : Int)))] 3)).alloc (.cells #[.slice (some ⟨wr.heap.size, 0, none⟩) 2 2, .slice (some ⟨wr.heap.size + 1, 0, none⟩) 2 2, .slice (some ⟨wr.heap.size + 1 + 1, 0, none⟩) 3 3] 30)).ownsRow w1.heap.size 30 1 (.slice (some ⟨g, 0, none⟩) L.length cp) L.length fs := own_keep hO.top hb5
        have hnew : ∀ j u, (([.slice (some ⟨wr.heap.size, 0, none⟩) 2 2, .slice (some ⟨wr.heap.size + 1, 0, none⟩) 2 2, .slice (some ⟨wr.heap.size + 1 + 1, 0, none⟩) 3 3] : List Value))[j]? = some u → ((((wr.alloc (.cells #[.int .i64 (x1), .int .i64 (-(2 + m + (k : Int)))] 3)).alloc (.cells #[.int .i64 (x2), .int .i64 (-(2 + m + (k : Int)))] 3)).alloc (.cells #[.int .i64 (-x1), .int .i64 (-x2), .int .i64 ((2 + m + (k : Int)))] 3)).alloc (.cells #[.slice (some ⟨wr.heap.size, 0, none⟩) 2 2, .slice (some ⟨wr.heap.size + 1, 0, none⟩) 2 2, .slice (some ⟨wr.heap.size + 1 + 1, 0, none⟩) 3 3] 30)).cell? ((⟨wr.heap.size + 1 + 1 + 1, 0, none⟩ : Addr).add j) = some u := World.news_of_block (by have := heap_alloc_new (((wr.alloc (.cells #[.int .i64 (x1), .int .i64 (-(2 + m + (k : Int)))] 3)).alloc (.cells #[.int .i64 (x2), .int .i64 (-(2 + m + (k : Int)))] 3)).alloc (.cells #[.int .i64 (-x1), .int .i64 (-x2), .int .i64 ((2 + m + (k : Int)))] 3)) (.cells #[.slice (some ⟨wr.heap.size, 0, none⟩) 2 2, .slice (some ⟨wr.heap.size + 1, 0, none⟩) 2 2, .slice (some ⟨wr.heap.size + 1 + 1, 0, none⟩) 3 3] 30); simp only [alloc_size] at this; exact this)
        have HN := Lib.hid hN
        have HB := Lib.hid hB
        have HO := Lib.hid hO
        have HF := Lib.hid hF
        have H5 := Lib.hid hb5
        clear hN hB hO hF hb5
        go_wp2_with (at_builtin; refine wpList_append_lies _ rfl _ _ 52 rfl w1.heap.size 30 i0 (.slice none 0 0) 1 24 Try.underlying52 hi hz0 hz1 hz2 rfl (by decide) _ L.length fs rfl own5 ⟨wr.heap.size + 1 + 1 + 1, 0, none⟩ 3 3 [.slice (some ⟨wr.heap.size, 0, none⟩) 2 2, .slice (some ⟨wr.heap.size + 1, 0, none⟩) 2 2, .slice (some ⟨wr.heap.size + 1 + 1, 0, none⟩) 3 3] rfl rfl hnew (by intro u hu; simp at hu; rcases hu with rfl | rfl | rfl <;> rfl) (by decide) (by unfold maxLen; omega) (by omega) (by simp; omega) _ rfl ?_; intro g6 cap6 w6 own6 hg6 hat6 hlt6; refine Hid.out ?_)
        refine Lib.hid ?_
        obtain ⟨hB6, hC6⟩ := CnfIn.step HB.out HO.out HF.out H5.out HN.out rfl hsz own6 hg6 hat6
        obtain ⟨r0, r1, r2⟩ := hB6.cells
        obtain ⟨s0, s1⟩ := hB6.frozen
        have HC6 := Lib.hid hC6
        have B6 : Below w1.heap.size w1 w6 := (below_two B1 H5.out).grown hg6 (below_two B1 H5.out).size (fun q hq => (own5.lt q hq).1)
        have B7 := B6.setCell (p := ⟨w1.heap.size + 1 + 1, 1, none⟩) (by show w1.heap.size ≤ w1.heap.size + 1 + 1; omega) (.slice (some ⟨g6, 0, none⟩) (L.length + 3) cap6)
        clear hC6 hB6 own6 hg6 hat6 own5 hnew HN HB HO HF H5 B6 B1 b0 b1 b2 f0 f1
        go_wp2_with fail
        exact ⟨⟨k + 1, by go_num, by omega, by rw [CS.out]; exact HC6, B7⟩, by simp [intOf]; omega⟩
      · have hN := (rows_xor wr x1 x2 (2 + m + (k : Int))).below (below_self_alloc _ (.cells #[.slice (some ⟨wr.heap.size, 0, none⟩) 3 3, .slice (some ⟨wr.heap.size + 1, 0, none⟩) 3 3, .slice (some ⟨wr.heap.size + 1 + 1, 0, none⟩) 3 3, .slice (some ⟨wr.heap.size + 1 + 1 + 1, 0, none⟩) 3 3] 30))
        have hb5 : Below wr.heap.size wr (((((wr.alloc (.cells #[.int .i64 (x1), .int .i64 (x2), .int .i64 (-(2 + m + (k : Int)))] 3)).alloc (.cells #[.int .i64 (-x1), .int .i64 (-x2), .int .i64 (-(2 + m + (k : Int)))] 3)).alloc (.cells #[.int .i64 (-x1), .int .i64 (x2), .int .i64 ((2 + m + (k : Int)))] 3)).alloc (.cells #[.int .i64 (x1), .int .i64 (-x2), .int .i64 ((2 + m + (k : Int)))] 3)).alloc (.cells #[.slice (some ⟨wr.heap.size, 0, none⟩) 3 3, .slice (some ⟨wr.heap.size + 1, 0, none⟩) 3 3, .slice (some ⟨wr.heap.size + 1 + 1, 0, none⟩) 3 3, .slice (some ⟨wr.heap.size + 1 + 1 + 1, 0, none⟩) 3 3] 30)) := by
          repeat' (first | exact Below.refl _ _ | with_reducible apply below_step)
        have own5 : (((((wr.alloc (.cells #[.int .i64 (x1), .int .i64 (x2), .int .i64 (-(2 + m + (k : Int)))] 3)).alloc (.cells #[.int .i64 (-x1), .int .i64 (-x2), .int .i64 (-(2 + m + (k : Int)))] 3)).alloc (.cells #[.int .i64 (-x1), .int .i64 (x2), .int .i64 ((2 + m + (k : Int)))] 3)).alloc (.cells #[.int .i64 (x1), .int .i64 (-x2), .int .i64 ((2 + m + (k : Int)))] 3)).alloc (.cells #[.slice (some ⟨wr.heap.size, 0, none⟩) 3 3, .slice (some ⟨wr.heap.size + 1, 0, none⟩) 3 3, .slice (some ⟨wr.heap.size + 1 + 1, 0, none⟩) 3 3, .slice (some ⟨wr.heap.size + 1 + 1 + 1, 0, none⟩) 3 3] 30)).ownsRow w1.heap.size 30 1 (.slice (some ⟨g, 0, none⟩) L.length cp) L.length fs := own_keep hO.top hb5
        have hnew : ∀ j u, (([.slice (some ⟨wr.heap.size, 0, none⟩) 3 3, .slice (some ⟨wr.heap.size + 1, 0, none⟩) 3 3, .slice (some ⟨wr.heap.size + 1 + 1, 0, none⟩) 3 3, .slice (some ⟨wr.heap.size + 1 + 1 + 1, 0, none⟩) 3 3] : List Value))[j]? = some u → (((((wr.alloc (.cells #[.int .i64 (x1), .int .i64 (x2), .int .i64 (-(2 + m + (k : Int)))] 3)).alloc (.cells #[.int .i64 (-x1), .int .i64 (-x2), .int .i64 (-(2 + m + (k : Int)))] 3)).alloc (.cells #[.int .i64 (-x1), .int .i64 (x2), .int .i64 ((2 + m + (k : Int)))] 3)).alloc (.cells #[.int .i64 (x1), .int .i64 (-x2), .int .i64 ((2 + m + (k : Int)))] 3)).alloc (.cells #[.slice (some ⟨wr.heap.size, 0, none⟩) 3 3, .slice (some ⟨wr.heap.size + 1, 0, none⟩) 3 3, .slice (some ⟨wr.heap.size + 1 + 1, 0, none⟩) 3 3, .slice (some ⟨wr.heap.size + 1 + 1 + 1, 0, none⟩) 3 3] 30)).cell? ((⟨wr.heap.size + 1 + 1 + 1 + 1, 0, none⟩ : Addr).add j) = some u := World.news_of_block (by have := heap_alloc_new ((((wr.alloc (.cells #[.int .i64 (x1), .int .i64 (x2), .int .i64 (-(2 + m + (k : Int)))] 3)).alloc (.cells #[.int .i64 (-x1), .int .i64 (-x2), .int .i64 (-(2 + m + (k : Int)))] 3)).alloc (.cells #[.int .i64 (-x1), .int .i64 (x2), .int .i64 ((2 + m + (k : Int)))] 3)).alloc (.cells #[.int .i64 (x1), .int .i64 (-x2), .int .i64 ((2 + m + (k : Int)))] 3)) (.cells #[.slice (some ⟨wr.heap.size, 0, none⟩) 3 3, .slice (some ⟨wr.heap.size + 1, 0, none⟩) 3 3, .slice (some ⟨wr.heap.size + 1 + 1, 0, none⟩) 3 3, .slice (some ⟨wr.heap.size + 1 + 1 + 1, 0, none⟩) 3 3] 30); simp only [alloc_size] at this; exact this)
        have HN := Lib.hid hN
        have HB := Lib.hid hB
        have HO := Lib.hid hO
        have HF := Lib.hid hF
        have H5 := Lib.hid hb5
        clear hN hB hO hF hb5
        go_wp2_with (at_builtin; refine wpList_append_lies _ rfl _ _ 52 rfl w1.heap.size 30 i0 (.slice none 0 0) 1 24 Try.underlying52 hi hz0 hz1 hz2 rfl (by decide) _ L.length fs rfl own5 ⟨wr.heap.size + 1 + 1 + 1 + 1, 0, none⟩ 4 4 [.slice (some ⟨wr.heap.size, 0, none⟩) 3 3, .slice (some ⟨wr.heap.size + 1, 0, none⟩) 3 3, .slice (some ⟨wr.heap.size + 1 + 1, 0, none⟩) 3 3, .slice (some ⟨wr.heap.size + 1 + 1 + 1, 0, none⟩) 3 3] rfl rfl hnew (by intro u hu; simp at hu; rcases hu with rfl | rfl | rfl | rfl <;> rfl) (by decide) (by unfold maxLen; omega) (by omega) (by simp; omega) _ rfl ?_; intro g6 cap6 w6 own6 hg6 hat6 hlt6; refine Hid.out ?_)
        refine Lib.hid ?_
        obtain ⟨hB6, hC6⟩ := CnfIn.step HB.out HO.out HF.out H5.out HN.out rfl hsz own6 hg6 hat6
        obtain ⟨r0, r1, r2⟩ := hB6.cells
        obtain ⟨s0, s1⟩ := hB6.frozen
        have HC6 := Lib.hid hC6
        have B6 : Below w1.heap.size w1 w6 := (below_two B1 H5.out).grown hg6 (below_two B1 H5.out).size (fun q hq => (own5.lt q hq).1)
        have B7 := B6.setCell (p := ⟨w1.heap.size + 1 + 1, 1, none⟩) (by show w1.heap.size ≤ w1.heap.size + 1 + 1; omega) (.slice (some ⟨g6, 0, none⟩) (L.length + 4) cap6)
        clear hC6 hB6 own6 hg6 hat6 own5 hnew HN HB HO HF H5 B6 B1 b0 b1 b2 f0 f1
        go_wp2_with fail
        exact ⟨⟨k + 1, by go_num, by omega, by rw [CS.out]; exact HC6, B7⟩, by simp [intOf]; omega⟩
    · obtain rfl : k = gs.length := by omega
      obtain ⟨g, cp, fs, hB, hO, hF⟩ := HC.out
      obtain ⟨b0, b1, b2⟩ := hB.cells
      have Rr := R.keep B1
      obtain ⟨r0, r1, r2⟩ := Rr.cells
      obtain ⟨s0, s1⟩ := Rr.frozen
      generalize cnfTo m gs gs.length = L at *
      have HO := Lib.hid hO
      have Rf := (Rr.set0 (.int .i64 mc)).set1 (.slice (some ⟨g, 0, none⟩) L.length cp)
      obtain ⟨t0, t1, t2⟩ := Rf.cells
      have hO2 := ((hO.setBelow (a := ⟨w.heap.size + 1, 0, none⟩) (by show w.heap.size + 1 < _; omega) (.int .i64 mc)).setBelow (a := ⟨w.heap.size + 1, 1, none⟩) (by show w.heap.size + 1 < _; omega) (.slice (some ⟨g, 0, none⟩) L.length cp)).le (show w.heap.size ≤ w1.heap.size by omega)
      have Bf := ((below_two B B1).setCell (p := ⟨w.heap.size + 1, 0, none⟩) (Nat.le_succ _) (.int .i64 mc)).setCell (p := ⟨w.heap.size + 1, 1, none⟩) (Nat.le_succ _) (.slice (some ⟨g, 0, none⟩) L.length cp)
      have FIN : Hid (NewCnf mc L w (.returned (.agg #[.int .i64 mc, .slice (some ⟨g, 0, none⟩) L.length cp])) ((wr.setCell ⟨w.heap.size + 1, 0, none⟩ (.int .i64 mc)).setCell ⟨w.heap.size + 1, 1, none⟩ (.slice (some ⟨g, 0, none⟩) L.length cp))) := ⟨_, fs, rfl, hO2, Bf⟩
      clear HC hB hO hF HO hO2 Bf Rf
      go_wp2_with fail
      exact bodyPost_ret (v := .agg #[.int .i64 mc, .slice (some ⟨g, 0, none⟩) L.length cp]) (by simp [results, Try.results56, go_sem, t0, t1]) rfl (by rw [← HMC.out]; exact FIN.out)
theorem OwnSS.nilrow (w : World) (base : Nat) (tt ti : TypeId) : OwnSS w base tt ti (.slice none 0 0) [] 0 [] :=
  ⟨World.ownsRow_nil _ _ _ _, fun i hi => absurd hi (Nat.not_lt_zero _), fun i j _ hj => absurd hj (Nat.not_lt_zero _), fun i hi => absurd hi (Nat.not_lt_zero _), fun i _ hi => absurd hi (Nat.not_lt_zero _)⟩
set_option linter.unusedVariables false in
set_option maxRecDepth 100000 in
set_option maxHeartbeats 4000000 in
theorem netCnf_spec (m : Int) (v : Value) (gs : List Gt) (w : World) (h : Gates w v gs) :
    Calls Try.prog 30 #[.agg #[.int .i64 m, v]] w (NewCnf (cnfM m gs) (cnfL m gs) w) := by
  have O := Lib.hid (fun w' h' => netOk_spec m v gs w' h')
  have C := Lib.hid (fun w' h' (hin : NetIn m gs) => l6Cnf_any m v gs w' h' hin)
  obtain ⟨a, cap, rfl⟩ := h.form
  have hbA := below_self_alloc w (.cells #[.int .i64 m, .slice a gs.length cap] 39)
  have A := (blk_new w (.int .i64 m) (.slice a gs.length cap) 39).alloc (.cells #[.int .i64 0, .slice none 0 0] 54)
  have R := blk_new1 w (.cells #[.int .i64 m, .slice a gs.length cap] 39) (.int .i64 0) (.slice none 0 0) 54
  have B : Below w.heap.size w ((w.alloc (.cells #[.int .i64 m, .slice a gs.length cap] 39)).alloc (.cells #[.int .i64 0, .slice none 0 0] 54)) := below_step hbA _
  replace h := h.below B
  obtain ⟨A0, A1, A2⟩ := A.cells
  obtain ⟨z, hz⟩ : ∃ z, z = netV m gs := ⟨_, rfl⟩
  rw [← hz] at O
  obtain ⟨mc, hmc⟩ : ∃ mc, mc = cnfM m gs := ⟨_, rfl⟩
  obtain ⟨L, hL⟩ : ∃ L, L = cnfL m gs := ⟨_, rfl⟩
  rw [← hmc, ← hL]
  have HZ := Lib.hid hz
  have HMC := Lib.hid hmc
  have HL := Lib.hid hL
  clear hz hmc hL hbA
  go_enter Try.func30, Try.ntmps30
  go_wp2_with fail
  refine (O.out _ h).mono ?_; rintro e w1 ⟨rfl, hb⟩
  have gl1 : w.heap.size + 1 < w1.heap.size := by have := hb.size; simp at this; omega
  replace A := A.keep hb
  replace R := R.keep hb
  replace B := below_two B hb
  replace h := h.below hb
  clear hb A0 A1 A2 O
  obtain ⟨A0, A1, A2⟩ := A.cells
  obtain ⟨r0, r1, r2⟩ := R.cells
  obtain ⟨s0, s1⟩ := R.frozen
  cases z
  · obtain rfl : mc = 0 := by rw [HMC.out]; unfold cnfM; rw [← HZ.out]; rfl
    obtain rfl : L = [] := by rw [HL.out]; unfold cnfL; rw [← HZ.out]; rfl
    have Rf := (R.set0 (.int .i64 0)).set1 (.slice none 0 0)
    obtain ⟨t0, t1, t2⟩ := Rf.cells
    have Bf := (B.setCell (p := ⟨w.heap.size + 1, 0, none⟩) (Nat.le_succ _) (.int .i64 0)).setCell (p := ⟨w.heap.size + 1, 1, none⟩) (Nat.le_succ _) (.slice none 0 0)
    clear HZ HMC HL C
    go_wp2_with fail
    exact bodyPost_ret (v := .agg #[.int .i64 0, .slice none 0 0]) (by simp [results, Try.results30, go_sem, t0, t1]) rfl ⟨_, [], rfl, OwnSS.nilrow _ _ _ _, Bf⟩
  · have hin := netV_true.1 HZ.out.symm
    have e1 : 1 + m + (gs.length : Int) = mc := by rw [HMC.out]; unfold cnfM; rw [← HZ.out]; rfl
    have e2 : cnfTo m gs gs.length = L := by rw [HL.out]; unfold cnfL; rw [← HZ.out]; rfl
    have D := C.out _ h hin
    rw [e1, e2] at D
    have DD := Lib.hid D
    clear HZ HMC HL C D e1 e2 hin r0 r1 r2 s0 s1
    go_wp2_with fail
    refine DD.out.mono ?_; rintro e w2 ⟨u, fs, rfl, hO, hb⟩
    obtain ⟨ua, uc, rfl, _⟩ := Row.of_own hO.top
    replace R := R.keep hb
    replace B := below_two B hb
    clear DD hb A0 A1 A2
    obtain ⟨r0, r1, r2⟩ := R.cells
    obtain ⟨s0, s1⟩ := R.frozen
    have Rf := (R.set0 (.int .i64 mc)).set1 (.slice ua L.length uc)
    obtain ⟨t0, t1, t2⟩ := Rf.cells
    have hO2 := ((hO.setBelow (a := ⟨w.heap.size + 1, 0, none⟩) (by show w.heap.size + 1 < _; omega) (.int .i64 mc)).setBelow (a := ⟨w.heap.size + 1, 1, none⟩) (by show w.heap.size + 1 < _; omega) (.slice ua L.length uc)).le (show w.heap.size ≤ w1.heap.size by omega)
    have Bf := (B.setCell (p := ⟨w.heap.size + 1, 0, none⟩) (Nat.le_succ _) (.int .i64 mc)).setCell (p := ⟨w.heap.size + 1, 1, none⟩) (Nat.le_succ _) (.slice ua L.length uc)
    have HO2 := Lib.hid hO2
    clear hO hO2
    go_wp2_with fail
    exact bodyPost_ret (v := .agg #[.int .i64 mc, .slice ua L.length uc]) (by simp [results, Try.results30, go_sem, t0, t1]) rfl ⟨_, fs, rfl, HO2.out, Bf⟩
end Go.Proofs.Yteeaafdgkepaeaa
