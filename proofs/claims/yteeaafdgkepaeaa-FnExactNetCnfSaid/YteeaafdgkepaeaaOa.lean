/- Rows of rows of ints: what they read as, rows that are appended, marks. The conditions stand in each statement. -/
import Derived.Test.YteeaafdgkepaeaaNz
import Derived.OneCell
import Derived.Lib.SmallJoins
namespace Go.Proofs.Yteeaafdgkepaeaa
open Go.RowKit

theorem drop_at {α : Type} {l : List α} (d : α) {k : Nat} (hk : k < l.length) : l.drop k = l.getD k d :: l.drop (k + 1) := by
  rw [List.drop_eq_getElem_cons hk, List.getD_eq_getElem?_getD, List.getElem?_eq_getElem hk]; rfl
theorem drop_end {α : Type} (l : List α) : l.drop l.length = [] := by simp
def IntSS (w : World) (v : Value) (ls : List (List Int)) : Prop :=
  ∃ a cap f, v = .slice a ls.length cap ∧ Row w a ls.length cap f ∧ ∀ i, i < ls.length → Ints w (f i) (ls.getD i [])
theorem IntSS.below {w w' : World} {v : Value} {l : List (List Int)} (h : IntSS w v l) (hb : Below w.heap.size w w') : IntSS w' v l := by
  obtain ⟨a, cap, f, rfl, h, hi⟩ := h; exact ⟨a, cap, f, rfl, h.below hb, fun i h => (hi i h).below hb⟩
theorem IntSS.drew {w : World} {v : Value} {l : List (List Int)} (h : IntSS w v l) : IntSS w.drew v l := h
theorem IntSS.len {w : World} {v : Value} {l : List (List Int)} (h : IntSS w v l) : l.length ≤ 9223372036854775807 := by
  obtain ⟨a, cap, f, rfl, ⟨h1, h2, _⟩, _⟩ := h; unfold maxLen at h2; omega
theorem grown_of_below {w w' : World} (h : Below w.heap.size w w') : w.grownBy w' none := ⟨h.os, h.tape, h.output, h.size, fun k hk _ => h.block k hk⟩
theorem own_keep {w w' : World} {base size n : Nat} {e : TypeId} {v : Value} {xs : List Value} (h : w.ownsRow base e size v n xs) (hb : Below w.heap.size w w') : w'.ownsRow base e size v n xs :=
  h.kept (grown_of_below hb) (by cases hv : v.ownBlock <;> simp)
/-- an outer row of its own, whose first k elements are rows of their own, apart from one another -/
structure OwnSS (w : World) (base : Nat) (tt ti : TypeId) (v : Value) (ls : List (List Int)) (k : Nat) (fs : List Value) : Prop where
  top : w.ownsRow base tt 1 v ls.length fs
  row : ∀ i, i < k → w.ownsRow base ti 1 (fs.getD i undef) (ls.getD i []).length ((ls.getD i []).map (.int .i64))
  apart : ∀ i j, i < j → j < k → ∀ g, (fs.getD i undef).ownBlock = some g → (fs.getD j undef).ownBlock ≠ some g
  off : ∀ i, i < k → ∀ g, (fs.getD i undef).ownBlock = some g → v.ownBlock ≠ some g
  rest : ∀ i, k ≤ i → i < ls.length → fs.getD i undef = .slice none 0 0
theorem OwnSS.below {w w' : World} {base : Nat} {tt ti : TypeId} {v : Value} {ls : List (List Int)} {k : Nat} {fs : List Value} (h : OwnSS w base tt ti v ls k fs) (hb : Below w.heap.size w w') : OwnSS w' base tt ti v ls k fs :=
  ⟨own_keep h.top hb, fun i hi => own_keep (h.row i hi) hb, h.apart, h.off, h.rest⟩
theorem OwnSS.ints {w : World} {base : Nat} {tt ti : TypeId} {v : Value} {ls : List (List Int)} {fs : List Value} (h : OwnSS w base tt ti v ls ls.length fs) : IntSS w v ls := by
  obtain ⟨a, cap, rfl, hr⟩ := Row.of_own h.top
  exact ⟨a, cap, _, rfl, hr, fun i hi => Ints.of_own (h.row i hi)⟩
theorem IntSS.form {w : World} {v : Value} {l : List (List Int)} (h : IntSS w v l) : ∃ a cap, v = .slice a l.length cap := by
  obtain ⟨a, cap, _, rfl, _⟩ := h; exact ⟨a, cap, rfl⟩
/-- only blocks of S have turned, of those that were there -/
structure Only (S : Nat → Prop) (w w' : World) : Prop where
  os : w'.os = w.os
  tape : w'.tape = w.tape
  output : w'.output = w.output
  size : w.heap.size ≤ w'.heap.size
  block : ∀ k, k < w.heap.size → ¬ S k → w'.heap[k]? = w.heap[k]?
theorem Only.refl (S : Nat → Prop) (w : World) : Only S w w := ⟨rfl, rfl, rfl, Nat.le_refl _, fun _ _ _ => rfl⟩
theorem Only.grown {S : Nat → Prop} {w w1 w2 : World} {row : Option Nat} (h : Only S w w1) (hg : w1.grownBy w2 row) (hr : ∀ k, row = some k → S k) : Only S w w2 :=
  ⟨hg.os.trans h.os, hg.tape.trans h.tape, hg.output.trans h.output, Nat.le_trans h.size hg.size, fun k hk hs => (hg.block k (Nat.lt_of_lt_of_le hk h.size) (fun e => hs (hr k e.symm))).trans (h.block k hk hs)⟩
theorem Only.own {S : Nat → Prop} {w w' : World} {base size n : Nat} {e : TypeId} {v : Value} {xs : List Value} (h : w.ownsRow base e size v n xs) (ho : Only S w w') (hs : ∀ k, v.ownBlock = some k → ¬ S k) : w'.ownsRow base e size v n xs := by
  refine ⟨h.1, ?_⟩
  rcases h.2 with h2 | ⟨g, cap, cur, rfl, hb, hh, r⟩
  · exact .inl h2
  · exact .inr ⟨g, cap, cur, rfl, hb, (ho.block g (Array.getElem?_eq_some_iff.1 hh).1 (hs g rfl)).trans hh, r⟩
theorem Only.below {S : Nat → Prop} {a w w' : World} (h : Below a.heap.size a w) (ho : Only S w w') (hs : ∀ k, S k → a.heap.size ≤ k) : Below a.heap.size a w' :=
  ⟨ho.os.trans h.os, ho.tape.trans h.tape, ho.output.trans h.output, Nat.le_trans h.size ho.size, fun k hk => (ho.block k (Nat.lt_of_lt_of_le hk h.size) (fun e => by have := hs k e; omega)).trans (h.block k hk)⟩
theorem Only.blk {S : Nat → Prop} {w w' : World} {g : Nat} {x y : Value} {t : TypeId} (h : Blk w g x y t) (ho : Only S w w') (hs : ¬ S g) : Blk w' g x y t := by
  have := h.lt; unfold Blk at *; rw [ho.block g this hs]; exact h
/-- one of the rows -/
def rowOf (fs : List Value) (n : Nat) (k : Nat) : Prop := ∃ i, i < n ∧ (fs.getD i undef).ownBlock = some k
theorem rowOf_ge {w : World} {base : Nat} {tt ti : TypeId} {v : Value} {ls : List (List Int)} {fs : List Value} (h : OwnSS w base tt ti v ls ls.length fs) : ∀ k, rowOf fs ls.length k → base ≤ k ∧ k < w.heap.size := fun k ⟨i, hi, e⟩ => (h.row i hi).lt k e
theorem OwnSS.drew {w : World} {base : Nat} {tt ti : TypeId} {v : Value} {ls : List (List Int)} {k : Nat} {fs : List Value} (h : OwnSS w base tt ti v ls k fs) : OwnSS w.drew base tt ti v ls k fs := ⟨h.top, h.row, h.apart, h.off, h.rest⟩
theorem getD_app_l {α : Type} {l r : List α} {d : α} {i : Nat} (h : i < l.length) : (l ++ r).getD i d = l.getD i d := by
  rw [List.getD_eq_getElem?_getD, List.getD_eq_getElem?_getD, List.getElem?_append_left h]
theorem getD_app_r {α : Type} {l r : List α} {d : α} {i : Nat} (h : l.length ≤ i) : (l ++ r).getD i d = r.getD (i - l.length) d := by
  rw [List.getD_eq_getElem?_getD, List.getD_eq_getElem?_getD, List.getElem?_append_right h]
/-- rows of one's own, apart from one another -/
structure NewRows (w : World) (base : Nat) (ti : TypeId) (rs : List (List Int)) (gs : List Value) : Prop where
  len : gs.length = rs.length
  row : ∀ i, i < rs.length → w.ownsRow base ti 1 (gs.getD i undef) (rs.getD i []).length ((rs.getD i []).map (.int .i64))
  apart : ∀ i j, i < j → j < rs.length → ∀ g, (gs.getD i undef).ownBlock = some g → (gs.getD j undef).ownBlock ≠ some g
theorem OwnSS.news {w : World} {base : Nat} {tt ti : TypeId} {v : Value} {ls : List (List Int)} {fs : List Value} (h : OwnSS w base tt ti v ls ls.length fs) : NewRows w base ti ls fs :=
  ⟨by have := h.top.1; omega, h.row, h.apart⟩
theorem NewRows.below {w w' : World} {base : Nat} {ti : TypeId} {rs : List (List Int)} {gs : List Value} (h : NewRows w base ti rs gs) (hb : Below w.heap.size w w') : NewRows w' base ti rs gs :=
  ⟨h.len, fun i hi => own_keep (h.row i hi) hb, h.apart⟩
theorem NewRows.nil (w : World) (base : Nat) (ti : TypeId) : NewRows w base ti [] [] := ⟨rfl, fun i hi => absurd hi (Nat.not_lt_zero _), fun i j _ hj => absurd hj (Nat.not_lt_zero _)⟩
theorem own_alloc {w : World} {base n : Nat} {ti : TypeId} {xs : List Value} (hbase : base ≤ w.heap.size) (hn : xs.length = n) (hm : n ≤ 1048576) : (w.alloc (.cells xs.toArray ti)).ownsRow base ti 1 (.slice (some ⟨w.heap.size, 0, none⟩) n n) n xs := by
  subst hn
  exact ⟨by omega, .inr ⟨w.heap.size, xs.length, xs.toArray, rfl, hbase, heap_alloc_new w _, Nat.le_refl _, by unfold maxLen; omega, by simp, by simp⟩⟩
/-- a row more, just made -/
theorem NewRows.snoc {w : World} {base n : Nat} {ti : TypeId} {rs : List (List Int)} {gs : List Value} (h : NewRows w base ti rs gs) (hbase : base ≤ w.heap.size) {l : List Int} (hl : l.length = n) (hm : n ≤ 1048576) :
    NewRows (w.alloc (.cells (l.map (.int .i64)).toArray ti)) base ti (rs ++ [l]) (gs ++ [.slice (some ⟨w.heap.size, 0, none⟩) n n]) := by
  have hk := h.below (below_self_alloc w (.cells (l.map (Value.int .i64)).toArray ti))
  refine ⟨by simp [h.len], fun i hi => ?_, fun i j hij hj g hg => ?_⟩
  · by_cases e : i < rs.length
    · rw [getD_app_l e, getD_app_l (by rw [h.len]; exact e)]
      exact hk.row i e
    · obtain rfl : i = rs.length := by simp at hi; omega
      rw [getD_app_r (Nat.le_refl _), getD_app_r (by rw [h.len]; exact Nat.le_refl _), h.len, Nat.sub_self]
      show World.ownsRow _ _ _ _ (Value.slice _ _ _) l.length _
      rw [hl]
      exact own_alloc hbase (by simp [hl]) hm
  · by_cases e : j < rs.length
    · rw [getD_app_l (by rw [h.len]; omega)] at hg
      rw [getD_app_l (by rw [h.len]; omega)]
      exact h.apart i j hij e g hg
    · obtain rfl : j = rs.length := by simp at hj; omega
      rw [getD_app_l (by rw [h.len]; exact hij)] at hg
      rw [getD_app_r (by rw [h.len]; exact Nat.le_refl _), h.len, Nat.sub_self]
      have h1 := ((h.row i hij).lt g hg).2
      intro e2
      simp [Value.ownBlock] at e2
      omega
theorem OwnSS.append {w w1 w2 : World} {base g : Nat} {tt ti : TypeId} {v v2 : Value} {ls rs : List (List Int)} {fs gs : List Value} (h : OwnSS w base tt ti v ls ls.length fs) (hb : Below w.heap.size w w1) (hN : NewRows w1 w.heap.size ti rs gs) (hbase : base ≤ w.heap.size)
    (ht : w2.ownsRow base tt 1 v2 (ls.length + rs.length) (fs ++ gs)) (hg : w1.grownBy w2 v.ownBlock) (hv : v.ownBlock = some g ∨ g = w1.heap.size) (hv2 : v2.ownBlock = some g) : OwnSS w2 base tt ti v2 (ls ++ rs) (ls ++ rs).length (fs ++ gs) := by
  have hfl : fs.length = ls.length := by have := h.top.1; omega
  have kp : ∀ {n xs u}, w1.ownsRow base ti 1 u n xs → (∀ q, u.ownBlock = some q → v.ownBlock ≠ some q) → w2.ownsRow base ti 1 u n xs := fun ho hne => by
    refine ho.kept hg ?_
    rename_i u
    cases hu : u.ownBlock with
    | none => exact .inl rfl
    | some q => exact .inr (fun e => hne q hu e.symm)
  have oldlt : ∀ i, i < ls.length → ∀ q, (fs.getD i undef).ownBlock = some q → q < w.heap.size := fun i hi q hq => ((h.row i hi).lt q hq).2
  have newlt : ∀ i, i < rs.length → ∀ q, (gs.getD i undef).ownBlock = some q → w.heap.size ≤ q ∧ q < w1.heap.size := fun i hi q hq => (hN.row i hi).lt q hq
  have hvlt : ∀ q, v.ownBlock = some q → q < w.heap.size := fun q hq => (h.top.lt q hq).2
  have hsz := hb.size
  refine ⟨by rw [List.length_append]; exact ht, fun i hi => ?_, fun i j hij hj q hq => ?_, fun i hi q hq => ?_, fun i hi hi2 => absurd hi2 (by omega)⟩
  · rw [List.length_append] at hi
    by_cases e : i < ls.length
    · rw [getD_app_l e, getD_app_l (by omega)]
      exact kp (own_keep (h.row i e) hb) (fun q hq => h.off i e q hq)
    · rw [getD_app_r (by omega), getD_app_r (by omega), hfl]
      have hi2 : i - ls.length < rs.length := by omega
      refine kp (Go.Joins.ownsRow_le (hN.row _ hi2) hbase) (fun q hq e2 => ?_)
      have h1 := newlt _ hi2 q hq
      have h2 := hvlt q e2
      omega
  · rw [List.length_append] at hj
    by_cases e : j < ls.length
    · rw [getD_app_l (by omega)] at hq
      rw [getD_app_l (by omega)]
      exact h.apart i j hij e q hq
    · rw [getD_app_r (by omega), hfl]
      by_cases e2 : i < ls.length
      · rw [getD_app_l (by omega)] at hq
        intro e3
        have h1 := oldlt i e2 q hq
        have h2 := newlt (j - ls.length) (by omega) q e3
        omega
      · rw [getD_app_r (by omega), hfl] at hq
        exact hN.apart (i - ls.length) (j - ls.length) (by omega) (by omega) q hq
  · rw [List.length_append] at hi
    rw [hv2]
    by_cases e : i < ls.length
    · rw [getD_app_l (by omega)] at hq
      have h1 := oldlt i e q hq
      have h2 := h.off i e q hq
      rcases hv with hv | hv
      · rw [← hv]; exact h2
      · intro e3; cases e3; omega
    · rw [getD_app_r (by omega), hfl] at hq
      have h1 := newlt (i - ls.length) (by omega) q hq
      intro e3
      cases e3
      rcases hv with hv | hv
      · have := hvlt g hv; omega
      · omega
/-- an outer row that was just made of rows of one's own -/
theorem NewRows.top {w : World} {base n : Nat} {tt ti : TypeId} {rs : List (List Int)} {gs : List Value} (h : NewRows w base ti rs gs) (hbase : base ≤ w.heap.size) (hn : rs.length = n) (hm : n ≤ 1048576) :
    OwnSS (w.alloc (.cells gs.toArray tt)) base tt ti (.slice (some ⟨w.heap.size, 0, none⟩) n n) rs rs.length gs := by
  have hk := h.below (below_self_alloc w (.cells gs.toArray tt))
  refine ⟨by rw [hn]; exact own_alloc hbase (by rw [h.len, hn]) hm, hk.row, hk.apart, fun i hi g hg e => ?_, fun i hi hi2 => absurd hi2 (by omega)⟩
  have h1 := ((h.row i hi).lt g hg).2
  simp [Value.ownBlock] at e
  omega
def stAt (ls : List (List Int)) : Nat → Nat
  | 0 => 1
  | k + 1 => stAt ls k + (ls.getD k []).length
def mkAt (ls : List (List Int)) (i : Nat) : List Int := (List.range (ls.getD i []).length).map fun j => ((stAt ls i + j : Nat) : Int)
def mksL (ls : List (List Int)) : List (List Int) := (List.range ls.length).map (mkAt ls)
theorem mksL_len (ls : List (List Int)) : (mksL ls).length = ls.length := by simp [mksL]
theorem mksL_getD {ls : List (List Int)} {i : Nat} (h : i < ls.length) : (mksL ls).getD i [] = mkAt ls i := by simp [mksL, List.getD_eq_getElem?_getD, h]
theorem mkAt_len (ls : List (List Int)) (i : Nat) : (mkAt ls i).length = (ls.getD i []).length := by simp [mkAt]
theorem mkAt_map (ls : List (List Int)) (i : Nat) : (mkAt ls i).map (.int .i64) = (List.range (ls.getD i []).length).map (intMark (stAt ls i)) := by
  unfold mkAt intMark
  rw [List.map_map]
  rfl
theorem stAt_le {ls : List (List Int)} (hm : ∀ i, i < ls.length → (ls.getD i []).length ≤ 1048576) : ∀ k, k ≤ ls.length → stAt ls k ≤ 1 + k * 1048576
  | 0, _ => by simp [stAt]
  | k + 1, hk => by
    have h1 := stAt_le hm k (by omega)
    have h2 := hm k (by omega)
    unfold stAt
    rw [Nat.succ_mul]
    omega
end Go.Proofs.Yteeaafdgkepaeaa
