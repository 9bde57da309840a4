/- What goes on reading as it does whatever a reader of codes does; slices of slices that a call grows. The conditions stand in each statement. -/
import Derived.Test.YtjobbokjebhjgaaDr
import Derived.Test.YtjobbokjebhjgaaCo
namespace Go.Proofs.Ytjobbokjebhjgaa
open Go.RowKit

/-- no block from B on has turned, of those that were there -/
def Kept (B : Nat) (w w' : World) : Prop := w.heap.size ≤ w'.heap.size ∧ ∀ k, B ≤ k → k < w.heap.size → w'.heap[k]? = w.heap[k]?
theorem Kept.refl (B : Nat) (w : World) : Kept B w w := ⟨Nat.le_refl _, fun _ _ _ => rfl⟩
theorem Kept.trans {B : Nat} {a w w1 : World} (h : Kept B a w) (k : Kept B w w1) : Kept B a w1 :=
  ⟨Nat.le_trans h.1 k.1, fun i hB hi => (k.2 i hB (Nat.lt_of_lt_of_le hi h.1)).trans (h.2 i hB hi)⟩
theorem kept_grown {B g : Nat} {w w' : World} (h : w.grownBy w' (some g)) (hg : g < B) : Kept B w w' :=
  ⟨h.size, fun k hB hk => h.block k hk (fun e => by cases e; omega)⟩
theorem kept_below {B : Nat} {w w' : World} (h : Below w.heap.size w w') : Kept B w w' := ⟨h.size, fun k _ hk => h.block k hk⟩
theorem kept_set {B : Nat} {w w' : World} (h : Kept B w w') {p : Addr} (hp : p.block < B) (x : Value) : Kept B w (w'.setCell p x) :=
  ⟨by simpa [World.setCell] using h.1, fun k hB hk => (Below.heap_setCell _ _ _ _ (by omega)).trans (h.2 k hB hk)⟩
theorem own_kept {B base size n : Nat} {w w' : World} {e : TypeId} {v : Value} {xs : List Value} (h : w.ownsRow base e size v n xs) (hk : Kept B w w') (hB : B ≤ base) : w'.ownsRow base e size v n xs := by
  refine ⟨h.1, ?_⟩
  rcases h.2 with h2 | ⟨g, cap, cur, rfl, hb, hh, r⟩
  · exact .inl h2
  · exact .inr ⟨g, cap, cur, rfl, hb, (hk.2 g (by omega) (Array.getElem?_eq_some_iff.1 hh).1).trans hh, r⟩
def KI (B : Nat) (w : World) (v : Value) (l : List Int) : Prop := ∀ w', Kept B w w' → Ints w' v l
def KSS (B : Nat) (w : World) (v : Value) (ls : List (List Int)) : Prop :=
  ∃ a cap F, v = .slice a ls.length cap ∧ ((a = none ∧ cap = 0) ∨ ∃ b, a = some ⟨b, 0, none⟩) ∧ (∀ w', Kept B w w' → Row w' a ls.length cap F) ∧ ∀ i, i < ls.length → KI B w (F i) (ls.getD i [])
theorem KI.on {B : Nat} {w w1 : World} {v : Value} {l : List Int} (h : KI B w v l) (hg : Kept B w w1) : KI B w1 v l := fun w' h' => h w' (hg.trans h')
theorem KI.now {B : Nat} {w : World} {v : Value} {l : List Int} (h : KI B w v l) : Ints w v l := h w (Kept.refl _ _)
theorem KSS.on {B : Nat} {w w1 : World} {v : Value} {l : List (List Int)} (h : KSS B w v l) (hg : Kept B w w1) : KSS B w1 v l := by
  obtain ⟨a, cap, F, e, h0, h1, h2⟩ := h
  exact ⟨a, cap, F, e, h0, fun w' h' => h1 w' (hg.trans h'), fun i hi => (h2 i hi).on hg⟩
theorem KSS.now {B : Nat} {w : World} {v : Value} {l : List (List Int)} (h : KSS B w v l) : IntSS w v l := by
  obtain ⟨a, cap, F, e, _, h1, h2⟩ := h
  exact ⟨a, cap, F, e, h1 w (Kept.refl _ _), fun i hi => (h2 i hi).now⟩
theorem KSS.form {B : Nat} {w : World} {v : Value} {l : List (List Int)} (h : KSS B w v l) : ∃ a cap, v = .slice a l.length cap := h.now.form

/-- an outer row of its own, whose elements go on reading -/
structure GSS (B : Nat) (w : World) (base : Nat) (tt : TypeId) (v : Value) (ls : List (List Int)) (fs : List Value) : Prop where
  top : w.ownsRow base tt 1 v ls.length fs
  row : ∀ i, i < ls.length → ∀ w', Kept B w w' → Ints w' (fs.getD i undef) (ls.getD i [])
theorem GSS.kss {B base : Nat} {w : World} {tt : TypeId} {v : Value} {ls : List (List Int)} {fs : List Value} (h : GSS B w base tt v ls fs) (hB : B ≤ base) : KSS B w v ls := by
  obtain ⟨a, cap, e0, _⟩ := Row.of_own h.top
  have hn : (a = none ∧ cap = 0) ∨ ∃ b, a = some ⟨b, 0, none⟩ := by
    rcases h.top.2 with ⟨e, _⟩ | ⟨b, c, _, e, _⟩
    · rw [e0] at e; simp at e; exact .inl ⟨e.1, e.2.2⟩
    · rw [e0] at e; simp at e; exact .inr ⟨b, e.1⟩
  subst e0
  refine ⟨a, cap, fun i => fs.getD i undef, rfl, hn, fun w' h' => ?_, fun i hi => h.row i hi⟩
  obtain ⟨a', cap', e, h2⟩ := Row.of_own (own_kept h.top h' hB)
  cases e
  exact h2

theorem OwnSS.grown {w w' : World} {base g : Nat} {tt ti : TypeId} {v : Value} {ls : List (List Int)} {k : Nat} {fs : List Value} (h : OwnSS w base tt ti v ls k fs) (hg : w.grownBy w' (some g)) (hlt : g < base) : OwnSS w' base tt ti v ls k fs :=
  ⟨own_grown h.top hg hlt, fun i hi => own_grown (h.row i hi) hg hlt, h.apart, h.off, h.rest⟩
theorem OwnSS.gss {w : World} {base B : Nat} {tt ti : TypeId} {v : Value} {ls : List (List Int)} {fs : List Value} (h : OwnSS w base tt ti v ls ls.length fs) (hB : B ≤ base) : GSS B w base tt v ls fs :=
  ⟨h.top, fun i hi _ h' => Ints.of_own (own_kept (h.row i hi) h' hB)⟩
theorem ownSS_nil (w : World) (base : Nat) (tt ti : TypeId) : OwnSS w base tt ti (.slice none 0 0) [] 0 [] :=
  ⟨World.ownsRow_nil _ _ _ _, fun _ hi => absurd hi (Nat.not_lt_zero _), fun _ _ _ hj => absurd hj (Nat.not_lt_zero _), fun _ hi => absurd hi (Nat.not_lt_zero _), fun _ _ hi => absurd hi (Nat.not_lt_zero _)⟩
theorem getD_snoc_lt {α : Type} {l : List α} {x d : α} {i : Nat} (h : i < l.length) : (l ++ [x]).getD i d = l.getD i d := by
  simp [List.getD_eq_getElem?_getD, List.getElem?_append_left h]
theorem getD_snoc_at {α : Type} {l : List α} {x d : α} : (l ++ [x]).getD l.length d = x := by
  simp [List.getD_eq_getElem?_getD]
/-- a row more behind an outer row that a call grows -/
theorem OwnSS.push {w w' : World} {base H : Nat} {tt ti : TypeId} {v : Value} {ls : List (List Int)} {fs : List Value} (h : OwnSS w base tt ti v ls ls.length fs) {x : Value} {l : List Int} (hx : w.ownsRow base ti 1 x l.length (l.map (.int .i64)))
    (h1 : ∀ i, i < ls.length → ∀ g, (fs.getD i undef).ownBlock = some g → x.ownBlock ≠ some g) (h2 : ∀ g, v.ownBlock = some g → x.ownBlock ≠ some g)
    {b cap : Nat} (ht : w'.ownsRow base tt 1 (.slice (some ⟨b, 0, none⟩) (ls.length + 1) cap) (ls.length + 1) (fs ++ [x])) (hg : w.grownBy w' v.ownBlock) (hat : v.ownBlock = some b ∨ b = H) (hH : w.heap.size = H) :
    OwnSS w' base tt ti (.slice (some ⟨b, 0, none⟩) (ls ++ [l]).length cap) (ls ++ [l]) (ls ++ [l]).length (fs ++ [x]) := by
  have hfl : fs.length = ls.length := by have := h.top.1; omega
  have e1 : (ls ++ [l]).length = ls.length + 1 := by simp
  have offx : ∀ g, x.ownBlock = some g → b ≠ g := fun g hg' => by
    rcases hat with hat | hat
    · rintro rfl; exact h2 _ hat hg'
    · have := (hx.lt g hg').2; omega
  have offi : ∀ i, i < ls.length → ∀ g, (fs.getD i undef).ownBlock = some g → b ≠ g := fun i hi g hg' => by
    rcases hat with hat | hat
    · rintro rfl; exact h.off i hi _ hg' hat
    · have := ((h.row i hi).lt g hg').2; omega
  have keepx : ∀ {y : Value} {n : Nat} {xs : List Value}, w.ownsRow base ti 1 y n xs → (∀ g, y.ownBlock = some g → v.ownBlock ≠ some g) → w'.ownsRow base ti 1 y n xs := fun hy hne => hy.kept hg (by
    cases hv : Value.ownBlock _ with
    | none => exact .inl rfl
    | some k => exact .inr (fun e => hne k hv e.symm))
  refine ⟨by rw [e1]; exact ht, fun i hi => ?_, fun i j hij hj g hg' => ?_, fun i hi g hg' => ?_, fun i hi hi2 => absurd hi2 (by omega)⟩
  · rw [e1] at hi
    rcases Nat.lt_or_ge i ls.length with hlt | hge
    · rw [getD_snoc_lt hlt, getD_snoc_lt (by omega)]
      exact keepx (h.row i hlt) (h.off i hlt)
    · obtain rfl : i = ls.length := by omega
      rw [getD_snoc_at]
      have : (fs ++ [x]).getD ls.length undef = x := by rw [← hfl]; exact getD_snoc_at
      rw [this]
      exact keepx hx (fun g hg' e => h2 g e hg')
  · rw [e1] at hj
    rw [getD_snoc_lt (by omega)] at hg'
    rcases Nat.lt_or_ge j ls.length with hlt | hge
    · rw [getD_snoc_lt (by omega)]
      exact h.apart i j hij hlt g hg'
    · obtain rfl : j = ls.length := by omega
      have : (fs ++ [x]).getD ls.length undef = x := by rw [← hfl]; exact getD_snoc_at
      rw [this]
      exact h1 i (by omega) g hg'
  · rw [e1] at hi
    rcases Nat.lt_or_ge i ls.length with hlt | hge
    · rw [getD_snoc_lt (by omega)] at hg'
      have := offi i hlt g hg'
      simp [Value.ownBlock]; omega
    · obtain rfl : i = ls.length := by omega
      have e : (fs ++ [x]).getD ls.length undef = x := by rw [← hfl]; exact getD_snoc_at
      rw [e] at hg'
      have := offx g hg'
      simp [Value.ownBlock]; omega
theorem Blk.growNew {w w' : World} {k N : Nat} {x y : Value} {t : TypeId} {row : Option Nat} (h : Blk w k x y t) (hg : w.grownBy w' row) (hr : ∀ j, row = some j → N ≤ j) (hk : k < N) : Blk w' k x y t := by
  have := h.lt; unfold Blk at *
  rw [hg.block k this (fun e => by have := hr k e.symm; omega)]; exact h

def inB7 (ls : List (List Int)) : Prop := ∀ i, i < ls.length → InBound 7 (ls.getD i [])
theorem inB7.snoc {ls : List (List Int)} {l : List Int} (h : inB7 ls) (hl : InBound 7 l) : inB7 (ls ++ [l]) := by
  intro i hi
  rcases Nat.lt_or_ge i ls.length with hlt | hge
  · rw [getD_snoc_lt hlt]; exact h i hlt
  · obtain rfl : i = ls.length := by simp at hi; omega
    rw [getD_snoc_at]; exact hl

/-- a call gave a formula that goes on reading as it does; only the reader has turned -/
def DrawnCnf (B g : Nat) (v : Value) (P : Nat) (Q : Int → List (List Int) → Prop) (w : World) (e : Ending) (w' : World) : Prop :=
  ∃ m x ls, e = .returned (.agg #[.int .i64 m, x]) ∧ KSS B w' x ls ∧ Q m ls ∧ w.grownBy w' (some g) ∧ RdOk w' g v P
def IsCnf (m : Int) (ls : List (List Int)) : Prop := 1 ≤ m ∧ m ≤ 7 ∧ ls.length ≤ 30 ∧ inB7 ls

set_option maxRecDepth 100000 in
set_option maxHeartbeats 8000000 in
theorem l4Cnf_any (B g P : Nat) (v : Value) (w : World) (hr : RdOk w g v P) (hP : P ≤ 800000) (hB : B ≤ w.heap.size) :
    Calls Try.prog 64 #[.pointer (some ⟨g, 0, none⟩)] w (DrawnCnf B g v (P + 500) IsCnf w) := by
  have gl := hr.lt
  obtain ⟨i0, hi, hz0, hz1, hz2⟩ := info_parts infoInts
  go_enter Try.func64, Try.ntmps64
  go_wp2_with fail
  refine (pick_any g P v 7 _ (hr.alloc _) (by omega)).mono ?_
  rintro e w1 ⟨m, rfl, m0, m1, _, hg1, hr1⟩
  have m2 := m1 (by decide)
  have A := (blk_new w (.int .i64 0) (.slice none 0 0) 38).keepG hg1 (by omega)
  have G : w.grownBy w1 (some g) := grown_two (World.grownBy_alloc _ _ _) hg1
  clear m1 hg1
  go_wp2_with fail
  have A1 := A.alloc (.cells #[.int .i64 (1 + m), .slice none 0 0] 38)
  have C1 := blk_new w1 (.int .i64 (1 + m)) (.slice none 0 0) 38
  have G1 := grown_alloc G (.cells #[.int .i64 (1 + m), .slice none 0 0] 38)
  have R1 := hr1.alloc (.cells #[.int .i64 (1 + m), .slice none 0 0] 38)
  have hs1 : w.heap.size + 1 ≤ w1.heap.size := by have := A.lt; omega
  clear A G hr1
  refine (num_in (fun n => 0 ≤ n ∧ n ≤ 30) g _ v (w1.heap.size + 1) 7 7 _ (R1.alloc _) (by omega) (by omega) (by omega) (by omega) (by
    have := new_ints_in (w1.alloc (.cells #[.int .i64 (1 + m), .slice none 0 0] 38)) (fun n => 0 ≤ n ∧ n ≤ 30) [3, 6, 10, 16, 24, 30, 20] 3 (by simp)
    simpa using this)).mono ?_
  rintro e w2 ⟨_, rfl, ⟨n, rfl, n0, n1⟩, hg2, hr2⟩
  have A2 := (A1.alloc _).keepG hg2 (by omega)
  have C2 := (C1.alloc _).keepG hg2 (by omega)
  have G2 := grown_two (grown_alloc G1 _) hg2
  have hs2 : w1.heap.size + 2 ≤ w2.heap.size := by have := hg2.size; simp at this; omega
  clear hg2 A1 C1 G1 R1
  go_wp2_with fail
  refine (pick_any g _ v 2 _ hr2 (by omega)).mono ?_
  rintro e w3 ⟨q, rfl, q0, q1, _, hg3, hr3⟩
  have q2 := q1 (by decide)
  have A3 := A2.keepG hg3 (by omega)
  have C3 := C2.keepG hg3 (by omega)
  have G3 := grown_two G2 hg3
  have hs3 := hg3.size
  clear hg3 A2 C2 G2 q1 hr2
  have O3 : OwnSS w3 (w1.heap.size + 1) 22 3 (.slice none 0 0) [] 0 [] := ownSS_nil _ _ _ _
  obtain ⟨mm, rfl⟩ := Int.eq_ofNat_of_zero_le m0
  obtain ⟨nn, rfl⟩ := Int.eq_ofNat_of_zero_le n0
  generalize hN : w1.heap.size = N at *
  have em : (1 : Int) + (mm : Int) = ((mm + 1 : Nat) : Int) := by omega
  rw [em] at C3
  go_wp2_with fail
  go_loopw [6] (fun i wr => ∃ (k : Nat) (x : Value) (ls : List (List Int)) (fs : List Value), k ≤ nn ∧ i = .int .i64 k ∧ Blk wr w.heap.size (.int .i64 0) (.slice none 0 0) 38 ∧ Blk wr N (.int .i64 ((mm + 1 : Nat) : Int)) x 38 ∧ OwnSS wr (N + 1) 22 3 x ls ls.length fs ∧ ls.length ≤ k ∧ inB7 ls ∧ w.grownBy wr (some g) ∧ RdOk wr g v (P + 3 + 15 * k) ∧ N + 1 ≤ wr.heap.size) (fun i _ => nn - (intOf i).toNat)
  case atStart => exact ⟨0, _, [], [], Nat.zero_le _, rfl, A3, C3, O3, Nat.le_refl _, fun i hi => absurd hi (Nat.not_lt_zero _), G3, hr3.le (by omega), by omega⟩
  case round =>
    obtain ⟨k, x, ls, fs, hk, rfl, A, C, O, hl, h7, G, R, hs⟩ := hrel
    clear A3 C3 O3 G3 hr3
    obtain ⟨C0, C1, C2⟩ := C.cells
    by_cases hlt : k < nn
    · go_wp2_with fail
      have D := l4Draw_any g (P + 3 + 15 * k) v (mm + 1) (2 + q) wr R (by omega) (by omega)
      refine D.mono ?_
      rintro e w4 ⟨b, cap, l, rfl, L4, hq', hg4, hr4⟩
      have A4 := A.keepG hg4 (by omega)
      have C4 := C.keepG hg4 (by omega)
      have O4 := O.grown hg4 (by omega)
      have G4 := grown_two G hg4
      have hs4 := hg4.size
      have hq : InBound 7 l := ⟨by have := hq'.1; omega, fun x hx => by have := hq'.2 x hx; omega⟩
      have hd1 : ∀ i, i < ls.length → ∀ g', (fs.getD i undef).ownBlock = some g' → (Value.slice (some ⟨b, 0, none⟩) l.length cap).ownBlock ≠ some g' := fun i hi g' hg' e => by
        have h1 := ((O.row i hi).lt g' hg').2
        have h2 := (L4.lt g' e).1
        omega
      have hd2 : ∀ g', x.ownBlock = some g' → (Value.slice (some ⟨b, 0, none⟩) l.length cap).ownBlock ≠ some g' := fun g' hg' e => by
        have h1 := (O.top.lt g' hg').2
        have h2 := (L4.lt g' e).1
        omega
      obtain ⟨C40, C41, C42⟩ := C4.cells
      clear D hg4 A C O G R hq' C0 C1 C2
      by_cases hp : 0 < l.length
      · have hp2 : (0 : Int) < (l.length : Int) := by omega
        have hp3 : ¬ l = [] := by rintro rfl; simp at hp
        have A5 := A4
        have C5 := C4
        have O5 := O4
        have G5 := G4
        have R5 := hr4
        clear A4 C4 O4 G4 hr4
        have O7 := O5.below (below_self_alloc w4 (.cells #[.slice (some ⟨b, 0, none⟩) l.length cap] 22))
        have L7 := L4.alloc (.cells #[.slice (some ⟨b, 0, none⟩) l.length cap] 22)
        have A7 := A5.alloc (.cells #[.slice (some ⟨b, 0, none⟩) l.length cap] 22)
        have C7 := C5.alloc (.cells #[.slice (some ⟨b, 0, none⟩) l.length cap] 22)
        have G7 := grown_alloc G5 (.cells #[.slice (some ⟨b, 0, none⟩) l.length cap] 22)
        have R7 := R5.alloc (.cells #[.slice (some ⟨b, 0, none⟩) l.length cap] 22)
        clear O5 L4 A5 C5 G5 R5
        go_wp2_with (at_builtin; refine wpList_append_lies _ rfl _ _ _ rfl (N + 1) 22 i0 (.slice none 0 0) 1 24 Try.underlying33 hi hz0 hz1 hz2 rfl (by omega) _ ls.length fs rfl O7.top ⟨w4.heap.size, 0, none⟩ 1 1 [.slice (some ⟨b, 0, none⟩) l.length cap] rfl rfl (World.news_of_block (heap_alloc_new w4 _)) (by simp [Value.oneCell']) (by omega) (by unfold maxLen; omega) (by omega) (by simp; omega) _ rfl ?_)
        intro b8 cap8 w8 own8 hg8 hat8 hlt8
        have hrow := own_row_ge O7.top
        have A8 := A7.growNew hg8 hrow (by omega)
        have C8 := C7.growNew hg8 hrow (by omega)
        have G8 := grown_new G7 hg8 (fun j hj => by have := hrow j hj; omega)
        have R8 := R7.growNew hr hg8 (fun j hj => by have := hrow j hj; omega)
        have O8' := O7.push (Go.Joins.ownsRow_le L7 (by omega)) hd1 hd2 own8 hg8 hat8 (by simp)
        have hs8 := hg8.size
        obtain ⟨n9, e9⟩ : ∃ n, n = ls.length + 1 := ⟨_, rfl⟩
        have e8 : n9 = (ls ++ [l]).length := by simp [e9]
        have O8 : OwnSS w8 (N + 1) 22 3 (.slice (some ⟨b8, 0, none⟩) n9 cap8) (ls ++ [l]) (ls ++ [l]).length (fs ++ [.slice (some ⟨b, 0, none⟩) l.length cap]) := by rw [e8]; exact O8'
        rw [← e9]
        have hl9 : Hid ((ls ++ [l]).length ≤ k + 1) := by show _ ≤ _; simp; omega
        clear O8' e8 e9
        clear own8 hg8 hat8 O7 L7 A7 C7 G7 R7 hrow
        obtain ⟨C80, C81, C82⟩ := C8.cells
        obtain ⟨F80, F81⟩ := C8.frozen
        have A9 := A8.set_other (p := ⟨N, 1, none⟩) (z := .slice (some ⟨b8, 0, none⟩) n9 cap8) (by simp; omega)
        have C9 := C8.set1 (.slice (some ⟨b8, 0, none⟩) n9 cap8)
        have G9 := grown_set G8 (p := ⟨N, 1, none⟩) (by simp; omega) (.slice (some ⟨b8, 0, none⟩) n9 cap8)
        have R9 := R8.setNew (q := ⟨N, 1, none⟩) (x := .slice (some ⟨b8, 0, none⟩) n9 cap8) hr (by simp; omega)
        have O9 := Lib.hid (O8.setBelow (a := ⟨N, 1, none⟩) (by simp) (.slice (some ⟨b8, 0, none⟩) n9 cap8))
        have h79 := Lib.hid (h7.snoc hq)
        clear O8 A8 C8 G8 R8 h7 hl
        go_wp2_with fail
        exact ⟨⟨k + 1, _, _, _, by omega, by go_num, A9, C9, O9.out, hl9.out, h79.out, G9, R9.le (by omega), by have h8 := hlt8; have : N + 1 ≤ w8.heap.size := (by have := hs8; simp at this; omega); simp [World.setCell]; omega⟩, by simp [intOf]; omega⟩
      · obtain rfl : l = [] := by
          cases l with
          | nil => rfl
          | cons a r => simp at hp
        clear hp
        go_wp2_with fail
        refine (pick_any g _ v 40 _ hr4 (by omega)).mono ?_
        rintro e w5 ⟨p, rfl, p0, p1, _, hg5, R5⟩
        have A5 := A4.keepG hg5 (by omega)
        have C5 := C4.keepG hg5 (by omega)
        have O5 := O4.grown hg5 (by omega)
        have G5 := grown_two G4 hg5
        have L5 := own_grown L4 hg5 (by omega)
        have hs5 := hg5.size
        clear hg5 A4 C4 O4 G4 L4 hr4 p1 C40 C41 C42
        obtain ⟨C50, C51, C52⟩ := C5.cells
        by_cases hz : p = 0
        · subst hz
          have O7 := O5.below (below_self_alloc w5 (.cells #[.slice (some ⟨b, 0, none⟩) 0 cap] 22))
          have L7 := L5.alloc (.cells #[.slice (some ⟨b, 0, none⟩) 0 cap] 22)
          have A7 := A5.alloc (.cells #[.slice (some ⟨b, 0, none⟩) 0 cap] 22)
          have C7 := C5.alloc (.cells #[.slice (some ⟨b, 0, none⟩) 0 cap] 22)
          have G7 := grown_alloc G5 (.cells #[.slice (some ⟨b, 0, none⟩) 0 cap] 22)
          have R7 := R5.alloc (.cells #[.slice (some ⟨b, 0, none⟩) 0 cap] 22)
          clear O5 L5 A5 C5 G5 R5
          go_wp2_with (at_builtin; refine wpList_append_lies _ rfl _ _ _ rfl (N + 1) 22 i0 (.slice none 0 0) 1 24 Try.underlying33 hi hz0 hz1 hz2 rfl (by omega) _ ls.length fs rfl O7.top ⟨w5.heap.size, 0, none⟩ 1 1 [.slice (some ⟨b, 0, none⟩) 0 cap] rfl rfl (World.news_of_block (heap_alloc_new w5 _)) (by simp [Value.oneCell']) (by omega) (by unfold maxLen; omega) (by omega) (by simp; omega) _ rfl ?_)
          intro b8 cap8 w8 own8 hg8 hat8 hlt8
          have hrow := own_row_ge O7.top
          have A8 := A7.growNew hg8 hrow (by omega)
          have C8 := C7.growNew hg8 hrow (by omega)
          have G8 := grown_new G7 hg8 (fun j hj => by have := hrow j hj; omega)
          have R8 := R7.growNew hr hg8 (fun j hj => by have := hrow j hj; omega)
          have O8' := O7.push (Go.Joins.ownsRow_le L7 (by omega)) hd1 hd2 own8 hg8 hat8 (by simp)
          have hs8 := hg8.size
          obtain ⟨n9, e9⟩ : ∃ n, n = ls.length + 1 := ⟨_, rfl⟩
          have e8 : n9 = (ls ++ [[]]).length := by simp [e9]
          have O8 : OwnSS w8 (N + 1) 22 3 (.slice (some ⟨b8, 0, none⟩) n9 cap8) (ls ++ [[]]) (ls ++ [[]]).length (fs ++ [.slice (some ⟨b, 0, none⟩) 0 cap]) := by rw [e8]; exact O8'
          rw [← e9]
          have hl9 : Hid ((ls ++ [[]]).length ≤ k + 1) := by show _ ≤ _; simp; omega
          clear O8' e8 e9
          clear own8 hg8 hat8 O7 L7 A7 C7 G7 R7 hrow
          obtain ⟨C80, C81, C82⟩ := C8.cells
          obtain ⟨F80, F81⟩ := C8.frozen
          have A9 := A8.set_other (p := ⟨N, 1, none⟩) (z := .slice (some ⟨b8, 0, none⟩) n9 cap8) (by simp; omega)
          have C9 := C8.set1 (.slice (some ⟨b8, 0, none⟩) n9 cap8)
          have G9 := grown_set G8 (p := ⟨N, 1, none⟩) (by simp; omega) (.slice (some ⟨b8, 0, none⟩) n9 cap8)
          have R9 := R8.setNew (q := ⟨N, 1, none⟩) (x := .slice (some ⟨b8, 0, none⟩) n9 cap8) hr (by simp; omega)
          have O9 := Lib.hid (O8.setBelow (a := ⟨N, 1, none⟩) (by simp) (.slice (some ⟨b8, 0, none⟩) n9 cap8))
          have h79 := Lib.hid (h7.snoc hq)
          clear O8 A8 C8 G8 R8 h7 hl
          go_wp2_with fail
          exact ⟨⟨k + 1, _, _, _, by omega, by go_num, A9, C9, O9.out, hl9.out, h79.out, G9, R9.le (by omega), by have h8 := hlt8; have : N + 1 ≤ w8.heap.size := (by have := hs8; simp at this; omega); simp [World.setCell]; omega⟩, by simp [intOf]; omega⟩
        · have hzq : (p == 0) = false := by simpa using hz
          have O6 := Lib.hid O5
          have h76 := Lib.hid h7
          clear O5 hd1 hd2 h7
          go_wp2_with fail
          exact ⟨⟨k + 1, x, ls, fs, by omega, by go_num, A5, C5, O6.out, by omega, h76.out, G5, R5.le (by omega), by omega⟩, by simp [intOf]; omega⟩
    · obtain rfl : k = nn := by omega
      obtain ⟨A0, A1, A2⟩ := A.cells
      obtain ⟨F0, F1⟩ := A.frozen
      obtain ⟨a8, c8, e8⟩ := O.ints.form
      subst e8
      have OH := Lib.hid O
      have H7 := Lib.hid h7
      clear O h7
      go_wp2_with fail
      have Af := (A.set0 (.int .i64 ((mm : Int) + 1))).set1 (.slice a8 ls.length c8)
      obtain ⟨r0, r1, _⟩ := Af.cells
      have Gf := grown_set (grown_set G (p := ⟨w.heap.size, 0, none⟩) (by simp) (.int .i64 ((mm : Int) + 1))) (p := ⟨w.heap.size, 1, none⟩) (by simp) (.slice a8 ls.length c8)
      have Rf := (R.setNew (q := ⟨w.heap.size, 0, none⟩) (x := .int .i64 ((mm : Int) + 1)) hr (by simp)).setNew (q := ⟨w.heap.size, 1, none⟩) (x := .slice a8 ls.length c8) hr (by simp)
      have Of := ((OH.out.setBelow (a := ⟨w.heap.size, 0, none⟩) (by simp; omega) (.int .i64 ((mm : Int) + 1))).setBelow (a := ⟨w.heap.size, 1, none⟩) (by simp; omega) (.slice a8 ls.length c8))
      exact bodyPost_ret (v := .agg #[.int .i64 ((mm : Int) + 1), .slice a8 ls.length c8]) (by simp [results, Try.results64, go_sem, r0, r1]) rfl ⟨_, _, ls, rfl, (Of.gss (by omega)).kss (by omega), ⟨by omega, by omega, by omega, H7.out⟩, Gf, Rf.le (by omega)⟩
end Go.Proofs.Ytjobbokjebhjgaa
